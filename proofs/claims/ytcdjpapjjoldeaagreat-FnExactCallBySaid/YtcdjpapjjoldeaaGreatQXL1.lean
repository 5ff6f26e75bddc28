/-
  What the walks rest on (part 2).
-/
import Derived.Orders
import Derived.Tactics
import Derived.Below
import Derived.Laws.CopyRow
import Derived.Laws.AppendOwn
import Derived.IntWalk
import Derived.Lib.AppendZeros
import Derived.Scope
import Derived.OrdersIn
import Derived.TacticsIn
import Derived.RangeFuncSeq
import Derived.RangeFuncRecord
import Derived.RangeFuncLeaves
import Derived.Laws.Append
import Derived.WalkKit
import Derived.ProofKit
import Derived.OpenShut
import Derived.JoinedCond
import Derived.Carry
import Derived.Deep.Slices
import Derived.Test.YtcdjpapjjoldeaaGreatQXL0
set_option linter.unusedSimpArgs false
set_option linter.unusedVariables false
namespace Go.Proofs.YtcdjpapjjoldeaaGreat.M
def Forest (ar l : List Int) (n : Nat) : Prop := endGo ar l n = some l.length
theorem endGo_more {ar : List Int} : ∀ {a b : List Int} {n e : Nat}, endGo ar a n = some e → endGo ar (a ++ b) n = some e
 | a, b, 0, e, h => by simp [endGo] at h; subst h; simp [endGo]
 | [], b, n + 1, e, h => by simp [endGo] at h
 | x :: a, b, n + 1, e, h => by
  simp only [endGo, List.cons_append] at h ⊢
  split at h
  ·rename_i hx
   rw [if_pos hx]
   cases hr : endGo ar a (n + (arity ar x).toNat) with
   | none => rw [hr] at h; simp at h
   | some q => rw [hr] at h; rw [endGo_more hr]; exact h
  ·cases h
theorem Forest.append {ar a b : List Int} {n m : Nat} (h : Forest ar a n) (k : Forest ar b m) : Forest ar (a ++ b) (n + m) := by
 unfold Forest at *
 have h1 := endGo_more (b := b) h
 have := endGo_join (m := m) (e2 := b.length) h1 (by rw [List.drop_left]; exact k)
 rw [this, List.length_append]
theorem Forest.cons {ar r : List Int} {x : Int} {n : Nat} (hx : x < ar.length) : Forest ar (x :: r) (n + 1) ↔ Forest ar r (n + (arity ar x).toNat) := by
 unfold Forest
 simp only [endGo, if_pos hx, List.length_cons]
 cases endGo ar r (n + (arity ar x).toNat) <;> simp
theorem Forest.lt {ar r : List Int} {x : Int} {n : Nat} (h : Forest ar (x :: r) n) : ∃ m, n = m + 1 ∧ x < ar.length := by
 unfold Forest at h
 cases n with
 | zero => simp [endGo] at h
 | succ m =>
  refine ⟨m, rfl, ?_⟩
  simp only [endGo] at h
  split at h
  ·assumption
  ·cases h
theorem arity_var {ar : List Int} {x : Int} (h : x < 0) : arity ar x = 0 := by simp [arity]; omega
theorem Forest.fill {ar : List Int} {s : RowL} (hs : ∀ x : Int, x < 0 → Forest ar (lk s x) 1) : ∀ (t : List Int) (n : Nat), Forest ar t n → Forest ar (t.flatMap (lk s)) n
 | [], n, h => h
 | x :: t, n, h => by
  obtain ⟨m, rfl, hx⟩ := h.lt
  have h1 := (Forest.cons hx).1 h
  rw [List.flatMap_cons]
  by_cases h0 : x < 0
  ·rw [arity_var h0] at h1
   rw [Nat.add_comm]
   exact (hs x h0).append (Forest.fill hs t m (by simpa using h1))
  ·rw [lk_sym (by omega)]
   exact (Forest.cons hx).2 (Forest.fill hs t _ h1)
theorem fillGo_flat {s : RowL} : ∀ (t acc u : List Int), fillGo s t acc = some u → u = acc ++ t.flatMap (lk s)
 | [], acc, u, h => by simp [fillGo] at h; simp [h]
 | n :: t, acc, u, h => by
  rw [fillGo] at h
  split at h
  ·cases h
  ·rw [fillGo_flat t _ u h, List.flatMap_cons, List.append_assoc]
theorem fillL_flat {s : RowL} {t u : List Int} (h : fillL s t = some u) : u = t.flatMap (lk s) := by
 have := fillGo_flat t [] u h
 simpa using this
def RowsOk (ar : List Int) (s : RowL) : Prop := ∀ i, s.getD i [] = [] ∨ termOk ar (s.getD i []) = true
theorem lk_forest {ar : List Int} {s : RowL} (h : RowsOk ar s) (hs : sigOk ar = true) (x : Int) (hx : x < 0) : Forest ar (lk s x) 1 := by
 unfold lk
 rw [if_neg (by omega)]
 split
 ·have : Forest ar [x] (0 + 1) := (Forest.cons (by have := sigOk_spec hs; omega)).2 (by rw [arity_var hx]; rfl)
  exact this
 ·rename_i e
  exact (termOk_iff.1 ((h (varIx x)).resolve_left e)).whole
theorem lk_ge {ar : List Int} {s : RowL} (h : RowsOk ar s) {x : Int} (hx : -24 ≤ x) : ∀ y ∈ lk s x, -24 ≤ y := by
 intro y hy
 unfold lk at hy
 split at hy
 ·simp at hy; omega
 ·split at hy
  ·simp at hy; omega
  ·rename_i e; exact (termOk_iff.1 ((h (varIx x)).resolve_left e)).ge y hy
theorem fill_ok {ar : List Int} {s : RowL} {t u : List Int} (h : RowsOk ar s) (ht : termOk ar t = true) (hu : fillL s t = some u) : termOk ar u = true := by
 have hT := termOk_iff.1 ht
 have hl := fillL_len hu
 have hf := Forest.fill (lk_forest h hT.sig) t 1 hT.whole
 rw [← fillL_flat hu] at hf
 refine termOk_iff.2 ⟨hT.sig, by have := hT.pos; omega, hl.1, ?_, hf⟩
 rw [fillL_flat hu]
 intro y hy
 obtain ⟨x, hx, hy⟩ := List.mem_flatMap.1 hy
 exact lk_ge h (hT.ge x hx) y hy
theorem mGo_ok {ar t : List Int} (ht : termOk ar t = true) : ∀ (p : List Int) (i : Nat) (b r : RowL), mGo ar t p i b = some r → RowsOk ar b → RowsOk ar r
 | [], i, b, r, h, hb => by simp [mGo] at h; subst h; exact hb
 | n :: p, i, b, r, h, hb => by
  rw [mGo] at h
  split at h
  ·cases h
  ·rename_i hi
   split at h
   ·split at h
    ·exact mGo_ok ht p _ _ _ h hb
    ·cases h
   ·split at h
    ·refine mGo_ok ht p _ _ _ h (fun k => ?_)
     by_cases e : varIx n = k
     ·subst e
      rcases Nat.lt_or_ge (varIx n) b.length with hl | hl
      ·have : (b.set (varIx n) (sub ar t i)).getD (varIx n) [] = sub ar t i := by simp [List.getD_eq_getElem?_getD, hl]
       rw [this]; exact .inr (sub_ok ht (by omega))
      ·rw [List.set_eq_of_length_le hl]; exact hb _
     ·rw [List.getD_eq_getElem?_getD, List.getElem?_set_ne e, ← List.getD_eq_getElem?_getD]; exact hb k
    ·split at h
     ·exact mGo_ok ht p _ _ _ h hb
     ·cases h
theorem matchB_ok {ar p t : List Int} {b : RowL} (ht : termOk ar t = true) (h : matchB ar p t = some b) : RowsOk ar b := by
 refine mGo_ok ht p 0 _ b h (fun k => .inl ?_)
 rw [List.getD_eq_getElem?_getD, List.getElem?_replicate]
 split <;> rfl
theorem Forest.swap {ar S U B : List Int} (hS : Forest ar S 1) (hU : Forest ar U 1) (hp : S ≠ []) : ∀ (A : List Int) (n : Nat), Forest ar (A ++ S ++ B) n → Forest ar (A ++ U ++ B) n
 | [], n, h => by
  simp only [List.nil_append] at h ⊢
  cases S with
  | nil => exact absurd rfl hp
  | cons x S =>
   obtain ⟨m, rfl, _⟩ := Forest.lt h
   unfold Forest at h
   rw [Nat.add_comm] at h
   obtain ⟨e1, e2, h1, h2, h3⟩ := endGo_split h
   have h4 := endGo_more (b := B) hS
   rw [h4] at h1
   cases h1
   rw [List.drop_left] at h2
   have hB : Forest ar B m := by
    unfold Forest
    rw [h2]
    rw [List.length_append] at h3
    congr 1; omega
   rw [Nat.add_comm]
   exact hU.append hB
 | x :: A, n, h => by
  obtain ⟨m, rfl, hx⟩ := Forest.lt h
  exact (Forest.cons hx).2 (Forest.swap hS hU hp A _ ((Forest.cons hx).1 h))
theorem parts {ar t : List Int} {p : Nat} (ht : termOk ar t = true) (hp : p < t.length) : t = t.take p ++ sub ar t p ++ t.drop (endN ar t p) := by
 have he := endN_spec ht hp
 have : sub ar t p ++ t.drop (endN ar t p) = t.drop p := by
  unfold sub
  have e : t.drop (endN ar t p) = (t.drop p).drop (endN ar t p - p) := by rw [List.drop_drop]; congr 1; omega
  rw [e, List.take_append_drop]
 rw [List.append_assoc, this, List.take_append_drop]
theorem put_ok {ar t u v : List Int} {p : Nat} (ht : termOk ar t = true) (hp : p < t.length) (hu : termOk ar u = true) (h : putL ar t p u = some v) : termOk ar v = true := by
 unfold putL at h
 split at h
 ·cases h
 ·rename_i hl
  cases h
  have hT := termOk_iff.1 ht
  have hU := termOk_iff.1 hu
  refine termOk_iff.2 ⟨hT.sig, by have := hU.pos; simp; omega, by omega, ?_, ?_⟩
  ·intro x hx
   simp only [List.mem_append] at hx
   rcases hx with (hx | hx) | hx
   ·exact hT.ge x (List.mem_of_mem_take hx)
   ·exact hU.ge x hx
   ·exact hT.ge x (List.mem_of_mem_drop hx)
  ·have h1 : Forest ar (t.take p ++ sub ar t p ++ t.drop (endN ar t p)) 1 := by rw [← parts ht hp]; exact hT.whole
   exact Forest.swap (termOk_iff.1 (sub_ok ht hp)).whole hU.whole (sub_ne ht hp) _ _ h1
theorem stepL_ok {ar : List Int} {rs : Rules} {t u : List Int} {p r : Nat} (hs : sysOk ar rs = true) (ht : termOk ar t = true) (hp : p < t.length) (hr : r < rs.length) (h : stepL ar rs t p r = some u) : termOk ar u = true := by
 have hR := ruleOk_iff.1 ((sysOk_iff.1 hs).2.2 r hr)
 unfold stepL at h
 split at h
 ·cases h
 ·rename_i b hb
  split at h
  ·cases h
  ·rename_i w hw
   exact put_ok ht hp (fill_ok (matchB_ok (sub_ok ht hp) hb) hR.right hw) h
def walkGo (ar : List Int) (rs : Rules) (st : Int) : Nat → List Int → List (Int × Int × List Int) × Bool
 | 0, t => ([], decide (redL ar rs t = []))
 | n + 1, t => if redL ar rs t = [] then ([], true) else
  match stepL ar rs t (pickL ar rs t st).toNat (ruleAtL ar rs t (pickL ar rs t st).toNat).toNat with
  | none => ([], false)
  | some u => ((pickL ar rs t st, ruleAtL ar rs t (pickL ar rs t st).toNat, u) :: (walkGo ar rs st n u).1, (walkGo ar rs st n u).2)
section
variable {ar : List Int} {rs : Rules} {t u : List Int} {st : Int} {m : Nat}
end
section
variable {ar : List Int} {rs : Rules} {t : List Int} {p k j : Nat}
end
def dec (z : Int) (n : Nat) : Int := if z - n < 0 then -1 else z - n
theorem dec_neg {z : Int} {n : Nat} (h : z - n < 0) : dec z n = -1 := if_pos h
theorem dec_pos {z : Int} {n : Nat} (h : ¬ z - n < 0) : dec z n = z - n := if_neg h
theorem dec_dec {z : Int} {n m : Nat} (h : ¬ dec z n < 0) : dec (dec z n) m = dec z (n + m) := by
 unfold dec at *
 split at h
 ·omega
 ·rename_i h1
  rw [if_neg h1]
  by_cases h2 : z - n - m < 0
  ·rw [if_pos h2, if_pos (by omega)]
  ·rw [if_neg h2, if_neg (by omega)]; omega
theorem dec_out {z : Int} {n m : Nat} (h : dec z n < 0) : dec z (n + m) = -1 := by
 unfold dec at *
 split at h
 ·rw [if_pos (by omega)]
 ·omega
theorem dec_range (z : Int) (n : Nat) : -1 ≤ dec z n ∧ (0 ≤ z → dec z n ≤ z) := by
 unfold dec
 split <;> omega
theorem dec_mono {z : Int} {n m : Nat} (h : dec z n < 0) (hm : n ≤ m) : dec z m = -1 := by
 rw [show m = n + (m - n) from by omega]; exact dec_out h
theorem take_set_next {l : List Int} {k : Nat} {v : Int} (h : k < l.length) (_ : k < l.length) : (l.set k v).take (k + 1) = l.take k ++ [v] := by
 rw [take_succ_getD 0 (by simpa using h)]
 congr 1
 ·rw [List.take_set, List.set_eq_of_length_le (by simp; omega)]
 ·simp [List.getD_eq_getElem?_getD, h]
theorem dec_le {z : Int} {n : Nat} (h : ¬ dec z n < 0) : (n : Int) ≤ z := by
 unfold dec at h
 split at h <;> omega
def iota (k : Int) (n : Nat) : List Int := (List.range n).map (fun (i : Nat) => k + (i : Int))
theorem iota_len (k : Int) (n : Nat) : (iota k n).length = n := by simp [iota]
theorem iota_get {k : Int} {n i : Nat} (h : i < n) : (iota k n).getD i 0 = k + i := by simp [iota, List.getD, h]
theorem iota_add (k : Int) (n m : Nat) : iota k (n + m) = iota k n ++ iota (k + n) m := by
 unfold iota
 rw [List.range_add, List.map_append, List.map_map]
 congr 1
 apply List.map_congr_left
 intro i _
 simp only [Function.comp, Int.natCast_add]
 omega
theorem iota_zero (k : Int) : iota k 0 = [] := rfl
theorem iota_one (k : Int) : iota k 1 = [k] := by simp [iota]
def heldF (xs : List Int) (k : Int) : Int := if xs = iota k xs.length then k + xs.length else -1
theorem heldF_iota (k : Int) (n : Nat) : heldF (iota k n) k = k + n := by rw [heldF, iota_len, if_pos rfl]
theorem held_all {x : List Int} {z : Int} {k : Nat} (h : x.length ≤ k) (hos : x.take k = iota z k) : heldF x z = z + k := by
 rw [List.take_of_length_le h] at hos
 have := congrArg List.length hos
 rw [iota_len] at this
 rw [heldF, if_pos (by rw [this]; exact hos), this]
theorem heldF_snoc_no {xs : List Int} {k : Int} {i : Nat} (hi : i < xs.length) (h : xs.getD i 0 ≠ k + i) : heldF xs k = -1 := by
 rw [heldF, if_neg]
 intro e
 exact h (by rw [e, iota_get hi])
theorem iota_succ (k : Int) (n : Nat) : iota k (n + 1) = iota k n ++ [k + n] := by rw [iota_add, iota_one]
def flatRow (r : List Int) : List Int := r
def flatStep (s : Int × Int × List Int) : List Int := s.1 :: s.2.1 :: s.2.2
theorem flatMap_take_succ {α : Type} (f : α → List Int) {l : List α} {k : Nat} (d : α) (h : k < l.length) : (l.take (k + 1)).flatMap f = (l.take k).flatMap f ++ f (l.getD k d) := by
 rw [take_succ_getD d h, List.flatMap_append]; simp
theorem take_set_any {α : Type} {l : List α} {k : Nat} {v : α} (h : k < l.length) : (l.set k v).take (k + 1) = l.take k ++ [v] := by
 rw [List.take_set, List.take_succ_eq_append_getElem h, List.set_append_right _ _ (by simp; omega)]
 simp [Nat.min_eq_left (Nat.le_of_lt h)]
theorem iota_set {z : Int} {x : List Int} {k : Nat} (hk : k < x.length) : (iota z k ++ x.drop k).set k (z + k) = iota z (k + 1) ++ x.drop (k + 1) := by
 rw [List.set_append_right _ _ (by rw [iota_len]; omega), iota_len, Nat.sub_self, drop_get 0 hk, List.set_cons_zero, iota_succ, List.append_assoc]; rfl
theorem app_getD {α : Type} {d : α} {os l : List α} {k : Nat} (h : os.length = k) : (os ++ l.drop k).getD k d = l.getD k d := by
 subst h
 rw [List.getD_eq_getElem?_getD, List.getD_eq_getElem?_getD, List.getElem?_append_right (Nat.le_refl _), List.getElem?_drop]; simp
theorem app_set {α : Type} {os l : List α} {k : Nat} {x : α} (h : os.length = k) (hk : k < l.length) : (os ++ l.drop k).set k x = (os ++ [x]) ++ l.drop (k + 1) := by
 subst h
 rw [List.set_append_right _ _ (Nat.le_refl _), Nat.sub_self, List.drop_eq_getElem_cons hk, List.set_cons_zero, List.append_assoc]; rfl
theorem app_all {α : Type} {os l : List α} {k : Nat} (h : l.length ≤ k) : os ++ l.drop k = os := by rw [List.drop_eq_nil_of_le h, List.append_nil]
theorem marked {α : Type} {f : α → List Int} {os l : List α} {d x : α} {z : Int} {k : Nat} (hk : k < l.length) (h : os.flatMap f = iota z ((l.take k).flatMap f).length) (hx : f x = iota (z + ((l.take k).flatMap f).length) (f (l.getD k d)).length) :
  (os ++ [x]).flatMap f = iota z ((l.take (k + 1)).flatMap f).length := by
 rw [List.flatMap_append, h, flatMap_take_succ f d hk, List.length_append, iota_add, List.flatMap_cons, List.flatMap_nil, List.append_nil, hx]
theorem flat_take_le {α : Type} {f : α → List Int} {l : List α} {k : Nat} (d : α) (hk : k < l.length) : ((l.take k).flatMap f).length + (f (l.getD k d)).length ≤ (l.flatMap f).length := by
 have := flatMap_take_succ f d hk
 have e : l.flatMap f = (l.take (k + 1)).flatMap f ++ (l.drop (k + 1)).flatMap f := by rw [← List.flatMap_append, List.take_append_drop]
 rw [e, List.length_append, this, List.length_append]; omega
abbrev StepL := Int × Int × List Int
def endL (f : List Int) (ss : List StepL) : List Int := if ss.length = 0 then f else (ss.getD (ss.length - 1) (0, 0, [])).2.2
section
variable {ar : List Int} {rs : Rules} {t f : List Int} {ss : List StepL}
end
section
variable {α : Type} {f : α → Nat} {l : List α} {k : Nat}
def gTo (f : α → Nat) (l : List α) (k : Nat) : Nat := ((l.take k).map f).sum
theorem gTo_succ (d : α) (h : k < l.length) : gTo f l k + f (l.getD k d) = gTo f l (k + 1) := by
 unfold gTo
 rw [take_succ_getD d h]
 simp
theorem gTo_le (d : α) : ∀ (k j : Nat), k ≤ j → j ≤ l.length → gTo f l k ≤ gTo f l j := by
 intro k j hkj
 induction j with
 | zero => intro _; rw [show k = 0 from by omega]; exact Nat.le_refl _
 | succ j ih =>
  intro hj
  rcases Nat.lt_or_ge k (j + 1) with h | h
  ·have := ih (by omega) (by omega)
   rw [← gTo_succ d (show j < l.length by omega)]
   omega
  ·rw [show k = j + 1 from by omega]; exact Nat.le_refl _
def szG (f : α → Nat) (l : List α) : Nat := l.length + gTo f l l.length
theorem szG_le (d : α) : l.length ≤ szG f l ∧ ∀ i, i < l.length → f (l.getD i d) ≤ szG f l := by
 refine ⟨by unfold szG; omega, fun i hi => ?_⟩
 have h1 := gTo_succ (f := f) d hi
 have h2 := gTo_le (f := f) (l := l) d (i + 1) l.length (by omega) (Nat.le_refl _)
 unfold szG
 omega
theorem ext_any {a b : List α} (d : α) (hl : a.length = b.length) (h : ∀ i, i < a.length → a.getD i d = b.getD i d) : a = b := by
 apply List.ext_getElem hl
 intro i h1 h2
 have := h i h1
 simpa [List.getD_eq_getElem?_getD, h1, h2] using this
end
theorem dec_le2 {z : Int} {n : Nat} (h : ¬ dec z n < 0) (hz : z ≤ 1048576) : (n : Int) ≤ 1048576 ∧ dec z n ≤ 1048576 ∧ 0 ≤ dec z n := by
 have h1 := dec_le h
 unfold dec at *
 split at h <;> omega
def lenS (s : StepL) : Nat := s.2.2.length
def lenR (r : List Int) : Nat := r.length
theorem flatStep_len (ss : List StepL) : (ss.flatMap flatStep).length ≤ 2 * ss.length + gTo lenS ss ss.length := by
 unfold gTo
 rw [List.take_length, List.length_flatMap]
 induction ss with
 | nil => simp
 | cons s ss ih => simp [flatStep, lenS] at ih ⊢; omega
theorem flatRow_len (l : List (List Int)) : (l.flatMap flatRow).length = gTo lenR l l.length := by
 unfold gTo
 rw [List.take_length, List.length_flatMap]; rfl
section
variable {ar : List Int} {rs : Rules} {t u f : List Int} {ss : List StepL} {st : Int} {m k : Nat}
theorem gTo_bound {N : Nat} {l : List StepL} (h : ∀ i, i < l.length → (l.getD i (0, 0, [])).2.2.length ≤ N) : ∀ k, k ≤ l.length → gTo lenS l k ≤ k * N
 | 0, _ => by simp [gTo]
 | k + 1, hk => by
  have h1 := gTo_bound h k (by omega)
  have h2 := h k (by omega)
  rw [← gTo_succ ((0, 0, []) : StepL) (by omega), Nat.succ_mul]
  have : lenS (l.getD k (0, 0, [])) = (l.getD k (0, 0, [])).2.2.length := rfl
  omega
end
section
variable {ar : List Int} {rs : Rules} {t f u : List Int} {ss acc : List StepL} {p : Nat} {k : Nat}
end
section
variable {ar : List Int} {rs : Rules} {t f : List Int} {ss : List StepL} {s : RowL} {p : Int}
theorem fill_eq {v : List Int} (h : (fillL s f).isSome = true) : fillL s f = some v ↔ (fillL s f).getD [] = v := by
 obtain ⟨x, hx⟩ := Option.isSome_iff_exists.1 h
 rw [hx]; simp
end
end Go.Proofs.YtcdjpapjjoldeaaGreat.M
namespace Go.Proofs.YtcdjpapjjoldeaaGreat.X
open Go
theorem yielded_undef {n : Nat} {a : Act} {ρ : Env} (r : Rep n a ρ) {ops : Array Oper} {g : Nat} {t : Tmp} (ht : (ops[g]?).bind (·.dst) = some t) (hv : ρ t = undef) : yielded ops a.tmps g = none := by
 unfold yielded
 rw [ht]
 have := r.get t
 rw [hv, Array.getD_eq_getD_getElem?] at this
 cases hx : a.tmps[t]? with
 | none => simp [hx]
 | some x => rw [hx] at this; simp at this; subst this; simp [hx, undef]
theorem XL.noU {P : Program} {n : Nat} {ops : Array Oper} {l : List Oper} {Q : QX} {ρ : Env} {F : FH} {L : List HP}
  {d : Option Tmp} {op : Op} {ty : TypeId} {pos : String} {af : Array Edge} {g : Nat} {b : Bool} {t : Tmp} (ht : (ops[g]?).bind (·.dst) = some t) (hv : ρ t = undef)
  (h : XL P n ops l Q (putE ρ d undef) F L) : XL P n ops (⟨d, op, ty, pos, af, some (g, b)⟩ :: l) Q ρ F L := by
 intro ok a w r H
 simp only [opsOk, List.all_cons, Bool.and_eq_true] at ok
 unfold wpList
 rw [if_neg (by simp [Region.wanted, yielded_undef r ht hv])]
 exact h ok.2 _ _ (r.put ok.1 undef) H
def FrIntsF (F0 F : FH) (e : TypeId) (v : Value) (xs : List Int) : Prop := Fresh F0 F (intsH e v xs)
theorem FrIntsF.mono {F0 F F' : FH} {e : TypeId} {v : Value} {xs : List Int} (h : FrIntsF F0 F e v xs) (le : F ≤ F') : FrIntsF F0 F' e v xs := Fresh.mono h le
theorem FrIntsF.base {F0 F F1 : FH} {e : TypeId} {v : Value} {xs : List Int} (h : FrIntsF F1 F e v xs) (le : F0 ≤ F1) : FrIntsF F0 F e v xs := Fresh.base h le
end Go.Proofs.YtcdjpapjjoldeaaGreat.X
namespace Go.Proofs.YtcdjpapjjoldeaaGreat.M
def argsGo (ar t : List Int) : Nat → Nat → List Int
 | 0, _ => []
 | n + 1, q => (q : Int) :: argsGo ar t n (endN ar t q)
def argsL (ar t : List Int) (p : Nat) : List Int := argsGo ar t (arity ar (t.getD p 0)).toNat (p + 1)
def Stand (ar t : List Int) (n q e : Nat) : Prop := endGo ar (t.drop q) n = some (e - q) ∧ q ≤ e ∧ e ≤ t.length
theorem stand_step {ar t : List Int} (h : termOk ar t = true) {n q e : Nat} (hs : Stand ar t (n + 1) q e) : q < t.length ∧ Stand ar t n (endN ar t q) e ∧ q < endN ar t q ∧ endN ar t q ≤ e := by
 obtain ⟨h1, h2, h3⟩ := hs
 have hpos := endGo_pos h1
 have hq : q < t.length := by omega
 have h1' := h1
 rw [Nat.add_comm] at h1
 obtain ⟨e1, e2, g1, g2, g3⟩ := endGo_split h1
 have hN : endN ar t q = q + e1 := by simp [endN, endAt, g1]
 have hE := endN_spec h hq
 rw [List.drop_drop] at g2
 refine ⟨hq, ⟨?_, by omega, h3⟩, by omega, by omega⟩
 rw [hN, g2]; congr 1; omega
theorem argsGo_len (ar t : List Int) : ∀ n q, (argsGo ar t n q).length = n
 | 0, _ => rfl
 | n + 1, q => by simp [argsGo, argsGo_len ar t n]
end Go.Proofs.YtcdjpapjjoldeaaGreat.M
namespace Go.Proofs.YtcdjpapjjoldeaaGreat.X
open Go
def FR (r : Option Nat) : Fence := { Fence.wide with round := r }
theorem callsIn_FR {r : Option Nat} {n : Nat} {P : Program} {f : FuncId} {args : Array Value} {w : World} {R : Ending → World → Prop} (h : Calls P f args w R) : CallsIn (FR r) n P f args w R := by
 have h1 : CallsIn Fence.wide n P f args w R := callsIn_wide.2 h
 exact h1
structure RepD (n : Nat) (d : List Deferred) (a : Act) (ρ : Env) : Prop where
 size : a.tmps.size = n
 defers : a.defers = d
 get : ∀ i, a.tmps.getD i undef = ρ i
theorem RepD.eval {n : Nat} {d : List Deferred} {a : Act} {ρ : Env} (h : RepD n d a ρ) : a.eval = evO ρ := by
 funext x
 cases x <;> first | rfl | exact h.get _
theorem RepD.put {n : Nat} {ds : List Deferred} {a : Act} {ρ : Env} (h : RepD n ds a ρ) {d : Option Tmp} (hd : dOk n d = true) (v : Value) : RepD n ds (a.put d v) (putE ρ d v) := by
 have h' : Rep n { a with defers := [] } ρ := ⟨h.size, rfl, h.get⟩
 have := h'.put hd v
 refine ⟨?_, ?_, ?_⟩
 ·have := this.size; cases d <;> exact this
 ·cases d <;> exact h.defers
 ·have := this.get; cases d <;> exact this
section
variable {P : Program} {n : Nat} {r0 : Option Nat} {d0 : List Deferred} {ops : Array Oper} {l : List Oper} {Q : QX} {ρ : Env} {F : FH} {L : List HP}
theorem wpIn_of_XOp {o : Oper} {K : Post} {a : Act} {w : World} {Q : Exit → Act → World → Prop} {N : Act → World → Prop}
  (h : XOp P o ρ F L K) (r : RepD n d0 a ρ) (H : Holds F L w) (hd : dOk n o.dst = true) (hn : ∀ c, o.op ≠ .defer c)
  (hN : ∀ v F' L' w', F ≤ F' → Holds F' L' w' → K v F' L' → RepD n d0 (a.put o.dst v) (putE ρ o.dst v) → N (a.put o.dst v) w') : o.wpIn (FR r0) 9 P a w N Q := by
 refine ⟨fun _ _ => trivial, ?_⟩
 rw [Oper.semAt_eq _ _ _ hn, r.eval]
 rcases h w H with ⟨v, w', F', L', h1, h2, h3, h4⟩ | ⟨w', F', L', h1, h2, h3, h4⟩ | ⟨f, args, w', h1, h2⟩
 ·rw [h1]; exact hN v F' L' w' h2 h3 h4 (r.put hd v)
 ·rw [h1]; exact hN undef F' L' w' h2 h3 h4 (r.put hd undef)
 ·rw [h1]
  refine ⟨fun _ => by decide, callsIn_FR (h2.mono fun e w'' ⟨v, F', L', he, hle, hH, hk⟩ => ?_)⟩
  subst he
  exact hN v F' L' w'' hle hH hk (r.put hd v)
def Yld (P : Program) (l : Nat) (args : List Value) (F : FH) (L : List HP) (K : Post) : Prop :=
 ∀ w, Holds F L w → YieldAt Fence.wide 9 P l args.toArray w fun e w' => ∃ v F' L', e = .returned v ∧ F ≤ F' ∧ Holds F' L' w' ∧ K v F' L'
theorem Yld.mono {k : Nat} {args : List Value} {K K' : Post} (h : Yld P k args F L K) (hk : ∀ v F' L', F ≤ F' → K v F' L' → K' v F' L') : Yld P k args F L K' := by
 intro w H
 obtain ⟨fn, tmps, assign, body, hy, hr⟩ := h w H
 exact ⟨fn, tmps, assign, body, hy, hr.mono fun e w' ⟨v, F', L', a, b, c, d⟩ => ⟨v, F', L', a, b, c, hk _ _ _ b d⟩⟩
theorem Yld.weaken {k : Nat} {args : List Value} {K : Post} {L' : List HP} (s : Sub L L') (h : Yld P k args F L' K) : Yld P k args F L K := fun w H => h w (s.holds H)
end
section
variable {P : Program} {n : Nat} {r0 : Option Nat} {d0 : List Deferred} {Q : QX} {ρ : Env} {F : FH} {L : List HP}
end
section
variable {P : Program} {fn : Func} {Q : Post} {ρ : Env} {F F0 : FH} {L : List HP}
end
theorem FzC.rdN {F : FH} {L : List HP} {b o : Nat} {cs vs : List Value} (h : FzC F b cs) (hv : (cs.drop o).take vs.length = vs) : ∀ i u, vs[i]? = some u → Rd F L ((⟨b, o, none⟩ : Addr).add i) u := by
 intro i u hu
 rw [add_lit]
 refine Rd.fz (h (o + i) u ?_)
 rw [← hv, List.getElem?_take] at hu
 split at hu
 ·rwa [List.getElem?_drop] at hu
 ·cases hu
theorem Rd.all {F : FH} {L : List HP} {v : Value} {k : Nat} {es : List Value} (h : ∀ j u, es[j]? = some u → Rd F L (elemA v (k + j)) u) : ∀ i u, es[i]? = some u → Rd F L ((elemA v k).add i) u := by
 intro i u hu
 rw [elemA_add]
 exact h i u hu
abbrev FoundT := List Int × Int × StepT × Int
def FoundF (F : FH) (es : List Value) (x : FoundT) : Prop := ∃ a0 a4, es = [a0, .int .i64 x.2.1, .int .i64 x.2.2.1.1, .int .i64 x.2.2.1.2.1, a4, .int .i64 x.2.2.2] ∧ IntsF F a0 x.1 ∧ IntsF F a4 x.2.2.1.2.2
theorem FoundF.mono {F F' : FH} (le : F ≤ F') (es : List Value) (x : FoundT) (h : FoundF F es x) : FoundF F' es x := by
 obtain ⟨a0, a4, e, h0, h4⟩ := h
 exact ⟨a0, a4, e, h0.mono le, h4.mono le⟩
def FoundsF (F : FH) (v : Value) (xs : List FoundT) (cs : List Value) : Prop := ArrF F 6 v xs.length cs ∧ CO 6 FoundF ([], 0, (0, 0, []), 0) F cs xs
theorem FoundsF.mono {F F' : FH} {v : Value} {xs : List FoundT} {cs : List Value} (h : FoundsF F v xs cs) (le : F ≤ F') : FoundsF F' v xs cs := ⟨h.1.mono le, CO.mono (FoundF.mono le) h.2⟩
theorem FoundsF.slv {F : FH} {L : List HP} {v : Value} {xs : List FoundT} {cs : List Value} (h : FoundsF F v xs cs) : SlV F L v xs.length := SlV.arr h.1
theorem FoundsF.isSl {F : FH} {v : Value} {xs : List FoundT} {cs : List Value} (h : FoundsF F v xs cs) : IsSl v := h.1.isSl
theorem FoundsF.rd {F : FH} {v : Value} {xs : List FoundT} {cs : List Value} (h : FoundsF F v xs cs) {i : Nat} (hi : i < xs.length) : ∃ a0 a4, IntsF F a0 (xs.getD i ([], 0, (0, 0, []), 0)).1 ∧ IntsF F a4 (xs.getD i ([], 0, (0, 0, []), 0)).2.2.1.2.2 ∧ (∀ L j u, ([a0, .int .i64 (xs.getD i ([], 0, (0, 0, []), 0)).2.1, .int .i64 (xs.getD i ([], 0, (0, 0, []), 0)).2.2.1.1, .int .i64 (xs.getD i ([], 0, (0, 0, []), 0)).2.2.1.2.1, a4, .int .i64 (xs.getD i ([], 0, (0, 0, []), 0)).2.2.2] : List Value)[j]? = some u → Rd F L (elemA v (i * 6 + j)) u) ∧ (∀ j u, ([a0, .int .i64 (xs.getD i ([], 0, (0, 0, []), 0)).2.1, .int .i64 (xs.getD i ([], 0, (0, 0, []), 0)).2.2.1.1, .int .i64 (xs.getD i ([], 0, (0, 0, []), 0)).2.2.1.2.1, a4, .int .i64 (xs.getD i ([], 0, (0, 0, []), 0)).2.2.2] : List Value)[j]? = some u → cs[i * 6 + j]? = some u) := by
 obtain ⟨es, h1, h2, a0, a4, rfl, h0, h4⟩ := h.2.2 i hi
 refine ⟨a0, a4, h0, h4, fun L j u hu => ?_, fun j u hu => ?_⟩
 ·have := Rd.arrN (L := L) (k := i * 6) (vs := [a0, .int .i64 (xs.getD i ([], 0, (0, 0, []), 0)).2.1, .int .i64 (xs.getD i ([], 0, (0, 0, []), 0)).2.2.1.1, .int .i64 (xs.getD i ([], 0, (0, 0, []), 0)).2.2.1.2.1, a4, .int .i64 (xs.getD i ([], 0, (0, 0, []), 0)).2.2.2]) h.1 (by rw [h1]; exact h2) j u hu
  rwa [elemA_add] at this
 ·rw [← h2, List.getElem?_take] at hu
  split at hu
  ·rwa [List.getElem?_drop] at hu
  ·cases hu
def FoundsC (F : FH) (cs : List Value) (xs : List FoundT) : Prop := CO 6 FoundF ([], 0, (0, 0, []), 0) F cs xs
theorem FoundsC.mono {F F' : FH} {cs : List Value} {xs : List FoundT} (h : FoundsC F cs xs) (le : F ≤ F') : FoundsC F' cs xs := CO.mono (FoundF.mono le) h
theorem FoundsC.snoc {F : FH} {cs : List Value} {xs : List FoundT} {a0 a4 : Value} {y0 : List Int} {y1 : Int} {y2 : Int} {y3 : Int} {y4 : List Int} {y5 : Int} (h : FoundsC F cs xs) (h0 : IntsF F a0 y0) (h4 : IntsF F a4 y4) : FoundsC F (cs ++ [a0, .int .i64 y1, .int .i64 y2, .int .i64 y3, a4, .int .i64 y5]) (xs ++ [(y0, y1, (y2, y3, y4), y5)]) := CO.snoc h rfl ⟨a0, a4, rfl, h0, h4⟩
theorem FoundsC.get {F : FH} {cs : List Value} {xs : List FoundT} (h : FoundsC F cs xs) {i : Nat} (hi : i < xs.length) : ∃ a0 a4, IntsF F a0 (xs.getD i ([], 0, (0, 0, []), 0)).1 ∧ IntsF F a4 (xs.getD i ([], 0, (0, 0, []), 0)).2.2.1.2.2 ∧ (∀ j u, ([a0, .int .i64 (xs.getD i ([], 0, (0, 0, []), 0)).2.1, .int .i64 (xs.getD i ([], 0, (0, 0, []), 0)).2.2.1.1, .int .i64 (xs.getD i ([], 0, (0, 0, []), 0)).2.2.1.2.1, a4, .int .i64 (xs.getD i ([], 0, (0, 0, []), 0)).2.2.2] : List Value)[j]? = some u → cs[i * 6 + j]? = some u) := by
 obtain ⟨es, hl, ⟨a0, a4, rfl, h0, h4⟩, hr⟩ := CO.get h hi
 exact ⟨a0, a4, h0, h4, hr⟩
theorem FoundsC.fz {F : FH} {cs : List Value} {xs : List FoundT} {E : TypeId} {v : Value} {n : Nat} (h : FoundsC F cs xs) (hn : n = xs.length) (hf : Fz (slH E 6 v n cs) F) : FoundsF F v xs cs := by
 subst hn
 exact ⟨hf.sl, h⟩
abbrev MoveT := Int × Int × Bool × List Int
def MoveF (F : FH) (es : List Value) (x : MoveT) : Prop := ∃ a3, es = [.int .i64 x.1, .int .i64 x.2.1, .bool x.2.2.1, a3] ∧ IntsF F a3 x.2.2.2
theorem MoveF.mono {F F' : FH} (le : F ≤ F') (es : List Value) (x : MoveT) (h : MoveF F es x) : MoveF F' es x := by
 obtain ⟨a3, e, h3⟩ := h
 exact ⟨a3, e, h3.mono le⟩
def MovesF : FH → Value → List MoveT → Prop := SlOf 4 MoveF (0, 0, false, [])
theorem MovesF.mono {F F' : FH} {v : Value} {xs : List MoveT} (h : MovesF F v xs) (le : F ≤ F') : MovesF F' v xs := SlOf.mono (MoveF.mono le) h le
theorem MovesF.slv {F : FH} {L : List HP} {v : Value} {xs : List MoveT} (h : MovesF F v xs) : SlV F L v xs.length := SlOf.slv h
theorem MovesF.isSl {F : FH} {v : Value} {xs : List MoveT} (h : MovesF F v xs) : IsSl v := by obtain ⟨_, h, _⟩ := h; exact h.isSl
theorem MovesF.rd {F : FH} {v : Value} {xs : List MoveT} (h : MovesF F v xs) {i : Nat} (hi : i < xs.length) : ∃ a3, IntsF F a3 (xs.getD i (0, 0, false, [])).2.2.2 ∧ (∀ L j u, ([.int .i64 (xs.getD i (0, 0, false, [])).1, .int .i64 (xs.getD i (0, 0, false, [])).2.1, .bool (xs.getD i (0, 0, false, [])).2.2.1, a3] : List Value)[j]? = some u → Rd F L (elemA v (i * 4 + j)) u) ∧ True := by
 obtain ⟨es, hl, ⟨a3, rfl, h3⟩, hr⟩ := SlOf.get h hi
 exact ⟨a3, h3, hr, trivial⟩
def MovesC (F : FH) (cs : List Value) (xs : List MoveT) : Prop := CO 4 MoveF (0, 0, false, []) F cs xs
theorem MovesC.mono {F F' : FH} {cs : List Value} {xs : List MoveT} (h : MovesC F cs xs) (le : F ≤ F') : MovesC F' cs xs := CO.mono (MoveF.mono le) h
theorem MovesC.snoc {F : FH} {cs : List Value} {xs : List MoveT} {a3 : Value} {y0 : Int} {y1 : Int} {y2 : Bool} {y3 : List Int} (h : MovesC F cs xs) (h3 : IntsF F a3 y3) : MovesC F (cs ++ [.int .i64 y0, .int .i64 y1, .bool y2, a3]) (xs ++ [(y0, y1, y2, y3)]) := CO.snoc h rfl ⟨a3, rfl, h3⟩
theorem MovesC.get {F : FH} {cs : List Value} {xs : List MoveT} (h : MovesC F cs xs) {i : Nat} (hi : i < xs.length) : ∃ a3, IntsF F a3 (xs.getD i (0, 0, false, [])).2.2.2 ∧ (∀ j u, ([.int .i64 (xs.getD i (0, 0, false, [])).1, .int .i64 (xs.getD i (0, 0, false, [])).2.1, .bool (xs.getD i (0, 0, false, [])).2.2.1, a3] : List Value)[j]? = some u → cs[i * 4 + j]? = some u) := by
 obtain ⟨es, hl, ⟨a3, rfl, h3⟩, hr⟩ := CO.get h hi
 exact ⟨a3, h3, hr⟩
abbrev PolyT := Int × List Int
def PolyF (F : FH) (es : List Value) (x : PolyT) : Prop := ∃ a1, es = [.int .i64 x.1, a1] ∧ IntsF F a1 x.2
theorem PolyF.mono {F F' : FH} (le : F ≤ F') (es : List Value) (x : PolyT) (h : PolyF F es x) : PolyF F' es x := by
 obtain ⟨a1, e, h1⟩ := h
 exact ⟨a1, e, h1.mono le⟩
def PolysF : FH → Value → List PolyT → Prop := SlOf 2 PolyF (0, [])
theorem PolysF.mono {F F' : FH} {v : Value} {xs : List PolyT} (h : PolysF F v xs) (le : F ≤ F') : PolysF F' v xs := SlOf.mono (PolyF.mono le) h le
theorem PolysF.slv {F : FH} {L : List HP} {v : Value} {xs : List PolyT} (h : PolysF F v xs) : SlV F L v xs.length := SlOf.slv h
theorem PolysF.isSl {F : FH} {v : Value} {xs : List PolyT} (h : PolysF F v xs) : IsSl v := by obtain ⟨_, h, _⟩ := h; exact h.isSl
theorem PolysF.rd {F : FH} {v : Value} {xs : List PolyT} (h : PolysF F v xs) {i : Nat} (hi : i < xs.length) : ∃ a1, IntsF F a1 (xs.getD i (0, [])).2 ∧ (∀ L j u, ([.int .i64 (xs.getD i (0, [])).1, a1] : List Value)[j]? = some u → Rd F L (elemA v (i * 2 + j)) u) ∧ True := by
 obtain ⟨es, hl, ⟨a1, rfl, h1⟩, hr⟩ := SlOf.get h hi
 exact ⟨a1, h1, hr, trivial⟩
def PolysC (F : FH) (cs : List Value) (xs : List PolyT) : Prop := CO 2 PolyF (0, []) F cs xs
theorem PolysC.mono {F F' : FH} {cs : List Value} {xs : List PolyT} (h : PolysC F cs xs) (le : F ≤ F') : PolysC F' cs xs := CO.mono (PolyF.mono le) h
theorem PolysC.snoc {F : FH} {cs : List Value} {xs : List PolyT} {a1 : Value} {y0 : Int} {y1 : List Int} (h : PolysC F cs xs) (h1 : IntsF F a1 y1) : PolysC F (cs ++ [.int .i64 y0, a1]) (xs ++ [(y0, y1)]) := CO.snoc h rfl ⟨a1, rfl, h1⟩
theorem PolysC.get {F : FH} {cs : List Value} {xs : List PolyT} (h : PolysC F cs xs) {i : Nat} (hi : i < xs.length) : ∃ a1, IntsF F a1 (xs.getD i (0, [])).2 ∧ (∀ j u, ([.int .i64 (xs.getD i (0, [])).1, a1] : List Value)[j]? = some u → cs[i * 2 + j]? = some u) := by
 obtain ⟨es, hl, ⟨a1, rfl, h1⟩, hr⟩ := CO.get h hi
 exact ⟨a1, h1, hr⟩
abbrev LineT := Int × List (List Int) × List Int
def LineF (F : FH) (es : List Value) (x : LineT) : Prop := ∃ a1 a2, es = [.int .i64 x.1, a1, a2] ∧ RowsF F a1 x.2.1 ∧ IntsF F a2 x.2.2
theorem LineF.mono {F F' : FH} (le : F ≤ F') (es : List Value) (x : LineT) (h : LineF F es x) : LineF F' es x := by
 obtain ⟨a1, a2, e, h1, h2⟩ := h
 exact ⟨a1, a2, e, h1.mono le, h2.mono le⟩
def LinesF : FH → Value → List LineT → Prop := SlOf 3 LineF (0, [], [])
theorem LinesF.mono {F F' : FH} {v : Value} {xs : List LineT} (h : LinesF F v xs) (le : F ≤ F') : LinesF F' v xs := SlOf.mono (LineF.mono le) h le
theorem LinesF.slv {F : FH} {L : List HP} {v : Value} {xs : List LineT} (h : LinesF F v xs) : SlV F L v xs.length := SlOf.slv h
theorem LinesF.isSl {F : FH} {v : Value} {xs : List LineT} (h : LinesF F v xs) : IsSl v := by obtain ⟨_, h, _⟩ := h; exact h.isSl
theorem LinesF.rd {F : FH} {v : Value} {xs : List LineT} (h : LinesF F v xs) {i : Nat} (hi : i < xs.length) : ∃ a1 a2, RowsF F a1 (xs.getD i (0, [], [])).2.1 ∧ IntsF F a2 (xs.getD i (0, [], [])).2.2 ∧ (∀ L j u, ([.int .i64 (xs.getD i (0, [], [])).1, a1, a2] : List Value)[j]? = some u → Rd F L (elemA v (i * 3 + j)) u) ∧ True := by
 obtain ⟨es, hl, ⟨a1, a2, rfl, h1, h2⟩, hr⟩ := SlOf.get h hi
 exact ⟨a1, a2, h1, h2, hr, trivial⟩
def LinesC (F : FH) (cs : List Value) (xs : List LineT) : Prop := CO 3 LineF (0, [], []) F cs xs
theorem LinesC.mono {F F' : FH} {cs : List Value} {xs : List LineT} (h : LinesC F cs xs) (le : F ≤ F') : LinesC F' cs xs := CO.mono (LineF.mono le) h
theorem LinesC.snoc {F : FH} {cs : List Value} {xs : List LineT} {a1 a2 : Value} {y0 : Int} {y1 : List (List Int)} {y2 : List Int} (h : LinesC F cs xs) (h1 : RowsF F a1 y1) (h2 : IntsF F a2 y2) : LinesC F (cs ++ [.int .i64 y0, a1, a2]) (xs ++ [(y0, y1, y2)]) := CO.snoc h rfl ⟨a1, a2, rfl, h1, h2⟩
theorem LinesC.get {F : FH} {cs : List Value} {xs : List LineT} (h : LinesC F cs xs) {i : Nat} (hi : i < xs.length) : ∃ a1 a2, RowsF F a1 (xs.getD i (0, [], [])).2.1 ∧ IntsF F a2 (xs.getD i (0, [], [])).2.2 ∧ (∀ j u, ([.int .i64 (xs.getD i (0, [], [])).1, a1, a2] : List Value)[j]? = some u → cs[i * 3 + j]? = some u) := by
 obtain ⟨es, hl, ⟨a1, a2, rfl, h1, h2⟩, hr⟩ := CO.get h hi
 exact ⟨a1, a2, h1, h2, hr⟩
abbrev CRuleT := List Int × List Int × List (List Int × List Int)
def CRuleF (F : FH) (es : List Value) (x : CRuleT) : Prop := ∃ a0 a1 a2, es = [a0, a1, a2] ∧ IntsF F a0 x.1 ∧ IntsF F a1 x.2.1 ∧ PairsF F a2 x.2.2
theorem CRuleF.mono {F F' : FH} (le : F ≤ F') (es : List Value) (x : CRuleT) (h : CRuleF F es x) : CRuleF F' es x := by
 obtain ⟨a0, a1, a2, e, h0, h1, h2⟩ := h
 exact ⟨a0, a1, a2, e, h0.mono le, h1.mono le, h2.mono le⟩
def CRulesF : FH → Value → List CRuleT → Prop := SlOf 3 CRuleF ([], [], [])
theorem CRulesF.mono {F F' : FH} {v : Value} {xs : List CRuleT} (h : CRulesF F v xs) (le : F ≤ F') : CRulesF F' v xs := SlOf.mono (CRuleF.mono le) h le
theorem CRulesF.slv {F : FH} {L : List HP} {v : Value} {xs : List CRuleT} (h : CRulesF F v xs) : SlV F L v xs.length := SlOf.slv h
theorem CRulesF.isSl {F : FH} {v : Value} {xs : List CRuleT} (h : CRulesF F v xs) : IsSl v := by obtain ⟨_, h, _⟩ := h; exact h.isSl
theorem CRulesF.rd {F : FH} {v : Value} {xs : List CRuleT} (h : CRulesF F v xs) {i : Nat} (hi : i < xs.length) : ∃ a0 a1 a2, IntsF F a0 (xs.getD i ([], [], [])).1 ∧ IntsF F a1 (xs.getD i ([], [], [])).2.1 ∧ PairsF F a2 (xs.getD i ([], [], [])).2.2 ∧ (∀ L j u, ([a0, a1, a2] : List Value)[j]? = some u → Rd F L (elemA v (i * 3 + j)) u) ∧ True := by
 obtain ⟨es, hl, ⟨a0, a1, a2, rfl, h0, h1, h2⟩, hr⟩ := SlOf.get h hi
 exact ⟨a0, a1, a2, h0, h1, h2, hr, trivial⟩
def CRulesC (F : FH) (cs : List Value) (xs : List CRuleT) : Prop := CO 3 CRuleF ([], [], []) F cs xs
theorem CRulesC.mono {F F' : FH} {cs : List Value} {xs : List CRuleT} (h : CRulesC F cs xs) (le : F ≤ F') : CRulesC F' cs xs := CO.mono (CRuleF.mono le) h
theorem CRulesC.snoc {F : FH} {cs : List Value} {xs : List CRuleT} {a0 a1 a2 : Value} {y0 : List Int} {y1 : List Int} {y2 : List (List Int × List Int)} (h : CRulesC F cs xs) (h0 : IntsF F a0 y0) (h1 : IntsF F a1 y1) (h2 : PairsF F a2 y2) : CRulesC F (cs ++ [a0, a1, a2]) (xs ++ [(y0, y1, y2)]) := CO.snoc h rfl ⟨a0, a1, a2, rfl, h0, h1, h2⟩
theorem CRulesC.get {F : FH} {cs : List Value} {xs : List CRuleT} (h : CRulesC F cs xs) {i : Nat} (hi : i < xs.length) : ∃ a0 a1 a2, IntsF F a0 (xs.getD i ([], [], [])).1 ∧ IntsF F a1 (xs.getD i ([], [], [])).2.1 ∧ PairsF F a2 (xs.getD i ([], [], [])).2.2 ∧ (∀ j u, ([a0, a1, a2] : List Value)[j]? = some u → cs[i * 3 + j]? = some u) := by
 obtain ⟨es, hl, ⟨a0, a1, a2, rfl, h0, h1, h2⟩, hr⟩ := CO.get h hi
 exact ⟨a0, a1, a2, h0, h1, h2, hr⟩
def XStepsF (F : FH) (v : Value) (xs : List StepT) (cs : List Value) : Prop := ArrF F 3 v xs.length cs ∧ StepsC F cs xs
theorem XStepsF.mono {F F' : FH} {v : Value} {xs : List StepT} {cs : List Value} (h : XStepsF F v xs cs) (le : F ≤ F') : XStepsF F' v xs cs := ⟨h.1.mono le, h.2.mono le⟩
theorem XStepsF.slv {F : FH} {L : List HP} {v : Value} {xs : List StepT} {cs : List Value} (h : XStepsF F v xs cs) : SlV F L v xs.length := SlV.arr h.1
theorem XStepsF.isSl {F : FH} {v : Value} {xs : List StepT} {cs : List Value} (h : XStepsF F v xs cs) : IsSl v := h.1.isSl
theorem XStepsF.rd {F : FH} {v : Value} {xs : List StepT} {cs : List Value} (h : XStepsF F v xs cs) {i : Nat} (hi : i < xs.length) : ∃ c, IntsF F c (xs.getD i (0, 0, [])).2.2 ∧ (∀ L, Rd F L (elemA v (i * 3)) (.int .i64 (xs.getD i (0, 0, [])).1)) ∧ (∀ L, Rd F L (elemA v (i * 3 + 1)) (.int .i64 (xs.getD i (0, 0, [])).2.1)) ∧ (∀ L, Rd F L (elemA v (i * 3 + 2)) c) ∧ cs[i * 3 + 2]? = some c := by
 obtain ⟨es, h1, h2, c, rfl, hc⟩ := h.2.2 i hi
 have hq : ∀ j u, ([.int .i64 (xs.getD i (0, 0, [])).1, .int .i64 (xs.getD i (0, 0, [])).2.1, c] : List Value)[j]? = some u → cs[i * 3 + j]? = some u := by
  intro j u hu
  rw [← h2, List.getElem?_take] at hu
  split at hu
  ·rwa [List.getElem?_drop] at hu
  ·cases hu
 have hr : ∀ L j u, ([.int .i64 (xs.getD i (0, 0, [])).1, .int .i64 (xs.getD i (0, 0, [])).2.1, c] : List Value)[j]? = some u → Rd F L (elemA v (i * 3 + j)) u := by
  intro L j u hu
  have := Rd.arrN (L := L) (k := i * 3) (vs := [.int .i64 (xs.getD i (0, 0, [])).1, .int .i64 (xs.getD i (0, 0, [])).2.1, c]) h.1 (by rw [h1]; exact h2) j u hu
  rwa [elemA_add] at this
 exact ⟨c, hc, fun L => by simpa using hr L 0 _ rfl, fun L => hr L 1 _ rfl, fun L => hr L 2 _ rfl, hq 2 _ rfl⟩
section
variable {F F' : FH} {A B M : List HP} {h : HP}
theorem Fresh.none (k : Fresh F F' (star (A ++ B))) : Fresh F F' (star A) := by
 obtain ⟨m, hm, nd, hp⟩ := k
 obtain ⟨a, b, ha, hb, rfl⟩ := star_append.1 hm
 refine ⟨a, ha, ?_, fun p h' => hp p (List.mem_append_left _ h')⟩
 rw [List.map_append] at nd
 exact (List.nodup_append.1 nd).1
end
def FrStepsF (F0 F : FH) (e : TypeId) (v : Value) (xs : List StepT) : Prop := ∃ acs Ls, XStepsF F v xs acs ∧ DeepL 3 (StepO e) acs xs Ls ∧ Fresh F0 F (star Ls)
theorem FrStepsF.mono {F0 F F' : FH} {e : TypeId} {v : Value} {xs : List StepT} (h : FrStepsF F0 F e v xs) (le : F ≤ F') : FrStepsF F0 F' e v xs := by
 obtain ⟨acs, Ls, h1, h2, h3⟩ := h
 exact ⟨acs, Ls, h1.mono le, h2, h3.mono le⟩
theorem FrStepsF.base {F0 F F1 : FH} {e : TypeId} {v : Value} {xs : List StepT} (h : FrStepsF F1 F e v xs) (le : F0 ≤ F1) : FrStepsF F0 F e v xs := by
 obtain ⟨acs, Ls, h1, h2, h3⟩ := h
 exact ⟨acs, Ls, h1, h2, h3.base le⟩
theorem FrStepsF.isSl {F0 F : FH} {e : TypeId} {v : Value} {xs : List StepT} (h : FrStepsF F0 F e v xs) : IsSl v := by
 obtain ⟨acs, Ls, h1, _, _⟩ := h
 exact h1.isSl
section
variable {F F' G F1 F2 : FH} {D D' : HP} {L M : List HP} {P : Program} {o : Oper} {ρ : Env} {K : Post} {e E : TypeId}
theorem Fresh.perm {A B : List HP} (h : Fresh F F' (star A)) (p : A.Perm B) : Fresh F F' (star B) := by
 obtain ⟨m, hm, nd, hp⟩ := h
 obtain ⟨l, hl, pl⟩ := star_perm p m hm
 exact ⟨l, hl, ((pl.map Prod.fst).nodup_iff).2 nd, fun q hq => hp q (pl.mem_iff.1 hq)⟩
theorem Fresh.left {A B : List HP} (h : Fresh F F' (star (A ++ B))) : Fresh F F' (star A) := h.none
theorem Fresh.right {A B : List HP} (h : Fresh F F' (star (A ++ B))) : Fresh F F' (star B) := (h.perm List.perm_append_comm).none
theorem StepsC.get {F : FH} {cs : List Value} {xs : List StepT} (h : StepsC F cs xs) {i : Nat} (hi : i < xs.length) :
  ∃ a, IntsF F a (xs.getD i (0, 0, [])).2.2 ∧ cs[i * 3]? = some (.int .i64 (xs.getD i (0, 0, [])).1) ∧ cs[i * 3 + 1]? = some (.int .i64 (xs.getD i (0, 0, [])).2.1) ∧ cs[i * 3 + 2]? = some a := by
 obtain ⟨es, _, ⟨a, rfl, ha⟩, hg⟩ := CO.get h hi
 exact ⟨a, ha, by simpa using hg 0 _ rfl, hg 1 _ rfl, hg 2 _ rfl⟩
def FreshsF (F0 F : FH) (D : HP) : Prop := Fresh F0 F D
theorem FreshsF.mono {F0 F F' : FH} {D : HP} (h : FreshsF F0 F D) (le : F ≤ F') : FreshsF F0 F' D := Fresh.mono h le
theorem slH.isSl {s n : Nat} {v : Value} {cs : List Value} {l : OH} (h : slH E s v n cs l) : IsSl v := by
 rcases h.2 with ⟨b, rfl, _⟩ | ⟨b, c, sp, rfl, _⟩
 ·exact ⟨_, _, _, rfl⟩
 ·exact ⟨_, _, _, rfl⟩
end
section
variable {F F' G : FH} {e E : TypeId} {v : Value}
def MoveO (e : TypeId) (es : List Value) (x : MoveT) (K : List HP) : Prop := ∃ c, es = [.int .i64 x.1, .int .i64 x.2.1, .bool x.2.2.1, c] ∧ K = [intsH e c x.2.2.2]
abbrev movesD (e E : TypeId) (v : Value) (xs : List MoveT) : HP := deepH 4 (MoveO e) E v xs
theorem MoveO.fz (es : List Value) (x : MoveT) (K : List HP) (h : MoveO e es x K) (hz : ∃ l, star K l ∧ ∀ p ∈ l, F.cells p.1 = some p.2) : MoveF F es x := by
 obtain ⟨c, rfl, rfl⟩ := h
 exact ⟨c, rfl, intsH.fz (E := e) (frozen_star hz _ (by simp))⟩
theorem movesD.fz {xs : List MoveT} (h : Fz (movesD e E v xs) F) : MovesF F v xs := deepH.fz MoveO.fz h
end
section
variable {P : Program} {ρ : Env} {F : FH} {L : List HP} {K : Post} {d : Option Tmp} {ty : TypeId} {pos : String} {af : Array Edge} {g : Option (Nat × Bool)}
end
theorem StepsC.ones {F : FH} {cs : List Value} {xs : List StepT} (h : StepsC F cs xs) : ∀ u ∈ cs, u.oneCell' = true := by
 intro u hu
 obtain ⟨q, hq, rfl⟩ := List.getElem_of_mem hu
 have hl := h.1
 obtain ⟨es, h1, ⟨c, rfl, hc⟩, hg⟩ := CO.get h (i := q / 3) (by omega)
 have hj : q % 3 < 3 := Nat.mod_lt _ (by decide)
 have e : q / 3 * 3 + q % 3 = q := by omega
 have hx : ∀ v, [Value.int .i64 (xs.getD (q / 3) (0, 0, [])).1, .int .i64 (xs.getD (q / 3) (0, 0, [])).2.1, c][q % 3]? = some v → cs[q] = v := fun v hv => by
  have := hg (q % 3) v hv
  rw [e, List.getElem?_eq_getElem hq] at this
  exact Option.some.inj this
 obtain ⟨b, n, k, rfl⟩ := IntsF.isSl hc
 match hm : q % 3, hj with
 | 0, _ => rw [hx _ (by rw [hm]; rfl)]; rfl
 | 1, _ => rw [hx _ (by rw [hm]; rfl)]; rfl
 | 2, _ => rw [hx _ (by rw [hm]; rfl)]; rfl
def WKJ (F0 : FH) (e ES T : TypeId) (bw : Nat) (fv : Value) (tl : List HP) (I : Nat → List StepT → Prop) (k : Nat) (Fy : FH) (Ly : List HP) : Prop :=
 ∃ (sv : Value) (ss : List StepT) (cs : List Value) (Ls : List HP) (m : Nat), IsSl sv ∧ StepsC Fy cs ss ∧ m = ss.length ∧ DeepL 3 (StepO e) cs ss Ls ∧ Fresh F0 Fy (star Ls) ∧ I k ss ∧ Ly = cellsH bw [fv, sv] T :: slH ES 3 sv m cs :: tl
theorem WKJ.mono {F0 F F' : FH} {e ES T : TypeId} {bw k : Nat} {fv : Value} {tl L : List HP} {I : Nat → List StepT → Prop} (h : WKJ F0 e ES T bw fv tl I k F L) (le : F ≤ F') : WKJ F0 e ES T bw fv tl I k F' L :=
 let ⟨sv, ss, cs, Ls, m, h1, h2, h3, h4, h5, h6, h7⟩ := h
 ⟨sv, ss, cs, Ls, m, h1, h2.mono le, h3, h4, h5.mono le, h6, h7⟩
section
variable {P : Program} {fn : Func} {Q : Post} {ρ : Env} {F F0 : FH} {L : List HP}
theorem Does.at {f : FuncId} {args : List Value} {Q : Value → FH → Prop} {h : HP} (A : List HP) {B : List HP} (H : Does P f args F (h :: (A ++ B)) fun v F' L' => Q v F' ∧ h :: (A ++ B) = L') : Does P f args F (A ++ h :: B) fun v F' L' => Q v F' ∧ A ++ h :: B = L' := fun w Hw =>
 (H w (Sub.front.holds Hw)).mono fun _ _ ⟨v, F', L', he, le, H', hq, hl⟩ => ⟨v, F', _, he, le, Sub.back.holds (hl ▸ H'), hq, rfl⟩
end
section
variable {P : Program} {ρ : Env} {F : FH} {L : List HP} {K : Post} {d : Option Tmp} {ty : TypeId} {pos : String} {af : Array Edge} {g : Option (Nat × Bool)}
end
abbrev PPost := List PanicEntry → FH → List HP → Prop
def DoesP (P : Program) (f : FuncId) (args : List Value) (F : FH) (L : List HP) (Q : Post) (K : PPost) : Prop :=
 ∀ w, Holds F L w → Calls P f args.toArray w fun e w' =>
  (∃ v F' L', e = .returned v ∧ F ≤ F' ∧ Holds F' L' w' ∧ Q v F' L') ∨ (∃ ch F' L', e = .panicked ch ∧ F ≤ F' ∧ Holds F' L' w' ∧ K ch F' L')
theorem DoesP.mono {P : Program} {f : FuncId} {args : List Value} {F : FH} {L : List HP} {Q Q' : Post} {K K' : PPost} (h : DoesP P f args F L Q K) (hq : ∀ v F' L', F ≤ F' → Q v F' L' → Q' v F' L') (hk : ∀ c F' L', F ≤ F' → K c F' L' → K' c F' L') : DoesP P f args F L Q' K' := fun w H =>
 (h w H).mono fun e w' he => by
  rcases he with ⟨v, F', L', a, b, c, d⟩ | ⟨v, F', L', a, b, c, d⟩
  ·exact .inl ⟨v, F', L', a, b, c, hq _ _ _ b d⟩
  ·exact .inr ⟨v, F', L', a, b, c, hk _ _ _ b d⟩
theorem DoesP.weaken {P : Program} {f : FuncId} {args : List Value} {F : FH} {L L' : List HP} {Q : Post} {K : PPost} (s : Sub L L') (h : DoesP P f args F L' Q K) : DoesP P f args F L Q K := fun w H => h w (s.holds H)
theorem XOp.assertOk {P : Program} {ρ : Env} {F : FH} {L : List HP} {K : Post} {d : Option Tmp} {ty : TypeId} {pos : String} {af : Array Edge} {g : Option (Nat × Bool)} {S T : TypeId} {x : Operand} {v : Value} {fs : Array Field}
  (hu : ∀ w, (underlying T).run P w = .ok (.struct fs) w) (hx : evO ρ x = .iface T v) (k : K (.tuple #[v, .bool true]) F L) : XOp P ⟨d, .typeAssert x S T true, ty, pos, af, g⟩ ρ F L K :=
 XOp.value (fun w H => by simp [execOp, hx, Instr.typeAssert, hu]) k
def retQP (P : Program) (fn : Func) (F0 : FH) (Q : Post) (K : PPost) : QX := fun e ρ F L => retQ P fn F0 Q e ρ F L ∨ ∃ ch, e = .panic ch ∧ K ch F L
theorem DoesP.of_X {P : Program} {f : FuncId} {fn : Func} {c : Code} {args : List Value} {F : FH} {L : List HP} {Q : Post} {K : PPost}
  (hf : P.funcs[f]? = some fn) (hb : fn.body = some c) (hd : cOk fn.ntmps c = true) (hn : Nat.ble args.length fn.ntmps = true)
  (h : X P fn.ntmps c (retQP P fn F Q K) (env0 args) F L) : DoesP P f args F L Q K := by
 intro w H
 refine calls_of_wp hf hb (Code.wp_mono ?_ (h hd _ w ⟨?_, rfl, fun i => ?_⟩ H))
 ·rintro e a' w' ⟨ρ', F', L', r', le, H', (⟨he, vs, L'', F2, hv, l1, l2, hsub, q⟩ | ⟨ch, rfl, k⟩)⟩
  ·have hr := results_run (P := P) (w := w') r' H' hv
   rcases he with rfl | rfl
   ·exact ⟨r'.defers, _, hr, .inl ⟨_, F2, L'', rfl, l1, hsub.holds (H'.forget l2), q⟩⟩
   ·exact ⟨r'.defers, _, hr, .inl ⟨_, F2, L'', rfl, l1, hsub.holds (H'.forget l2), q⟩⟩
  ·exact ⟨r'.defers, .inr ⟨ch, F', L', rfl, le, H', k⟩⟩
 ·have := Nat.le_of_ble_eq_true hn
  simp
  omega
 ·simp only [env0, Array.getD_eq_getD_getElem?, List.getD_eq_getElem?_getD, Array.getElem?_append, List.size_toArray, List.getElem?_toArray, Array.getElem?_replicate]
  split
  ·rfl
  ·rename_i hi
   rw [List.getElem?_eq_none (Nat.le_of_not_lt hi)]
   split <;> rfl
theorem wp_of_X {P : Program} {n : Nat} {c : Code} {Q : QX} {a : Act} {w : World} {F : FH} {L : List HP} (l : List (Nat × Value)) (hsz : a.tmps.size = n) (hd : a.defers = []) (hs : sat (fun i => a.tmps.getD i undef) l) (hok : cOk n c = true) (h : ∀ rE, X P n c Q (envs l rE) F L) (H : Holds F L w) :
  c.wp P (low n F Q) a w := by
 have := h (fun i => a.tmps.getD i undef)
 rw [envs_of_sat hs] at this
 exact this hok a w ⟨hsz, hd, fun i => rfl⟩ H
abbrev bools (ss : List Bool) : List Value := ss.map Value.bool
theorem bools_get {ss : List Bool} {i : Nat} (h : i < ss.length) : (bools ss)[i]? = some (.bool (ss.getD i false)) := by simp [bools, List.getD, h]
end Go.Proofs.YtcdjpapjjoldeaaGreat.X
namespace Go.Proofs.YtcdjpapjjoldeaaGreat.M
def nm (t : List Int) : List Int := t.map fun x => if x < 0 then -1 else x
section
variable {ar t : List Int} {p n q e : Nat}
theorem nm_len : (nm t).length = t.length := by simp [nm]
theorem nm_drop : (nm t).drop p = nm (t.drop p) := by simp [nm, List.map_drop]
theorem arity_nm {x : Int} : arity ar (if x < 0 then -1 else x) = arity ar x := by
 by_cases hx : x < 0
 ·rw [if_pos hx]; unfold arity; rw [if_pos (by omega), if_pos hx]
 ·rw [if_neg hx]
theorem endGo_nm : ∀ (r : List Int) (n : Nat), endGo ar (nm r) n = endGo ar r n
 | r, 0 => by simp [endGo]
 | [], n + 1 => rfl
 | x :: r, n + 1 => by
  show endGo ar ((if x < 0 then -1 else x) :: nm r) (n + 1) = _
  simp only [endGo, arity_nm, endGo_nm r]
  by_cases hx : x < 0
  ·rw [if_pos hx, if_pos (by omega), if_pos (by omega)]
  ·rw [if_neg hx]
theorem endAt_nm : endAt ar (nm t) p = endAt ar t p := by unfold endAt; rw [nm_drop, endGo_nm]
theorem endN_nm : endN ar (nm t) p = endN ar t p := by unfold endN; rw [endAt_nm]
theorem endZ_nm : endZ ar (nm t) p = endZ ar t p := by unfold endZ; rw [endAt_nm]
structure TermW (ar t : List Int) : Prop where
 sig : sigOk ar = true
 len : 1 ≤ t.length ∧ t.length ≤ 60
 whole : endGo ar t 1 = some t.length
 ge : ∀ x ∈ t, -48 ≤ x
theorem TermW.nm (h : TermW ar t) : termOk ar (nm t) = true := termOk_iff.2 (by
 have := h.len
 refine ⟨h.sig, by rw [nm_len]; omega, by rw [nm_len]; omega, ?_, by rw [endGo_nm, nm_len]; exact h.whole⟩
 intro x hx
 obtain ⟨y, _, rfl⟩ := List.mem_map.1 hx
 split <;> omega)
theorem termW_of (h : termOk ar t = true) : TermW ar t := by
 have h1 := termOk_iff.1 h
 exact ⟨h1.sig, ⟨h1.pos, h1.len⟩, h1.whole, fun x hx => by have := h1.ge x hx; omega⟩
theorem TermW.endN (h : TermW ar t) (hp : p < t.length) : p < endN ar t p ∧ M.endN ar t p ≤ t.length := by
 have := endN_spec h.nm (p := p) (by rw [nm_len]; exact hp)
 rwa [endN_nm, nm_len] at this
theorem TermW.endZ (h : TermW ar t) (hp : p < t.length) : endZ ar t p = (M.endN ar t p : Int) := by
 have := endZ_endN h.nm (p := p) (by rw [nm_len]; exact hp)
 rwa [endN_nm, endZ_nm] at this
theorem Stand_nm : Stand ar (nm t) n q e ↔ Stand ar t n q e := by unfold Stand; rw [nm_drop, endGo_nm, nm_len]
theorem TermW.stand (h : TermW ar t) (hs : Stand ar t (n + 1) q e) : q < t.length ∧ Stand ar t n (M.endN ar t q) e ∧ q < M.endN ar t q ∧ M.endN ar t q ≤ e := by
 have := stand_step h.nm (Stand_nm.2 hs)
 rwa [Stand_nm, nm_len, endN_nm] at this
theorem TermW.ne (h : TermW ar t) : t ≠ [] := fun e => by have := h.len.1; rw [e] at this; simp at this
def WF (ar r : List Int) (n : Nat) : Prop := endGo ar r n = some r.length
theorem WF_nil : WF ar [] 0 := rfl
theorem WF_cons {x : Int} {r : List Int} : WF ar (x :: r) (n + 1) ↔ x < ar.length ∧ WF ar r (n + (arity ar x).toNat) := by
 unfold WF
 simp only [endGo, List.length_cons]
 by_cases hx : x < ar.length
 ·rw [if_pos hx]
  cases hr : endGo ar r (n + (arity ar x).toNat) with
  | none => simp
  | some k => simp [hx]
 ·rw [if_neg hx]; simp [hx]
theorem WF_app {a b : List Int} {m : Nat} (h : WF ar a n) (k : WF ar b m) : WF ar (a ++ b) (n + m) := by
 have := endGo_join (endGo_more (b := b) h) (m := m) (e2 := b.length) (by rw [List.drop_left]; exact k)
 unfold WF
 rw [List.length_append]; exact this
theorem WF.zero {r : List Int} (h : WF ar r 0) : r = [] := by
 unfold WF at h
 simp only [endGo, Option.some.injEq] at h
 exact List.eq_nil_of_length_eq_zero h.symm
theorem WF.pos {r : List Int} (h : WF ar r (n + 1)) : r ≠ [] := fun e => by subst e; simp [WF, endGo] at h
theorem TermW.wf (h : TermW ar t) : WF ar t 1 := h.whole
theorem WF.var {x : Int} (hx : x < 0) : WF ar [x] 1 := WF_cons.2 ⟨by omega, by rw [show arity ar x = 0 from by unfold arity; rw [if_pos hx]]; exact WF_nil⟩
theorem WF.one {x : Int} {r : List Int} (h : WF ar (x :: r) 1) (hx : x < 0) : r = [] := by
 have := (WF_cons.1 h).2
 rw [show arity ar x = 0 from by unfold arity; rw [if_pos hx]] at this
 exact this.zero
theorem TermW.isvar (h : TermW ar t) (hx : t.getD 0 0 < 0) : t = [t.getD 0 0] := by
 cases t with
 | nil => exact absurd rfl h.ne
 | cons x r => simp only [List.getD_cons_zero] at hx ⊢; rw [h.wf.one hx]
end
abbrev Sbs := Int → List Int
def ap (θ : Sbs) (t : List Int) : List Int := t.flatMap θ
structure GoodS (ar : List Int) (θ : Sbs) : Prop where
 sym : ∀ n, 0 ≤ n → θ n = [n]
 var : ∀ n, n < 0 → WF ar (θ n) 1
section
variable {ar t s r : List Int} {θ σ : Sbs} {n : Nat} {x : Int}
@[simp] theorem ap_nil : ap θ [] = [] := rfl
theorem ap_cons : ap θ (x :: t) = θ x ++ ap θ t := by simp [ap]
theorem ap_app : ap θ (t ++ s) = ap θ t ++ ap θ s := by simp [ap]
theorem ap_one : ap θ [x] = θ x := by simp [ap]
theorem ap_ap : ap θ (ap σ t) = ap (fun n => ap θ (σ n)) t := by
 induction t with
 | nil => rfl
 | cons x t ih => rw [ap_cons, ap_app, ih, ap_cons]
theorem ap_congr (h : ∀ x ∈ t, θ x = σ x) : ap θ t = ap σ t := by
 induction t with
 | nil => rfl
 | cons x t ih => rw [ap_cons, ap_cons, h x (by simp), ih (fun y hy => h y (by simp [hy]))]
theorem mem_ap {y : Int} : y ∈ ap θ t ↔ ∃ x ∈ t, y ∈ θ x := by simp [ap]
theorem GoodS.pos (h : GoodS ar θ) : 1 ≤ (θ x).length := by
 rcases Int.lt_or_le x 0 with hx | hx
 ·have := (h.var x hx).pos
  cases hl : θ x with
  | nil => exact absurd hl this
  | cons => simp
 ·rw [h.sym x hx]; simp
theorem GoodS.len (h : GoodS ar θ) : t.length ≤ (ap θ t).length := by
 induction t with
 | nil => simp
 | cons x t ih => rw [ap_cons, List.length_append, List.length_cons]; have := h.pos (x := x); omega
theorem GoodS.len_mem (h : GoodS ar θ) (hx : x ∈ t) : (θ x).length + t.length ≤ (ap θ t).length + 1 := by
 induction t with
 | nil => cases hx
 | cons y t ih =>
  rw [ap_cons, List.length_append, List.length_cons]
  rcases List.mem_cons.1 hx with rfl | hx
  ·have := h.len (t := t); omega
  ·have := ih hx; have := h.pos (x := y); omega
theorem ap_wf (h : GoodS ar θ) : ∀ {r : List Int} {n : Nat}, WF ar r n → WF ar (ap θ r) n
 | [], 0, _ => WF_nil
 | [], n + 1, k => absurd rfl k.pos
 | x :: r, 0, k => by have := k.zero; cases this
 | x :: r, n + 1, k => by
  obtain ⟨h1, h2⟩ := WF_cons.1 k
  rw [ap_cons]
  rcases Int.lt_or_le x 0 with hx | hx
  ·rw [show arity ar x = 0 from by unfold arity; rw [if_pos hx]] at h2
   rw [Nat.add_comm]
   exact WF_app (h.var x hx) (ap_wf h h2)
  ·rw [h.sym x hx]
   exact WF_cons.2 ⟨h1, ap_wf h h2⟩
def partsL (ar t : List Int) : RowL := (argsL ar t 0).map fun q => sub ar t q.toNat
end
def SatB (b : RowL) (θ : Sbs) : Prop := ∀ n, n < 0 → lkN b n ≠ [] → θ n = ap θ (lkN b n)
def Sol (b : RowL) (σ : Sbs) : Prop := ∀ n, σ n = if lkN b n = [] then [n] else ap σ (lkN b n)
def Acyc (b : RowL) (ρ : Int → Nat) : Prop := ∀ n, n < 0 → ∀ m ∈ lkN b n, m < 0 → ρ m < ρ n
structure BOk (ar : List Int) (b : RowL) : Prop where
 len : b.length = 48
 wt : ∀ n, n < 0 → lkN b n ≠ [] → TermW ar (lkN b n)
 acyc : ∃ ρ, Acyc b ρ
section
variable {ar t s : List Int} {b : RowL} {θ σ : Sbs} {ρ : Int → Nat} {x n : Int}
theorem Sol.sym (h : Sol b σ) (hn : 0 ≤ n) : σ n = [n] := by rw [h n, if_pos (lkN_pos hn)]
theorem Sol.free (h : Sol b σ) (hn : lkN b n = []) : σ n = [n] := by rw [h n, if_pos hn]
theorem Sol.bound (h : Sol b σ) (hn : lkN b n ≠ []) : σ n = ap σ (lkN b n) := by rw [h n, if_neg hn]
theorem Sol.sat (h : Sol b σ) : SatB b σ := fun n _ hn => h.bound hn
theorem Sol.good (hb : BOk ar b) (h : Sol b σ) : GoodS ar σ := by
 obtain ⟨ρ, ha⟩ := hb.acyc
 refine ⟨fun n hn => h.sym hn, ?_⟩
 have key : ∀ (r : Nat) (n : Int), n < 0 → ρ n = r → WF ar (σ n) 1 := by
  intro r
  induction r using Nat.strongRecOn with
  | _ r ih =>
   intro n hn hr
   by_cases hl : lkN b n = []
   ·rw [h.free hl]; exact WF.var hn
   ·rw [h.bound hl]
    have g : GoodS ar (fun m => if m ∈ lkN b n then σ m else [m]) := by
     refine ⟨fun m hm => ?_, fun m hm => ?_⟩
     ·split
      ·exact h.sym hm
      ·rfl
     ·split
      ·rename_i hmem
       exact ih (ρ m) (by have := ha n hn m hmem hm; omega) m hm rfl
      ·exact WF.var hm
    rw [ap_congr (σ := fun m => if m ∈ lkN b n then σ m else [m]) (fun m hm => by simp [hm])]
    exact ap_wf g (hb.wt n hn hl).wf
 exact fun n hn => key _ n hn rfl
theorem Sol.most (ha : Acyc b ρ) (h : Sol b σ) (hs : ∀ n, 0 ≤ n → θ n = [n]) (hθ : SatB b θ) : ∀ n, ap θ (σ n) = θ n := by
 have key : ∀ (r : Nat) (n : Int), n < 0 → ρ n = r → ap θ (σ n) = θ n := by
  intro r
  induction r using Nat.strongRecOn with
  | _ r ih =>
   intro n hn hr
   by_cases hl : lkN b n = []
   ·rw [h.free hl, ap_one]
   ·rw [h.bound hl, ap_ap, hθ n hn hl]
    refine ap_congr fun m hm => ?_
    rcases Int.lt_or_le m 0 with h0 | h0
    ·exact ih (ρ m) (by have := ha n hn m hm h0; omega) m h0 rfl
    ·rw [h.sym h0, ap_one]
 intro n
 rcases Int.lt_or_le n 0 with h0 | h0
 ·exact key _ n h0 rfl
 ·rw [h.sym h0, ap_one]
theorem Sol.most_t (hb : BOk ar b) (h : Sol b σ) (g : GoodS ar θ) (hθ : SatB b θ) : ap θ (ap σ t) = ap θ t := by
 obtain ⟨ρ, ha⟩ := hb.acyc
 rw [ap_ap]
 exact ap_congr fun m _ => h.most ha g.sym hθ m
theorem lkN_nils : lkN (List.replicate 48 []) n = [] := by
 unfold lkN
 split
 ·rfl
 ·simp only [List.getD, List.getElem?_replicate]
  split <;> rfl
theorem BOk.nils : BOk ar (List.replicate 48 []) := ⟨by simp, fun n _ h => absurd lkN_nils h, ⟨fun _ => 0, fun n _ m hm => by rw [lkN_nils] at hm; cases hm⟩⟩
theorem SatB.nils : SatB (List.replicate 48 []) θ := fun n _ h => absurd lkN_nils h
theorem varIx_inj {x y : Int} (hx : x < 0) (hy : y < 0) (h : varIx x = varIx y) : x = y := by unfold varIx at h; omega
inductive RootOf (b : RowL) : List Int → List Int → Prop
 | here {t : List Int} (h : 0 ≤ t.getD 0 0 ∨ lkN b (t.getD 0 0) = []) : RootOf b t t
 | step {t u : List Int} (h0 : t.getD 0 0 < 0) (hl : lkN b (t.getD 0 0) ≠ []) (h : RootOf b (lkN b (t.getD 0 0)) u) : RootOf b t u
end
section
variable {ar t a c u w x y A C : List Int} {b b1 b2 : RowL} {θ σ : Sbs} {ρ : Int → Nat} {n m : Int} {k j N : Nat} {sn s1 s2 : List Bool} {E E1 E2 : Sbs → Prop}
def ClearM (σ : Sbs) (ρ : Int → Nat) (n : Int) (k : Nat) (sn : List Bool) : Prop := ∀ m : Int, m < 0 → sn.getD (varIx m) false = true → ρ m < k → n ∉ σ m
def MarkR (σ : Sbs) (n : Int) (sn s1 : List Bool) : Prop := ∀ m : Int, m < 0 → s1.getD (varIx m) false = true → sn.getD (varIx m) false = true ∨ n ∉ σ m
theorem MarkR.refl : MarkR σ n sn sn := fun _ _ h => .inl h
theorem set_mark (hl : s1.length = 48) (hm : m < 0) (hg : -48 ≤ m) (hy : n < 0) : (s1.set (varIx m) true).getD (varIx n) false = true ↔ n = m ∨ s1.getD (varIx n) false = true := by
 by_cases e : n = m
 ·subst e
  simp only [List.getD, List.getElem?_set_self (show varIx n < s1.length by rw [hl]; unfold varIx; omega), Option.getD_some, true_or]
 ·have : varIx m ≠ varIx n := fun h => e (varIx_inj hy hm h.symm)
  simp only [List.getD, List.getElem?_set_ne this, e, false_or]
theorem MarkR.step (h : MarkR σ n sn s1) (hl : s1.length = 48) (hm : m < 0) (hg : -48 ≤ m) (h2 : MarkR σ n (s1.set (varIx m) true) s2) (hno : n ∉ σ m) : MarkR σ n sn s2 := by
 intro y hy hs
 rcases h2 y hy hs with h3 | h3
 ·rcases (set_mark hl hm hg hy).1 h3 with rfl | h4
  ·exact .inr hno
  ·exact h y hy h4
 ·exact .inr h3
theorem MarkR.set (h : MarkR σ n sn s1) (hl : s1.length = 48) (hm : m < 0) (hg : -48 ≤ m) (hno : n ∉ σ m) : MarkR σ n sn (s1.set (varIx m) true) := h.step hl hm hg .refl hno
theorem ClearM.nils : ClearM σ ρ n k (List.replicate N false) := by
 intro m hm h
 simp only [List.getD, List.getElem?_replicate] at h
 split at h <;> simp at h
theorem occ_in (h : Sol b σ) (hj : j < t.length) (hm : t.getD j 0 = m) (hl : lkN b m ≠ []) (ho : n ∈ ap σ (lkN b m)) : n ∈ ap σ t := mem_ap.2 ⟨m, mem_of_getD hj hm, by rw [h.bound hl]; exact ho⟩
theorem lkN_get (hm : m < 0) : lkN b m = b.getD (varIx m) [] := lkN_neg hm
structure Root (ar : List Int) (b : RowL) (t u : List Int) : Prop where
 w : TermW ar u
 top : 0 ≤ u.getD 0 0 ∨ lkN b (u.getD 0 0) = []
 same : ∀ θ : Sbs, SatB b θ → ap θ t = ap θ u
def RootTo (ar : List Int) (b : RowL) (t u : List Int) : Prop := TermW ar u ∧ ∀ θ : Sbs, SatB b θ → ap θ t = ap θ u
theorem RootTo.refl (h : TermW ar t) : RootTo ar b t t := ⟨h, fun _ _ => rfl⟩
theorem RootTo.next (hb : BOk ar b) (h : RootTo ar b t u) (h0 : u.getD 0 0 < 0) (hl : b.getD (varIx (u.getD 0 0)) [] ≠ []) : RootTo ar b t (b.getD (varIx (u.getD 0 0)) []) := by
 rw [← lkN_get h0] at hl ⊢
 refine ⟨hb.wt _ h0 hl, fun θ hθ => ?_⟩
 rw [h.2 θ hθ, h.1.isvar h0, ap_one, hθ _ h0 hl]
 rw [show [u.getD 0 0].getD 0 0 = u.getD 0 0 from rfl]
def unb (b : RowL) : Nat := b.countP fun x => decide (x = [])
structure Solves (ar : List Int) (b b1 : RowL) (E : Sbs → Prop) : Prop where
 ok : BOk ar b1
 iff : ∀ θ, GoodS ar θ → (SatB b1 θ ↔ SatB b θ ∧ E θ)
 less : unb b1 < unb b ∨ b1 = b
theorem Solves.refl (hb : BOk ar b) (h : ∀ θ, GoodS ar θ → SatB b θ → E θ) : Solves ar b b E := ⟨hb, fun θ g => ⟨fun hs => ⟨hs, h θ g hs⟩, fun hs => hs.1⟩, .inr rfl⟩
theorem Solves.trans (h1 : Solves ar b b1 E1) (h2 : Solves ar b1 b2 E2) : Solves ar b b2 (fun θ => E1 θ ∧ E2 θ) := by
 refine ⟨h2.ok, fun θ g => ?_, ?_⟩
 ·rw [h2.iff θ g, h1.iff θ g, and_assoc]
 ·rcases h1.less with e1 | e1 <;> rcases h2.less with e2 | e2
  ·left; omega
  ·left; rw [e2]; exact e1
  ·left; rw [e1] at e2; exact e2
  ·right; rw [e2, e1]
theorem Solves.congr (h : Solves ar b b1 E) (hc : ∀ θ, GoodS ar θ → SatB b θ → (E θ ↔ E1 θ)) : Solves ar b b1 E1 := by
 refine ⟨h.ok, fun θ g => ?_, h.less⟩
 rw [h.iff θ g]
 exact ⟨fun ⟨p, q⟩ => ⟨p, (hc θ g p).1 q⟩, fun ⟨p, q⟩ => ⟨p, (hc θ g p).2 q⟩⟩
theorem Solves.swap (h : Solves ar b b1 (fun θ => ap θ A = ap θ C)) : Solves ar b b1 (fun θ => ap θ C = ap θ A) := h.congr fun _ _ _ => eq_comm
def EqTo (ar x y : List Int) (j : Nat) (θ : Sbs) : Prop := ∀ i, i < j → ap θ ((partsL ar x).getD i []) = ap θ ((partsL ar y).getD i [])
theorem EqTo.next (h : Solves ar b b1 (EqTo ar x y j)) (h2 : Solves ar b1 b2 (fun θ => ap θ ((partsL ar x).getD j []) = ap θ ((partsL ar y).getD j []))) : Solves ar b b2 (EqTo ar x y (j + 1)) :=
 (h.trans h2).congr fun θ _ _ => ⟨fun ⟨p, q⟩ i hi => (Nat.lt_or_ge i j).elim (fun h => p i h) (fun h => by obtain rfl : i = j := (by omega); exact q), fun h => ⟨fun i hi => h i (by omega), h j (by omega)⟩⟩
end
section
variable {ar t os : List Int} {b : RowL} {σ : Sbs} {ρ : Int → Nat} {m : Int} {j : Nat}
end
def awayL (t : List Int) : List Int := t.map fun n => if n < 0 then n - 24 else n
end Go.Proofs.YtcdjpapjjoldeaaGreat.M
namespace Go.Proofs.YtcdjpapjjoldeaaGreat.X
open Go
def XA (P : Program) (n : Nat) (l : List Oper) (Q : QX) (ρ : Env) (F : FH) (L : List HP) : Prop :=
 opsOk n l = true → ∀ a w, Rep n a ρ → Holds F L w → wpAny P .any l.toArray (low n F Q) l.toArray.size (Array.replicate l.toArray.size false) a w
theorem XA.drawH {P : Program} {n : Nat} {Q : QX} {ρ : Env} {F : FH} {L : List HP} {l : List Oper} (Bs L0 : List HP) (m : Nat) (uses cls tk : List (List Nat)) (phi : Nat → FH → List Value → Value → Prop) (own : Nat → List Value → Value → List HP) (tb : Nat → List HP)
  (hL : L = (List.range m).flatMap tb ++ (Bs ++ L0)) (hm : Nat.ble m l.length = true) (hok : drawOk l m uses cls = true) (htk : takeOk l m tk = true)
  (hmono : ∀ i F F' us v, F ≤ F' → phi i F us v → phi i F' us v)
  (hstep : stepsT P l ρ F Bs phi own tb uses cls tk (l.take m) 0)
  (hend : ∀ (vals : Nat → Value) (F1 : FH), F ≤ F1 → (∀ i, i < m → phi i F1 ((uses.getD i []).map vals) (vals i)) → XL P n l.toArray (l.drop m) Q (canon vals (l.take m) 0 ρ) F1 (madeG own uses tk vals (List.range m) ++ (Bs ++ L0))) :
  XA P n l Q ρ F L := by
 subst hL
 have hm' : m ≤ l.length := Nat.le_of_ble_eq_true hm
 have ok := drawOk_spec hok
 obtain ⟨tk1, tk2, tk3⟩ := takeOk_spec htk
 intro cok' a w0 r H
 have H1 : Holds F (Bs ++ (restH tb m [] ++ L0)) w0 := by
  refine Sub.holds (Sub.perm ?_) H
  rw [restH_all, ← List.append_assoc, ← List.append_assoc]
  exact List.perm_append_comm.append_right L0
 -- the tail, in its text's order
 have tailP : ∀ (k : Nat) (fuel : Nat) (listed : Array Bool) (a : Act) (w : World), fuel + k = l.length → m ≤ k → listed.size = l.length → (∀ i, i < k → listed.getD i true = true) → (∀ i, k ≤ i → i < l.length → listed.getD i true = false) →
   wpList P l.toArray (low n F Q) (l.drop k) a w → wpAny P .any l.toArray (low n F Q) fuel listed a w := by
  intro k fuel
  induction fuel generalizing k with
  | zero =>
   intro listed a w hk hmk hsz hin hout h
   have hk' : k = l.length := by omega
   subst hk'
   rw [List.drop_length] at h
   refine ⟨?_, h⟩
   unfold Region.ready
   rw [List.filter_eq_nil_iff]
   intro i hi
   have hi' : i < l.length := by simpa using hi
   simp [hin i hi']
  | succ fuel ih =>
   intro listed a w hk hmk hsz hin hout h
   have hkl : k < l.length := by omega
   obtain ⟨o, ho⟩ : ∃ o, l[k]? = some o := ⟨l[k], List.getElem?_eq_getElem hkl⟩
   have hready : ∀ i, i ∈ Region.ready .any l.toArray listed → i = k := by
    intro i hi
    obtain ⟨hun, oi, hoi, hall⟩ := mem_ready.1 hi
    have hoi' : l[i]? = some oi := by simpa using hoi
    have hil : i < l.length := (List.getElem?_eq_some_iff.1 hoi').1
    have hki : k ≤ i := by
     rcases Nat.lt_or_ge i k with h' | h'
     ·have := hin i h'; rw [this] at hun; cases hun
     ·exact h'
    rcases Nat.lt_or_ge k i with h' | h'
    · -- k is ahead of i: so some edge of i's leads to k, which is not listed
     exfalso
     have hmem := ok.tail i (by omega) hil k h'
     have key : ∀ (t j : Nat), (∀ oj : Oper, l[j]? = some oj → ∀ e ∈ oj.after, Region.binds .any e = true → listed.getD e.on false = true) → j ≤ t → k ∈ clo l j → (j < l.length) → False := by
      intro t
      induction t with
      | zero =>
       intro j hj hjt hkj hjl
       obtain ⟨e, he, hb, hlt, _⟩ := mem_clo (List.getElem?_eq_getElem hjl) hkj
       omega
      | succ t iht =>
       intro j hj hjt hkj hjl
       obtain ⟨e, he, hb, hlt, hor⟩ := mem_clo (List.getElem?_eq_getElem hjl) hkj
       have hl := hj _ (List.getElem?_eq_getElem hjl) e (by simpa using he) hb
       rcases hor with rfl | hmem
       ·have := hout _ (Nat.le_refl _) hkl
        simp only [Array.getD_eq_getD_getElem?] at this hl
        rw [Array.getElem?_eq_getElem (by omega)] at this hl
        simp at this hl
        rw [this] at hl; cases hl
       ·have hon : e.on < k := by
         rcases Nat.lt_or_ge e.on k with h'' | h''
         ·exact h''
         ·have := hout e.on h'' (by omega)
          simp only [Array.getD_eq_getD_getElem?] at this hl
          rw [Array.getElem?_eq_getElem (by omega)] at this hl
          simp at this hl
          rw [this] at hl; cases hl
        -- below k everything in the closure is below k
        obtain ⟨e2, he2, hb2, hlt2, hor2⟩ := mem_clo (List.getElem?_eq_getElem (show e.on < l.length by omega)) hmem
        have low : ∀ (t j : Nat), j ≤ t → j < k → k ∈ clo l j → False := by
         intro t
         induction t with
         | zero => intro j hjt hjk hkj; obtain ⟨e, _, _, hlt, _⟩ := mem_clo (List.getElem?_eq_getElem (show j < l.length by omega)) hkj; omega
         | succ t iht2 =>
          intro j hjt hjk hkj
          obtain ⟨e, _, _, hlt, hor⟩ := mem_clo (List.getElem?_eq_getElem (show j < l.length by omega)) hkj
          rcases hor with rfl | hmem
          ·omega
          ·exact iht2 e.on (by omega) (by omega) hmem
        exact low _ _ (Nat.le_refl _) hon hmem
     refine key i i (fun oj hoj e he hb => ?_) (Nat.le_refl _) hmem hil
     rw [hoi'] at hoj; cases hoj
     exact hall e he hb
    ·omega
   have hkready : k ∈ Region.ready .any l.toArray listed := by
    refine mem_ready.2 ⟨hout k (Nat.le_refl _) hkl, o, by simpa using ho, fun e he hb => ?_⟩
    have hlt := ok.back k o ho e (by simpa using he) hb
    have := hin e.on hlt
    simp only [Array.getD_eq_getD_getElem?] at this ⊢
    rw [Array.getElem?_eq_getElem (by omega)] at this ⊢
    simpa using this
   refine ⟨fun h0 => (by rw [h0] at hkready; cases hkready), fun i hi => ?_⟩
   obtain rfl := hready i hi
   have hdrop : l.drop i = o :: l.drop (i + 1) := by
    rw [List.drop_eq_getElem_cons hkl]
    have := (List.getElem?_eq_some_iff.1 ho).2
    rw [this]
   rw [hdrop] at h
   unfold wpList at h
   unfold wpOp
   have hoA : l.toArray[i]? = some o := by simpa using ho
   rw [hoA]
   have nxt : ∀ a' w', wpList P l.toArray (low n F Q) (l.drop (i + 1)) a' w' → wpAny P .any l.toArray (low n F Q) fuel (listed.setIfInBounds i true) a' w' := by
    intro a' w' h'
    refine ih (i + 1) (listed.setIfInBounds i true) a' w' (by omega) (by omega) (by simp [hsz]) ?_ ?_ h'
    ·intro j hj
     simp only [Array.getD_eq_getD_getElem?, Array.getElem?_setIfInBounds]
     by_cases hij : i = j
     ·subst hij; simp [hsz, hkl]
     ·simp only [hij, if_false]
      have := hin j (by omega)
      simpa [Array.getD_eq_getD_getElem?] using this
    ·intro j hj hjl
     simp only [Array.getD_eq_getD_getElem?, Array.getElem?_setIfInBounds]
     have hij : ¬ i = j := by omega
     simp only [hij, if_false]
     have := hout j (by omega) hjl
     simpa [Array.getD_eq_getD_getElem?] using this
   show (if Region.wanted o (yielded l.toArray a.tmps) = true then _ else _)
   split
   ·rename_i hw
    rw [if_pos hw] at h
    exact h.imp (Oper.wp_mono nxt) (fun q => q)
   ·rename_i hw
    rw [if_neg hw] at h
    exact nxt _ _ h
 -- all of the head is done
 have finish : ∀ (fuel : Nat) (F1 : FH) (le1 : F ≤ F1) (listed : Array Bool) (ex : List Nat) (vals : Nat → Value) (a : Act) (w : World), fuel + ex.length = l.length → listed.size = l.length → ex.Nodup → (∀ i, i ∈ ex ↔ i < m) →
   (∀ i, i < l.length → (listed.getD i true = true ↔ i ∈ ex)) → (∀ i ∈ ex, phi i F1 ((uses.getD i []).map vals) (vals i)) →
   a.tmps.size = n → a.defers = [] → (∀ i ∈ ex, ∀ o : Oper, l[i]? = some o → ∀ s, o.dst = some s → a.tmps.getD s undef = vals i) → (∀ s, (∀ i ∈ ex, ∀ o : Oper, l[i]? = some o → o.dst ≠ some s) → a.tmps.getD s undef = ρ s) →
   Holds F1 (madeG own uses tk vals ex ++ (Bs ++ (restH tb m ex ++ L0))) w → wpAny P .any l.toArray (low n F Q) fuel listed a w := by
  intro fuel F1 le1 listed ex vals a w hf hsz hnd hmem hlist hphi hsize hdef hs1 hs2 HH
  have hperm : ex.Perm (List.range m) := perm_of_mem hnd List.nodup_range (fun i => by rw [hmem]; simp)
  have hlen : ex.length = m := by rw [hperm.length_eq]; simp
  rw [restH_nil (fun i hi => (hmem i).2 hi), List.nil_append] at HH
  have hX := hend vals F1 le1 (fun i hi => hphi i ((hmem i).2 hi))
  have hone : ∀ (i j : Nat) (o q : Oper), (l.take m)[i]? = some o → (l.take m)[j]? = some q → ∀ d, o.dst = some d → q.dst = some d → i = j := by
   intro i j o q ho hq d hd hqd
   rw [List.getElem?_take] at ho hq
   split at ho
   ·split at hq
    ·rename_i h1 h2
     exact ok.one i j o q h1 h2 ho hq d hd hqd
    ·cases hq
   ·cases ho
  have rep : Rep n a (canon vals (l.take m) 0 ρ) := by
   refine ⟨hsize, hdef, fun s => ?_⟩
   obtain ⟨c1, c2⟩ := canon_get vals (l.take m) 0 ρ s hone
   by_cases hw : ∃ i o, i < m ∧ l[i]? = some o ∧ o.dst = some s
   ·obtain ⟨i, o, hi, ho, hd⟩ := hw
    rw [hs1 i ((hmem i).2 hi) o ho s hd, c1 i o (by rw [List.getElem?_take, if_pos hi]; exact ho) hd, Nat.zero_add]
   ·rw [hs2 s (fun i hi o ho hd => hw ⟨i, o, (hmem i).1 hi, ho, hd⟩), c2 (fun i o ho hd => by
     rw [List.getElem?_take] at ho
     split at ho
     ·rename_i hi; exact hw ⟨i, o, hi, ho, hd⟩
     ·cases ho)]
  have hsub : Sub (madeG own uses tk vals ex ++ (Bs ++ L0)) (madeG own uses tk vals (List.range m) ++ (Bs ++ L0)) :=
   Sub.append (Sub.perm (madeG_perm hperm)) (Sub.refl _)
  have hwp := wpList_mono (fun _ _ _ => low_le le1) _ _ _ (hX (by
   simp only [opsOk, List.all_eq_true] at cok' ⊢
   exact fun o ho => cok' o (List.mem_of_mem_drop ho)) a w rep (hsub.holds HH))
  exact tailP m fuel listed a w (by omega) (Nat.le_refl _) hsz (fun i hi => (hlist i (by omega)).2 ((hmem i).2 hi)) (fun i hi hil => by
   cases hb : listed.getD i true with
   | false => rfl
   | true => have := (hmem i).1 ((hlist i hil).1 hb); omega) hwp
 -- the head, in any order
 have headP : ∀ (fuel : Nat) (F1 : FH) (le1 : F ≤ F1) (listed : Array Bool) (ex : List Nat) (vals : Nat → Value) (a : Act) (w : World), fuel + ex.length = l.length → listed.size = l.length → ex.Nodup → (∀ i, i ∈ ex → i < m) →
   (∀ i, i < l.length → (listed.getD i true = true ↔ i ∈ ex)) → (∀ i ∈ ex, ∀ j ∈ clo l i, j ∈ ex) → (∀ i ∈ ex, phi i F1 ((uses.getD i []).map vals) (vals i)) →
   a.tmps.size = n → a.defers = [] → (∀ i ∈ ex, ∀ o : Oper, l[i]? = some o → ∀ s, o.dst = some s → a.tmps.getD s undef = vals i) → (∀ s, (∀ i ∈ ex, ∀ o : Oper, l[i]? = some o → o.dst ≠ some s) → a.tmps.getD s undef = ρ s) →
   Holds F1 (madeG own uses tk vals ex ++ (Bs ++ (restH tb m ex ++ L0))) w → wpAny P .any l.toArray (low n F Q) fuel listed a w := by
  intro fuel
  induction fuel with
  | zero =>
   intro F1 le1 listed ex vals a w hf hsz hnd hlt hlist hdown hphi hsize hdef hs1 hs2 HH
   have hall : ∀ i, i ∈ ex ↔ i < m := by
    intro i
    refine ⟨hlt i, fun hi => ?_⟩
    rcases Classical.em (i ∈ ex) with h' | h'
    ·exact h'
    ·have := nodup_lt m (i :: ex) (List.nodup_cons.2 ⟨h', hnd⟩) (fun k hk => by
      rcases List.mem_cons.1 hk with rfl | hk
      ·exact hi
      ·exact hlt k hk)
     simp at this
     omega
   exact finish 0 F1 le1 listed ex vals a w hf hsz hnd hall hlist hphi hsize hdef hs1 hs2 HH
  | succ fuel ih =>
   intro F1 le1 listed ex vals a w hf hsz hnd hlt hlist hdown hphi hsize hdef hs1 hs2 HH
   by_cases hcov : ∀ i, i < m → i ∈ ex
   ·exact finish (fuel + 1) F1 le1 listed ex vals a w hf hsz hnd (fun i => ⟨hlt i, hcov i⟩) hlist hphi hsize hdef hs1 hs2 HH
   -- an operation that is ready: what stands ahead of it is done
   have ahead : ∀ i ∈ Region.ready .any l.toArray listed, i < l.length ∧ i ∉ ex ∧ ∀ j ∈ clo l i, j ∈ ex := by
    intro i hi
    obtain ⟨hun, o, ho, hall⟩ := mem_ready.1 hi
    have ho' : l[i]? = some o := by simpa using ho
    have hil : i < l.length := (List.getElem?_eq_some_iff.1 ho').1
    refine ⟨hil, fun hm => ?_, fun j hj => ?_⟩
    ·rw [(hlist i hil).2 hm] at hun; cases hun
    ·obtain ⟨e, he, hb, hlt', hor⟩ := mem_clo ho' hj
     have hl := hall e (by simpa using he) hb
     have hex : e.on ∈ ex := by
      refine (hlist e.on (by omega)).1 ?_
      simp only [Array.getD_eq_getD_getElem?] at hl ⊢
      rw [Array.getElem?_eq_getElem (by omega)] at hl ⊢
      simpa using hl
     rcases hor with rfl | hj'
     ·exact hex
     ·exact hdown _ hex _ hj'
   have small : ∀ i ∈ Region.ready .any l.toArray listed, i < m := by
    intro i hi
    obtain ⟨hil, _, hc⟩ := ahead i hi
    rcases Nat.lt_or_ge i m with h' | h'
    ·exact h'
    ·exact absurd (fun j hj => hc j (ok.tail i h' hil j (by omega))) hcov
   refine ⟨fun h0 => ?_, fun i hi => ?_⟩
   · -- not all is done, so something is ready: the least that is not listed
    exfalso
    apply hcov
    intro i
    induction i using Nat.strongRecOn with
    | _ i ihs =>
     intro him
     rcases Classical.em (i ∈ ex) with h' | h'
     ·exact h'
     ·exfalso
      have hil : i < l.length := by omega
      have : i ∈ Region.ready .any l.toArray listed := by
       refine mem_ready.2 ⟨?_, l[i], by simp [hil], fun e he hb => ?_⟩
       ·cases hb : listed.getD i true with
        | false => rfl
        | true => exact absurd ((hlist i hil).1 hb) h'
       ·have hlt' := ok.back i l[i] (List.getElem?_eq_getElem hil) e (by simpa using he) hb
        have := (hlist e.on (by omega)).2 (ihs e.on hlt' (by omega))
        simp only [Array.getD_eq_getD_getElem?] at this ⊢
        rw [Array.getElem?_eq_getElem (by omega)] at this ⊢
        simpa using this
      rw [h0] at this
      cases this
   ·obtain ⟨hil, hnex, hclo⟩ := ahead i hi
    have him := small i hi
    obtain ⟨o, ho⟩ : ∃ o, l[i]? = some o := ⟨l[i], List.getElem?_eq_getElem hil⟩
    have hG := stepsT_get (l.take m) 0 hstep i o (by rw [List.getElem?_take, if_pos him]; exact ho) vals F1 (madeW own uses tk vals i ex ++ (restH tb m (i :: ex) ++ L0)) le1 (fun j hj => hphi j (hclo j (ok.cls i hil j (by simpa using hj))))
    rw [Nat.zero_add] at hG
    have H2 : Holds F1 (takenBy own uses tk vals i ++ (tb i ++ (Bs ++ (madeW own uses tk vals i ex ++ (restH tb m (i :: ex) ++ L0))))) w :=
     Sub.holds (Sub.perm (permH (madeG_split (own := own) (uses := uses) (vals := vals) hnd (tk3 i him) (fun j hj => hclo j (tk1 i him j hj)) (fun j hj k hk e => hnex (by rw [← tk2 k i (hlt k hk) him j e hj]; exact hk))) (restH_split him hnex))) HH
    have hone : ∀ (k j : Nat) (o q : Oper), (l.take i)[k]? = some o → (l.take i)[j]? = some q → ∀ d, o.dst = some d → q.dst = some d → k = j := by
     intro k j o q ho hq d hd hqd
     rw [List.getElem?_take] at ho hq
     split at ho
     ·split at hq
      ·rename_i h1 h2
       exact ok.one k j o q (by omega) (by omega) ho hq d hd hqd
      ·cases hq
     ·cases ho
    have slot : ∀ s ∈ o.looksAt l.toArray, a.tmps.getD s undef = canon vals (l.take i) 0 ρ s := by
     intro s hs
     obtain ⟨c1, c2⟩ := canon_get vals (l.take i) 0 ρ s hone
     by_cases hw : ∃ j q, j < m ∧ l[j]? = some q ∧ q.dst = some s
     ·obtain ⟨j, q, hj, hq, hd⟩ := hw
      rcases ok.read i j o q him hj ho hq s hs hd with ⟨hjc, hji⟩ | ⟨hic, hij⟩
      ·rw [hs1 j (hclo j hjc) q hq s hd, c1 j q (by rw [List.getElem?_take, if_pos hji]; exact hq) hd, Nat.zero_add]
      ·rw [hs2 s (fun k hk q2 hq2 hd2 => by
        obtain rfl := ok.one k j q2 q (hlt k hk) hj hq2 hq s hd2 hd
        exact hnex (hdown k hk i hic)), c2 (fun k q2 hq2 hd2 => by
        rw [List.getElem?_take] at hq2
        split at hq2
        ·rename_i hk
         have := ok.one k j q2 q (by omega) hj hq2 hq s hd2 hd
         omega
        ·cases hq2)]
     ·rw [hs2 s (fun j hj q hq hd => hw ⟨j, q, hlt j hj, hq, hd⟩), c2 (fun j q hq hd => by
       rw [List.getElem?_take] at hq
       split at hq
       ·rename_i hj; exact hw ⟨j, q, by omega, hq, hd⟩
       ·cases hq)]
    have hev : execOp a.eval o = execOp (evO (canon vals (l.take i) 0 ρ)) o := by
     refine execOp_congr o (ok.sel i o ho) fun x hx => ?_
     cases x with
     | tmp t => exact slot t (List.mem_append_left _ (List.mem_filterMap.2 ⟨.tmp t, by simpa using hx, rfl⟩))
     | _ => rfl
    have hus : ∀ j ∈ uses.getD i [], j ≠ i := fun j hj e => hnex (hclo i (e ▸ ok.uses i hil j hj))
    have husx : ∀ k ∈ ex, i ∉ uses.getD k [] := fun k hk hm => hnex (hdown k hk i (ok.uses k (by have := hlt k hk; omega) i hm))
    have hdo : dOk n o.dst = true := by
     simp only [opsOk, List.all_eq_true] at cok'
     exact cok' o (List.mem_of_getElem? ho)
    have next : ∀ v F2 w', F1 ≤ F2 → Holds F2 (own i ((uses.getD i []).map vals) v ++ (Bs ++ (madeW own uses tk vals i ex ++ (restH tb m (i :: ex) ++ L0)))) w' → phi i F2 ((uses.getD i []).map vals) v → wpAny P .any l.toArray (low n F Q) fuel (listed.setIfInBounds i true) (a.put o.dst v) w' := by
     intro v F2 w' le2 H3 hp
     have hi' : (uses.getD i []).map (fun j => if j = i then v else vals j) = (uses.getD i []).map vals := map_upd (fun h => hus i h rfl)
     have hx' : ∀ k ∈ ex, (uses.getD k []).map (fun j => if j = i then v else vals j) = (uses.getD k []).map vals := fun k hk => map_upd (husx k hk)
     have hki : ∀ k ∈ ex, k ≠ i := fun k hk e => hnex (e ▸ hk)
     have hself : (i :: ex).any (fun k => (tk.getD k []).contains i) = false := by
      rw [List.any_eq_false]
      intro k hk hc
      have hc' : i ∈ tk.getD k [] := by simpa using hc
      rcases List.mem_cons.1 hk with rfl | hk
      ·exact clo_irrefl ok (by omega) (tk1 k him k hc')
      ·exact hnex (hdown k hk i (tk1 k (hlt k hk) i hc'))
     have hmade : madeG own uses tk (fun j => if j = i then v else vals j) (i :: ex) = own i ((uses.getD i []).map vals) v ++ madeW own uses tk vals i ex := by
      simp only [madeG, madeW, List.flatMap_cons, hi', if_true]
      rw [hself]
      simp only [Bool.false_eq_true, if_false]
      congr 1
      rw [List.flatMap_def, List.flatMap_def]
      congr 1
      apply List.map_congr_left
      intro k hk
      rw [hx' k hk, if_neg (hki k hk), List.any_cons]
     refine ih F2 (FLe.trans le1 le2) (listed.setIfInBounds i true) (i :: ex) (fun j => if j = i then v else vals j) _ w' (by simp; omega) (by simp [hsz]) (List.nodup_cons.2 ⟨hnex, hnd⟩) ?_ ?_ ?_ ?_ ?_ ?_ ?_ ?_ ?_
     ·intro k hk; rcases List.mem_cons.1 hk with rfl | hk
      ·exact him
      ·exact hlt k hk
     ·intro k hk
      simp only [Array.getD_eq_getD_getElem?, Array.getElem?_setIfInBounds, List.mem_cons]
      by_cases hik : i = k
      ·subst hik; simp [hsz, hil]
      ·have := hlist k hk
       simp only [Array.getD_eq_getD_getElem?] at this
       simp only [hik, if_false, this]
       constructor
       ·exact fun h => .inr h
       ·rintro (rfl | h)
        ·exact absurd rfl hik
        ·exact h
     ·intro k hk j hj
      rcases List.mem_cons.1 hk with rfl | hk
      ·exact List.mem_cons_of_mem _ (hclo j hj)
      ·exact List.mem_cons_of_mem _ (hdown k hk j hj)
     ·intro k hk
      rcases List.mem_cons.1 hk with rfl | hk
      ·rw [hi', if_pos rfl]; exact hp
      ·rw [hx' k hk, if_neg (hki k hk)]; exact hmono _ _ _ _ _ le2 (hphi k hk)
     ·cases o.dst <;> simp [Act.put, hsize]
     ·cases o.dst <;> simp [Act.put, hdef]
     ·intro k hk q hq s hd
      rcases List.mem_cons.1 hk with rfl | hk
      ·rw [ho] at hq; cases hq
       rw [if_pos rfl, hd]
       have hsn : s < n := by rw [hd] at hdo; exact Nat.le_of_ble_eq_true hdo
       simp [Act.put, Array.getD_eq_getD_getElem?, Array.getElem?_setIfInBounds, hsize, hsn]
      ·rw [if_neg (hki k hk)]
       have hne : o.dst ≠ some s := fun e => hki k hk (ok.one k i q o (hlt k hk) him hq ho s hd e)
       have := hs1 k hk q hq s hd
       cases hod : o.dst with
       | none => simpa [Act.put] using this
       | some d =>
        have hds : d ≠ s := fun e => hne (by rw [hod, e])
        simp only [Act.put, Array.getD_eq_getD_getElem?, Array.getElem?_setIfInBounds_ne hds] at this ⊢
        exact this
     ·intro s hno
      have hne : o.dst ≠ some s := hno i List.mem_cons_self o ho
      have := hs2 s (fun k hk q hq => hno k (List.mem_cons_of_mem _ hk) q hq)
      cases hod : o.dst with
      | none => simpa [Act.put] using this
      | some d =>
       have hds : d ≠ s := fun e => hne (by rw [hod, e])
       simp only [Act.put, Array.getD_eq_getD_getElem?, Array.getElem?_setIfInBounds_ne hds] at this ⊢
       exact this
     ·rw [hmade]
      refine Sub.holds (Sub.perm ?_) H3
      rw [List.append_assoc]
      exact List.Perm.append_left _ perm3
    have opwp : XOp P o (canon vals (l.take i) 0 ρ) F1 (takenBy own uses tk vals i ++ (tb i ++ (Bs ++ (madeW own uses tk vals i ex ++ (restH tb m (i :: ex) ++ L0))))) (fun v F' L' => phi i F' ((uses.getD i []).map vals) v ∧ L' = own i ((uses.getD i []).map vals) v ++ (Bs ++ (madeW own uses tk vals i ex ++ (restH tb m (i :: ex) ++ L0)))) →
      o.wp P a w (wpAny P .any l.toArray (low n F Q) fuel (listed.setIfInBounds i true)) (low n F Q) := by
     intro hop
     unfold Oper.wp
     rw [hev]
     rcases hop w H2 with ⟨v, w', F', L', h1, h4, h3, hp, rfl⟩ | ⟨w', F', L', h1, h4, h3, hp, rfl⟩ | ⟨f, args, w', h1, h2⟩
     ·rw [h1]; exact next v F' w' h4 h3 hp
     ·rw [h1]; exact next undef F' w' h4 h3 hp
     ·rw [h1]
      refine h2.mono fun e w'' ⟨v, F', L', he, h4, hH, hk⟩ => ?_
      obtain ⟨hp, rfl⟩ := hk
      subst he
      exact next v F' w'' h4 hH hp
    unfold wpOp
    have hoA : l.toArray[i]? = some o := by simpa using ho
    rw [hoA]
    show (if Region.wanted o (yielded l.toArray a.tmps) = true then _ else _)
    unfold XG at hG
    cases hg : o.guard with
    | none =>
     rw [hg] at hG
     rw [if_pos (by simp [Region.wanted, hg])]
     exact .inl (opwp hG)
    | some gw =>
     obtain ⟨j, want⟩ := gw
     rw [hg] at hG
     obtain ⟨t, ht, ⟨b, hv, hif⟩ | ⟨hv, hif⟩⟩ := hG
     ·have hy : yielded l.toArray a.tmps j = some b := by
       unfold yielded
       rw [ht]
       have hts := slot t (List.mem_append_right _ (by simp only [hg]; simpa using ht))
       rw [hv, Array.getD_eq_getD_getElem?] at hts
       cases hx : a.tmps[t]? with
       | none => rw [hx] at hts; simp [undef] at hts
       | some x => rw [hx] at hts; simp at hts; subst hts; simp [hx]
      by_cases hb : b = want
      ·rw [if_pos hb] at hif
       rw [if_pos (by simp [Region.wanted, hg, hy, hb])]
       exact .inl (opwp hif)
      ·rw [if_neg hb] at hif
       rw [if_neg (by simp [Region.wanted, hg, hy, hb])]
       obtain ⟨hp, hL'⟩ := hif
       exact next undef F1 w (FLe.refl _) (by rw [← hL']; exact H2) hp
     ·have hy : yielded l.toArray a.tmps j = none := by
       unfold yielded
       rw [ht]
       have hts := slot t (List.mem_append_right _ (by simp only [hg]; simpa using ht))
       rw [hv, Array.getD_eq_getD_getElem?] at hts
       cases hx : a.tmps[t]? with
       | none => simp [hx]
       | some x => rw [hx] at hts; simp at hts; subst hts; simp [hx, undef]
      rw [if_neg (by simp [Region.wanted, hg, hy])]
      obtain ⟨hp, hL'⟩ := hif
      exact next undef F1 w (FLe.refl _) (by rw [← hL']; exact H2) hp
 refine headP l.toArray.size F (FLe.refl F) (Array.replicate l.toArray.size false) [] (fun _ => undef) a w0 (by simp) (by simp) List.nodup_nil (by simp) ?_ (by simp) (by simp) r.size r.defers (by simp) (fun s _ => r.get s) H1
 intro i hi
 simp only [Array.getD_eq_getD_getElem?, Array.getElem?_replicate]
 simp [hi]
theorem XA.drawG {P : Program} {n : Nat} {Q : QX} {ρ : Env} {F : FH} {L : List HP} {l : List Oper} (Bs L0 : List HP) (m : Nat) (uses cls tk : List (List Nat)) (phi : Nat → FH → List Value → Value → Prop) (own : Nat → List Value → Value → List HP)
  (hL : L = Bs ++ L0) (hm : Nat.ble m l.length = true) (hok : drawOk l m uses cls = true) (htk : takeOk l m tk = true)
  (hmono : ∀ i F F' us v, F ≤ F' → phi i F us v → phi i F' us v)
  (hstep : stepsG P l ρ F Bs phi own uses cls tk (l.take m) 0)
  (hend : ∀ (vals : Nat → Value) (F1 : FH), F ≤ F1 → (∀ i, i < m → phi i F1 ((uses.getD i []).map vals) (vals i)) → XL P n l.toArray (l.drop m) Q (canon vals (l.take m) 0 ρ) F1 (madeG own uses tk vals (List.range m) ++ (Bs ++ L0))) :
  XA P n l Q ρ F L := by
 refine XA.drawH Bs L0 m uses cls tk phi own (fun _ => []) ?_ hm hok htk hmono (stepsG.toT _ _ hstep) hend
 rw [hL]
 have h : ∀ l : List Nat, l.flatMap (fun _ => ([] : List HP)) = [] := by
  intro l
  induction l with
  | nil => rfl
  | cons a l ih => simp
 rw [h, List.nil_append]
end Go.Proofs.YtcdjpapjjoldeaaGreat.X
namespace Go.Proofs.YtcdjpapjjoldeaaGreat.M
structure Mgu (ar A C : List Int) (b : RowL) : Prop where
 ok : BOk ar b
 iff : ∀ θ, GoodS ar θ → (SatB b θ ↔ ap θ A = ap θ C)
section
variable {ar A C t s : List Int} {b1 b2 : RowL} {σ1 σ2 : Sbs} {n m : Int}
theorem Mgu.into (h1 : Mgu ar A C b1) (s1 : Sol b1 σ1) (h2 : Mgu ar A C b2) (s2 : Sol b2 σ2) : ap σ2 (ap σ1 t) = ap σ2 t := by
 have g2 := s2.good h2.ok
 exact s1.most_t h1.ok g2 ((h1.iff σ2 g2).2 ((h2.iff σ2 g2).1 s2.sat))
def hd1 (σ : Sbs) (n : Int) : Int := (σ n).getD 0 0
theorem Mgu.one (h1 : Mgu ar A C b1) (s1 : Sol b1 σ1) (h2 : Mgu ar A C b2) (s2 : Sol b2 σ2) (hn : n ∈ ap σ1 t) : σ2 n = [hd1 σ2 n] := by
 have g1 := s1.good h1.ok
 have g2 := s2.good h2.ok
 have e1 : (ap σ2 (ap σ1 t)).length = (ap σ2 t).length := congrArg _ (h1.into s1 h2 s2)
 have e2 : (ap σ1 (ap σ2 t)).length = (ap σ1 t).length := congrArg _ (h2.into s2 h1 s1)
 have l1 := g1.len (t := ap σ2 t)
 have l2 := g2.len_mem hn
 have l3 := g2.pos (x := n)
 have h : (σ2 n).length = 1 := by omega
 unfold hd1
 match hs : σ2 n, h with
 | [y], _ => rfl
theorem ap_map (h : ∀ n ∈ t, σ1 n = [hd1 σ1 n]) : ap σ1 t = t.map (hd1 σ1) := by
 induction t with
 | nil => rfl
 | cons x t ih => rw [ap_cons, h x (by simp), ih (fun n hn => h n (by simp [hn]))]; rfl
theorem Mgu.map (h1 : Mgu ar A C b1) (s1 : Sol b1 σ1) (h2 : Mgu ar A C b2) (s2 : Sol b2 σ2) : ap σ2 t = (ap σ1 t).map (hd1 σ2) := by
 rw [← h1.into s1 h2 s2, ap_map fun n hn => h1.one s1 h2 s2 hn]
end
def orderGo : List Int → List Int → List Int
 | s, [] => s
 | s, n :: t => orderGo (if n < 0 ∧ n ∉ s then s ++ [n] else s) t
def orderL (t : List Int) : List Int := orderGo [] t
def byL (o t : List Int) : List Int := t.map fun n => if n < 0 ∧ n ∈ o then -1 - indexZ o n else n
section
variable {o s t : List Int} {f g : Int → Int} {n : Int} {k : Nat}
end
abbrev PkT := List Int × List Int × List Int × Int × Int × Int
def P0 : PkT := ([], [], [], 0, 0, 0)
abbrev RulesT := List (List Int × List Int)
abbrev Lr (rs : RulesT) (o : Nat) : List Int := (rs.getD o ([], [])).1
abbrev Rr (rs : RulesT) (o : Nat) : List Int := (rs.getD o ([], [])).2
def leftT (ar : List Int) (rs : RulesT) (o p u : Nat) : List Int := (Lr rs o).take p ++ awayL (Rr rs u) ++ (Lr rs o).drop (endN ar (Lr rs o) p)
open Classical in
noncomputable def meetB (ar : List Int) (rs : RulesT) (o p u : Nat) : Bool := decide (¬ (o = u ∧ p = 0) ∧ ∃ θ, GoodS ar θ ∧ ap θ (sub ar (Lr rs o) p) = ap θ (awayL (Lr rs u)))
def peakOf (ar : List Int) (rs : RulesT) (o p u : Nat) (σ : Sbs) : Option PkT :=
 let top := ap σ (Lr rs o); let left := ap σ (leftT ar rs o p u); let right := ap σ (Rr rs o); let od := orderL top
 if top.length ≤ 60 ∧ left.length ≤ 60 ∧ right.length ≤ 60 ∧ od.length ≤ 24 then some (byL od top, byL od left, byL od right, (p : Int), (u : Int), (o : Int)) else none
abbrev MguP (ar : List Int) (rs : RulesT) (o p u : Nat) (b : RowL) : Prop := Mgu ar (sub ar (Lr rs o) p) (awayL (Lr rs u)) b
open Classical in
noncomputable def peakF (ar : List Int) (rs : RulesT) (o p u : Nat) : Option PkT :=
 if h : ∃ σ b, MguP ar rs o p u b ∧ Sol b σ then peakOf ar rs o p u (Classical.choose h) else none
section
variable {ar : List Int} {rs : RulesT} {o p u : Nat} {b b1 b2 : RowL} {σ σ1 σ2 : Sbs} {n : Int}
end
section
variable {s t w ss S : List Int} {ts os : RowL} {n : Int} {j k : Nat}
def RnAt (s t ss w : List Int) (j : Nat) : Prop := ss = orderGo s (t.take j) ∧ w = byL (orderGo s t) (t.take j) ++ t.drop j
theorem RnAt.len (h : RnAt s t ss w j) : w.length = t.length := by rw [h.2]; simp [byL]; omega
theorem RnAt.at (h : RnAt s t ss w j) (hj : j < t.length) : w.getD j 0 = t.getD j 0 := by
 have hl : (byL (orderGo s t) (t.take j)).length = j := by simp [byL]; omega
 rw [h.2, List.getD_eq_getElem?_getD, List.getElem?_append_right (by omega), hl, Nat.sub_self, List.getElem?_drop, List.getD_eq_getElem?_getD, Nat.add_zero]
theorem RnAt.put (h : RnAt s t ss w j) (hj : j < t.length) (x : Int) (hx : x = if t.getD j 0 < 0 ∧ t.getD j 0 ∈ orderGo s t then -1 - indexZ (orderGo s t) (t.getD j 0) else t.getD j 0) : w.set j x = byL (orderGo s t) (t.take (j + 1)) ++ t.drop (j + 1) := by
 have hl : (byL (orderGo s t) (t.take j)).length = j := by simp [byL]; omega
 have e : byL (orderGo s t) (t.take (j + 1)) = byL (orderGo s t) (t.take j) ++ [x] := by
  unfold byL; rw [take_succ_getD 0 hj, List.map_append, hx]; rfl
 rw [e, List.append_assoc, h.2, List.set_append_right _ _ (by omega), hl, Nat.sub_self, drop_cons hj]; rfl
end
section
variable {ar t : List Int} {σ : Sbs} {p : Nat}
end
noncomputable def pkF (ar : List Int) (rs : RulesT) (o p u : Nat) : Option PkT := if meetB ar rs o p u = true then peakF ar rs o p u else none
section
variable {ar : List Int} {rs : RulesT} {o p u : Nat} {b : RowL} {σ : Sbs}
end
end Go.Proofs.YtcdjpapjjoldeaaGreat.M
namespace Go.Proofs.YtcdjpapjjoldeaaGreat.X
open Go
end Go.Proofs.YtcdjpapjjoldeaaGreat.X
namespace Go.Proofs.YtcdjpapjjoldeaaGreat.M
abbrev Tr := Nat × Nat × Nat
section
variable (ar : List Int) (rs : RulesT)
noncomputable def pkD (m : Tr) : PkT := (pkF ar rs m.1 m.2.1 m.2.2).getD P0
open Classical in
end
section
variable {ar : List Int} {rs : RulesT} {o p u k n : Nat} {ms : List Tr} {os : List PkT} {m : Tr}
def PkI (ar : List Int) (rs : RulesT) (ms : List Tr) (os : List PkT) : Prop := (∀ m ∈ ms, (pkF ar rs m.1 m.2.1 m.2.2).isSome = true) ∧ ms.length ≤ 64 ∧ os = ms.map (pkD ar rs)
theorem PkI.len (h : PkI ar rs ms os) : os.length = ms.length ∧ os.length ≤ 64 := by
 have := h.2.1
 rw [h.2.2, List.length_map]; omega
theorem PkI.next (h : PkI ar rs ms os) (h1 : (pkF ar rs o p u).isSome = true) (h2 : os.length ≠ 64) : PkI ar rs (ms ++ [(o, p, u)]) (os ++ [(pkF ar rs o p u).getD P0]) := by
 obtain ⟨a, b, c⟩ := h
 have hl : os.length = ms.length := by rw [c, List.length_map]
 refine ⟨fun m hm => ?_, by rw [List.length_append, List.length_singleton]; omega, by rw [List.map_append, c]; rfl⟩
 rcases List.mem_append.1 hm with hm | hm
 ·exact a m hm
 ·rw [List.mem_singleton.1 hm]; exact h1
end
end Go.Proofs.YtcdjpapjjoldeaaGreat.M
namespace Go.Proofs.YtcdjpapjjoldeaaGreat.X
open Go
abbrev PeakT := List Int × List Int × List Int × Int × Int × Int
def PeakF (F : FH) (es : List Value) (x : PeakT) : Prop := ∃ a0 a1 a2, es = [a0, a1, a2, .int .i64 x.2.2.2.1, .int .i64 x.2.2.2.2.1, .int .i64 x.2.2.2.2.2] ∧ IntsF F a0 x.1 ∧ IntsF F a1 x.2.1 ∧ IntsF F a2 x.2.2.1
theorem PeakF.mono {F F' : FH} (le : F ≤ F') (es : List Value) (x : PeakT) (h : PeakF F es x) : PeakF F' es x := by
 obtain ⟨a0, a1, a2, e, h0, h1, h2⟩ := h
 exact ⟨a0, a1, a2, e, h0.mono le, h1.mono le, h2.mono le⟩
def PeaksF : FH → Value → List PeakT → Prop := SlOf 6 PeakF ([], [], [], 0, 0, 0)
theorem PeaksF.mono {F F' : FH} {v : Value} {xs : List PeakT} (h : PeaksF F v xs) (le : F ≤ F') : PeaksF F' v xs := SlOf.mono (PeakF.mono le) h le
theorem PeaksF.slv {F : FH} {L : List HP} {v : Value} {xs : List PeakT} (h : PeaksF F v xs) : SlV F L v xs.length := SlOf.slv h
theorem PeaksF.isSl {F : FH} {v : Value} {xs : List PeakT} (h : PeaksF F v xs) : IsSl v := by obtain ⟨_, h, _⟩ := h; exact h.isSl
theorem PeaksF.rd {F : FH} {v : Value} {xs : List PeakT} (h : PeaksF F v xs) {i : Nat} (hi : i < xs.length) : ∃ a0 a1 a2, IntsF F a0 (xs.getD i ([], [], [], 0, 0, 0)).1 ∧ IntsF F a1 (xs.getD i ([], [], [], 0, 0, 0)).2.1 ∧ IntsF F a2 (xs.getD i ([], [], [], 0, 0, 0)).2.2.1 ∧ (∀ L j u, ([a0, a1, a2, .int .i64 (xs.getD i ([], [], [], 0, 0, 0)).2.2.2.1, .int .i64 (xs.getD i ([], [], [], 0, 0, 0)).2.2.2.2.1, .int .i64 (xs.getD i ([], [], [], 0, 0, 0)).2.2.2.2.2] : List Value)[j]? = some u → Rd F L (elemA v (i * 6 + j)) u) ∧ True := by
 obtain ⟨es, hl, ⟨a0, a1, a2, rfl, h0, h1, h2⟩, hr⟩ := SlOf.get h hi
 exact ⟨a0, a1, a2, h0, h1, h2, hr, trivial⟩
def PeaksC (F : FH) (cs : List Value) (xs : List PeakT) : Prop := CO 6 PeakF ([], [], [], 0, 0, 0) F cs xs
theorem PeaksC.mono {F F' : FH} {cs : List Value} {xs : List PeakT} (h : PeaksC F cs xs) (le : F ≤ F') : PeaksC F' cs xs := CO.mono (PeakF.mono le) h
theorem PeaksC.snoc {F : FH} {cs : List Value} {xs : List PeakT} {a0 a1 a2 : Value} {y0 : List Int} {y1 : List Int} {y2 : List Int} {y3 : Int} {y4 : Int} {y5 : Int} (h : PeaksC F cs xs) (h0 : IntsF F a0 y0) (h1 : IntsF F a1 y1) (h2 : IntsF F a2 y2) : PeaksC F (cs ++ [a0, a1, a2, .int .i64 y3, .int .i64 y4, .int .i64 y5]) (xs ++ [(y0, y1, y2, y3, y4, y5)]) := CO.snoc h rfl ⟨a0, a1, a2, rfl, h0, h1, h2⟩
theorem PeaksC.get {F : FH} {cs : List Value} {xs : List PeakT} (h : PeaksC F cs xs) {i : Nat} (hi : i < xs.length) : ∃ a0 a1 a2, IntsF F a0 (xs.getD i ([], [], [], 0, 0, 0)).1 ∧ IntsF F a1 (xs.getD i ([], [], [], 0, 0, 0)).2.1 ∧ IntsF F a2 (xs.getD i ([], [], [], 0, 0, 0)).2.2.1 ∧ (∀ j u, ([a0, a1, a2, .int .i64 (xs.getD i ([], [], [], 0, 0, 0)).2.2.2.1, .int .i64 (xs.getD i ([], [], [], 0, 0, 0)).2.2.2.2.1, .int .i64 (xs.getD i ([], [], [], 0, 0, 0)).2.2.2.2.2] : List Value)[j]? = some u → cs[i * 6 + j]? = some u) := by
 obtain ⟨es, hl, ⟨a0, a1, a2, rfl, h0, h1, h2⟩, hr⟩ := CO.get h hi
 exact ⟨a0, a1, a2, h0, h1, h2, hr⟩
def PeakO (e : TypeId) (es : List Value) (x : PeakT) (K : List HP) : Prop := ∃ a b c, es = [a, b, c, .int .i64 x.2.2.2.1, .int .i64 x.2.2.2.2.1, .int .i64 x.2.2.2.2.2] ∧ K = [intsH e a x.1, intsH e b x.2.1, intsH e c x.2.2.1]
abbrev peaksD (e E : TypeId) (v : Value) (xs : List PeakT) : HP := deepH 6 (PeakO e) E v xs
section
variable {e E : TypeId} {F G : FH} {v : Value} {cs : List Value} {xs : List PeakT} {L : List HP}
theorem PeakO.fz (es : List Value) (x : PeakT) (K : List HP) (h : PeakO e es x K) (hz : ∃ l, star K l ∧ ∀ p ∈ l, F.cells p.1 = some p.2) : PeakF F es x := by
 obtain ⟨a, b, c, rfl, rfl⟩ := h
 exact ⟨a, b, c, rfl, intsH.fz (E := e) (frozen_star hz _ (by simp)), intsH.fz (E := e) (frozen_star hz _ (by simp)), intsH.fz (E := e) (frozen_star hz _ (by simp))⟩
theorem peaksD.fz (h : Fz (peaksD e E v xs) F) : PeaksF F v xs := deepH.fz PeakO.fz h
end
def PKJ {ι : Type} (F0 : FH) (e ES T : TypeId) (bw : Nat) (tl : List HP) (I : List ι → List PeakT → Prop) (ms : List ι) (Fy : FH) (Ly : List HP) : Prop :=
 ∃ (sv : Value) (os : List PeakT) (cs : List Value) (Ls : List HP) (m : Nat), IsSl sv ∧ PeaksC Fy cs os ∧ m = os.length ∧ DeepL 6 (PeakO e) cs os Ls ∧ Fresh F0 Fy (star Ls) ∧ I ms os ∧ Ly = cellsH bw [sv] T :: slH ES 6 sv m cs :: tl
theorem PKJ.mono {ι : Type} {F0 F F' : FH} {e ES T : TypeId} {bw : Nat} {tl L : List HP} {I : List ι → List PeakT → Prop} {ms : List ι} (h : PKJ F0 e ES T bw tl I ms F L) (le : F ≤ F') : PKJ F0 e ES T bw tl I ms F' L :=
 let ⟨sv, ss, cs, Ls, m, h1, h2, h3, h4, h5, h6, h7⟩ := h
 ⟨sv, ss, cs, Ls, m, h1, h2.mono le, h3, h4, h5.mono le, h6, h7⟩
section
variable {P : Program} {n : Nat} {r0 : Option Nat} {d0 : List Deferred} {ops : Array Oper} {l : List Oper} {Q : QX} {ρ : Env} {F : FH} {L : List HP}
end
end Go.Proofs.YtcdjpapjjoldeaaGreat.X
namespace Go.Proofs.YtcdjpapjjoldeaaGreat.M
section
variable {t u x : List Int} {b : RowL} {σ : Sbs} {ρ : Int → Nat} {n m : Int} {i : Nat} {sn : List Bool} {td : RowL}
def Mk (sn : List Bool) (m : Int) : Prop := sn.getD (varIx m) false = true
def Hd1 (b : RowL) (n : Int) (sn : List Bool) (y : Int) : Prop := y ≠ n ∧ (y < 0 → lkN b y ≠ [] → Mk sn y)
def Hd (b : RowL) (n : Int) (sn : List Bool) (x : List Int) : Prop := ∀ y ∈ x, Hd1 b n sn y
structure OccI (b : RowL) (σ : Sbs) (n : Int) (t : List Int) (sn : List Bool) (td : RowL) : Prop where
 len : sn.length = 48
 sound : ∀ x ∈ td, n ∈ ap σ x → n ∈ ap σ t
 all : ∀ x, (x = t ∨ ∃ m, m < 0 ∧ Mk sn m ∧ lkN b m ≠ [] ∧ x = lkN b m) → x ∈ td ∨ Hd b n sn x
structure OccJ (b : RowL) (σ : Sbs) (n : Int) (t u : List Int) (i : Nat) (sn : List Bool) (td : RowL) : Prop where
 len : sn.length = 48
 sound : ∀ x ∈ td, n ∈ ap σ x → n ∈ ap σ t
 us : n ∈ ap σ u → n ∈ ap σ t
 all : ∀ x, (x = t ∨ ∃ m, m < 0 ∧ Mk sn m ∧ lkN b m ≠ [] ∧ x = lkN b m) → x ∈ td ∨ Hd b n sn x ∨ x = u
 done : ∀ k, k < i → Hd1 b n sn (u.getD k 0)
theorem Mk.set (hl : sn.length = 48) (hm : m < 0) (hg : -48 ≤ m) (hy : n < 0) : Mk (sn.set (varIx m) true) n ↔ n = m ∨ Mk sn n := set_mark hl hm hg hy
theorem Hd1.mono (h : Hd1 b n sn m) (hl : sn.length = 48) {k : Int} (hk : k < 0) (hg : -48 ≤ k) : Hd1 b n (sn.set (varIx k) true) m := ⟨h.1, fun h0 hb => (Mk.set hl hk hg h0).2 (.inr (h.2 h0 hb))⟩
theorem OccJ.skip (h : OccJ b σ n t u i sn td) (hne : u.getD i 0 ≠ n) (hs : 0 ≤ u.getD i 0 ∨ Mk sn (u.getD i 0) ∨ lkN b (u.getD i 0) = []) : OccJ b σ n t u (i + 1) sn td :=
 ⟨h.len, h.sound, h.us, h.all, fun k hk => (Nat.lt_or_ge k i).elim (fun hlt => h.done k hlt) (fun hge => by
  obtain rfl : k = i := by omega
  exact ⟨hne, fun h0 hb => by
   rcases hs with h1 | h1 | h1
   ·omega
   ·exact h1
   ·exact absurd h1 hb⟩)⟩
theorem OccJ.push (h : OccJ b σ n t u i sn td) (hσ : Sol b σ) (hi : i < u.length) (hne : u.getD i 0 ≠ n) (h0 : u.getD i 0 < 0) (hg : -48 ≤ u.getD i 0) (hb : lkN b (u.getD i 0) ≠ []) :
  OccJ b σ n t u (i + 1) (sn.set (varIx (u.getD i 0)) true) (td ++ [lkN b (u.getD i 0)]) := by
 refine ⟨by rw [List.length_set]; exact h.len, fun x hx hn => ?_, h.us, fun x hx => ?_, fun k hk => ?_⟩
 ·rcases List.mem_append.1 hx with hx | hx
  ·exact h.sound x hx hn
  ·rw [List.mem_singleton.1 hx] at hn; exact h.us (occ_in hσ hi rfl hb hn)
 ·have old : (x = t ∨ ∃ m, m < 0 ∧ Mk sn m ∧ lkN b m ≠ [] ∧ x = lkN b m) → x ∈ td ++ [lkN b (u.getD i 0)] ∨ Hd b n (sn.set (varIx (u.getD i 0)) true) x ∨ x = u := fun hx => by
   rcases h.all x hx with h1 | h1 | h1
   ·exact .inl (by simp [h1])
   ·exact .inr (.inl fun y hy => (h1 y hy).mono h.len h0 hg)
   ·exact .inr (.inr h1)
  rcases hx with hx | ⟨m, hm0, hm, hmb, hx⟩
  ·exact old (.inl hx)
  ·rcases (Mk.set h.len h0 hg hm0).1 hm with rfl | hm
   ·exact .inl (by rw [hx]; simp)
   ·exact old (.inr ⟨m, hm0, hm, hmb, hx⟩)
 ·rcases Nat.lt_or_ge k i with hlt | hge
  ·exact (h.done k hlt).mono h.len h0 hg
  ·obtain rfl : k = i := by omega
   exact ⟨hne, fun _ _ => (Mk.set h.len h0 hg h0).2 (.inl rfl)⟩
end
section
variable {ar A C t w : List Int} {b b1 : RowL} {σ σ1 θ : Sbs} {n z : Int} {l r : RowL}
structure MeetI (ar A C : List Int) (b l r : RowL) : Prop where
 ok : BOk ar b
 same : l.length = r.length
 lw : ∀ x ∈ l, TermW ar x
 rw' : ∀ x ∈ r, TermW ar x
 iff : ∀ θ, GoodS ar θ → (ap θ A = ap θ C ↔ SatB b θ ∧ ∀ i, i < l.length → ap θ (l.getD i []) = ap θ (r.getD i []))
section
variable {u v : List Int} {k : Nat}
end
end
section
variable {ar t : List Int} {p k e m q : Nat} {os : RowL}
def PartI (ar t : List Int) (os : RowL) (m q : Nat) : Prop := partsL ar t = os ++ (argsGo ar t m q).map (fun q => sub ar t q.toNat) ∧ Stand ar t m q t.length
theorem PartI.next (ho : TermW ar t) (h : PartI ar t os m q) (hm : 1 ≤ m) : q < t.length ∧ PartI ar t (os ++ [(t.drop q).take (endN ar t q - q)]) (m - 1) (endN ar t q) ∧ q < endN ar t q ∧ endN ar t q ≤ t.length := by
 obtain ⟨m, rfl⟩ : ∃ j, m = j + 1 := ⟨m - 1, by omega⟩
 obtain ⟨h1, h2, h3, h4⟩ := ho.stand h.2
 refine ⟨h1, ⟨?_, h2⟩, h3, h4⟩
 have e := h.1
 rw [argsGo, List.map_cons, Int.toNat_natCast] at e
 rw [e, Nat.add_sub_cancel, List.append_assoc]
 rfl
theorem PartI.len (h : PartI ar t os m q) : (partsL ar t).length = os.length + m := by
 have := congrArg List.length h.1
 rwa [List.length_append, List.length_map, argsGo_len] at this
end
section
variable {ar : List Int} {rs : RulesT} {o p u : Nat} {b : RowL} {σ : Sbs} {t : List Int}
end
section
variable {ar t u A C : List Int} {b b1 l r : RowL} {σ : Sbs} {ρ : Int → Nat} {n : Int} {k : Nat}
def maxR (ρ : Int → Nat) : List Int → Nat
 | [] => 0
 | m :: t => max (if m < 0 then ρ m + 1 else 0) (maxR ρ t)
theorem maxR_le : ∀ {t : List Int} {k : Nat}, (∀ m ∈ t, m < 0 → ρ m + 1 ≤ k) → maxR ρ t ≤ k
 | [], _, _ => Nat.zero_le _
 | m :: t, k, h => by
  have h1 := maxR_le (t := t) (k := k) fun x hx => h x (by simp [hx])
  unfold maxR
  refine Nat.max_le.2 ⟨?_, h1⟩
  split
  ·rename_i h0; exact h m (by simp) h0
  ·omega
theorem le_maxR : ∀ {t : List Int}, n ∈ t → n < 0 → ρ n + 1 ≤ maxR ρ t
 | [], h, _ => by cases h
 | m :: t, h, h0 => by
  unfold maxR
  rcases List.mem_cons.1 h with rfl | h1
  ·rw [if_pos h0]; exact Nat.le_max_left _ _
  ·exact Nat.le_trans (le_maxR h1 h0) (Nat.le_max_right _ _)
def wtR (ρ : Int → Nat) (t : List Int) : Nat := 61 * maxR ρ t + t.length
def WtLe (b : RowL) (t u : List Int) : Prop := ∀ ρ, Acyc b ρ → wtR ρ u ≤ wtR ρ t
theorem WtLe.refl : WtLe b t t := fun _ _ => Nat.le_refl _
theorem WtLe.next (h : WtLe b t u) (hb : BOk ar b) (hu : TermW ar u) (h0 : u.getD 0 0 < 0) (hn : b.getD (varIx (u.getD 0 0)) [] ≠ []) : WtLe b t (b.getD (varIx (u.getD 0 0)) []) := by
 rw [← lkN_get h0] at hn ⊢
 intro ρ hρ
 refine Nat.le_trans ?_ (h ρ hρ)
 have hl := (hb.wt _ h0 hn).len
 have hul := hu.len
 have h1 : maxR ρ (lkN b (u.getD 0 0)) ≤ ρ (u.getD 0 0) := maxR_le fun m hm hm0 => by have := hρ _ h0 m hm hm0; omega
 have h2 : ρ (u.getD 0 0) + 1 ≤ maxR ρ u := le_maxR (mem_of_getD (k := 0) (by omega) rfl) h0
 unfold wtR
 omega
def StkI (b : RowL) (A : List Int) (l : RowL) : Prop := ∀ ρ, Acyc b ρ → ∀ i, i < l.length → i + 2 * wtR ρ (l.getD i []) ≤ 2 * wtR ρ A
def rkB (ρ : Int → Nat) (n : Int) : Nat := ((List.range 48).filter fun (i : Nat) => decide (ρ (-1 - (i : Int)) < ρ n)).length
theorem rk_le : rkB ρ n ≤ 48 := by unfold rkB; exact Nat.le_trans (List.length_filter_le _ _) (by simp)
theorem filter_lt {p q : Nat → Bool} {x : Nat} : ∀ {l : List Nat}, (∀ y, p y = true → q y = true) → x ∈ l → p x = false → q x = true → (l.filter p).length < (l.filter q).length
 | [], _, h, _, _ => by cases h
 | y :: l, h1, h2, h3, h4 => by
  have mono : ∀ l : List Nat, (l.filter p).length ≤ (l.filter q).length := fun l => by
   rw [← List.countP_eq_length_filter, ← List.countP_eq_length_filter]; exact List.countP_mono_left fun y _ => h1 y
  rcases List.mem_cons.1 h2 with rfl | h5
  ·rw [List.filter_cons_of_neg (by rw [h3]; simp), List.filter_cons_of_pos h4, List.length_cons]
   have := mono l; omega
  ·have ih := filter_lt h1 h5 h3 h4
   simp only [List.filter_cons]
   cases hp : p y with
   | true => rw [h1 y hp]; simp only [if_true, List.length_cons]; omega
   | false => cases q y <;> simp <;> omega
theorem Acyc.rk (hb : BOk ar b) (h : Acyc b ρ) : Acyc b (rkB ρ) := fun n hn m hm hm0 => by
 have hne : lkN b n ≠ [] := fun e => by rw [e] at hm; cases hm
 have hg := (hb.wt n hn hne).ge m hm
 have hlt := h n hn m hm hm0
 refine filter_lt (x := (-1 - m).toNat) (fun y hy => ?_) (by simp; omega) ?_ ?_
 ·have := of_decide_eq_true hy; exact decide_eq_true (by omega)
 ·have e : -1 - (((-1 - m).toNat : Nat) : Int) = m := by omega
  rw [e]; simp
 ·have e : -1 - (((-1 - m).toNat : Nat) : Int) = m := by omega
  rw [e]; simpa using hlt
theorem StkI.len (h : StkI b A l) (hb : BOk ar b) (hA : A.length ≤ 60) : l.length ≤ 7000 := by
 obtain ⟨ρ, hρ⟩ := hb.acyc
 rcases Nat.eq_zero_or_pos l.length with h0 | h0
 ·omega
 have h1 := h _ (hρ.rk hb) (l.length - 1) (by omega)
 have h2 : maxR (rkB ρ) A ≤ 49 := maxR_le fun m _ _ => by have := rk_le (ρ := ρ) (n := m); omega
 unfold wtR at h1
 omega
end
end Go.Proofs.YtcdjpapjjoldeaaGreat.M
namespace Go.Proofs.YtcdjpapjjoldeaaGreat.X
open Go
def boolsH (E : TypeId) (v : Value) (ss : List Bool) : HP := slH E 1 v ss.length (bools ss)
theorem boolsH.slv {F : FH} {L : List HP} {E : TypeId} {v : Value} {ss : List Bool} (A : List HP) {B : List HP} (hL : L = A ++ boolsH E v ss :: B) : SlV F L v ss.length := SlV.own A hL
theorem boolsH.rd {F : FH} {L : List HP} {E : TypeId} {v : Value} {ss : List Bool} (A : List HP) {B : List HP} (hL : L = A ++ boolsH E v ss :: B) {i : Nat} (hi : i < ss.length) : Rd F L (elemA v i) (.bool (ss.getD i false)) :=
 Rd.sl A hL (bools_get hi)
section
variable {P : Program} {ρ : Env} {F : FH} {L : List HP} {K : Post} {d : Option Tmp} {ty : TypeId} {pos : String} {af : Array Edge} {g : Option (Nat × Bool)}
theorem boolsH.storeX {x y : Operand} {t : TypeId} {i : Nat} {u : Bool} {v : Value} {E : TypeId} {ss : List Bool} (A B : List HP) (ss' : List Bool) (hs : ∀ w, (sizeOf t).run P w = .ok 1 w) (hx : evO ρ x = .pointer (some (elemA v i))) (hy : evO ρ y = .bool u)
  (hL : L = A ++ boolsH E v ss :: B) (ho : i < ss.length) (hxs : ss.set i u = ss') (k : K undef F (A ++ boolsH E v ss' :: B)) : XOp P ⟨d, .store t x y, ty, pos, af, g⟩ ρ F L K := by
 subst hxs
 refine XOp.storeS A B hs hx hy rfl hL (by simpa using ho) ?_
 have e : (ss.map Value.bool).set i (.bool u) = (ss.set i u).map Value.bool := by rw [List.map_set]
 rw [e]
 have e2 : ss.length = (ss.set i u).length := by simp
 unfold boolsH at k
 rw [← e2] at k
 exact k
end
section
variable {P : Program} {ρ : Env} {F : FH} {L : List HP} {K : Post} {d : Option Tmp} {ty : TypeId} {pos : String} {af : Array Edge} {g : Option (Nat × Bool)}
end
def ByteE (F : FH) (es : List Value) (x : Int) : Prop := es = [.int .u8 x] ∧ 0 ≤ x ∧ x ≤ 255
theorem ByteE.mono {F F' : FH} (es : List Value) (x : Int) (h : ByteE F es x) : ByteE F' es x := h
def BytesF : FH → Value → List Int → Prop := SlOf 1 ByteE 0
theorem BytesF.mono {F F' : FH} {v : Value} {xs : List Int} (h : BytesF F v xs) (le : F ≤ F') : BytesF F' v xs := SlOf.mono ByteE.mono h le
theorem BytesF.slv {F : FH} {L : List HP} {v : Value} {xs : List Int} (h : BytesF F v xs) : SlV F L v xs.length := SlOf.slv h
theorem BytesF.isSl {F : FH} {v : Value} {xs : List Int} (h : BytesF F v xs) : IsSl v := by obtain ⟨_, h, _⟩ := h; exact h.isSl
theorem BytesF.rd {F : FH} {v : Value} {xs : List Int} (h : BytesF F v xs) {i : Nat} (hi : i < xs.length) : ∀ L, Rd F L (elemA v i) (.int .u8 (xs.getD i 0)) := by
 obtain ⟨es, hl, ⟨rfl, _⟩, hr⟩ := SlOf.get h hi
 intro L
 have := hr L 0 _ rfl
 simpa using this
theorem BytesF.range {F : FH} {v : Value} {xs : List Int} (h : BytesF F v xs) {i : Nat} (hi : i < xs.length) : 0 ≤ xs.getD i 0 ∧ xs.getD i 0 ≤ 255 := by
 obtain ⟨es, hl, ⟨rfl, h2⟩, hr⟩ := SlOf.get h hi
 exact h2
section
variable {P : Program} {n : Nat} {ops : Array Oper} {l : List Oper} {Q : QX} {ρ : Env} {F : FH} {L : List HP} {c : Code}
end
def SomesF (F : FH) (v : Value) (Q : List Int → Prop) : Prop := ∃ t, IntsF F v t ∧ Q t
theorem SomesF.mono {F F' : FH} {v : Value} {Q : List Int → Prop} (h : SomesF F v Q) (le : F ≤ F') : SomesF F' v Q := let ⟨t, h1, h2⟩ := h; ⟨t, h1.mono le, h2⟩
theorem SomesF.isSl {F : FH} {v : Value} {Q : List Int → Prop} (h : SomesF F v Q) : IsSl v := let ⟨_, h1, _⟩ := h; h1.isSl
def SomeRowsF (F : FH) (v : Value) (Q : List (List Int) → Prop) : Prop := ∃ t, RowsF F v t ∧ Q t
theorem SomeRowsF.mono {F F' : FH} {v : Value} {Q : List (List Int) → Prop} (h : SomeRowsF F v Q) (le : F ≤ F') : SomeRowsF F' v Q := let ⟨t, h1, h2⟩ := h; ⟨t, h1.mono le, h2⟩
theorem SomeRowsF.isSl {F : FH} {v : Value} {Q : List (List Int) → Prop} (h : SomeRowsF F v Q) : IsSl v := let ⟨_, h1, _⟩ := h; h1.isSl
section
variable {P : Program} {ρ : Env} {F : FH} {L : List HP} {K : Post} {d : Option Tmp} {ty : TypeId} {pos : String} {af : Array Edge} {g : Option (Nat × Bool)}
end
section
variable {P : Program} {ρ : Env} {F : FH} {L : List HP} {K : Post} {d : Option Tmp} {ty : TypeId} {pos : String} {af : Array Edge} {g : Option (Nat × Bool)}
end
theorem RowsC.ones {F : FH} {cs : List Value} {xs : List (List Int)} (h : RowsC F cs xs) : ∀ u ∈ cs, u.oneCell' = true := by
 intro u hu
 obtain ⟨q, hq, rfl⟩ := List.getElem_of_mem hu
 have hl := h.1
 obtain ⟨es, h1, ⟨c, rfl, hc⟩, hg⟩ := CO.get h (i := q) (by omega)
 have h9 := hg 0 c rfl
 rw [show q * 1 + 0 = q from by omega, List.getElem?_eq_getElem hq] at h9
 obtain ⟨b, n, k, rfl⟩ := IntsF.isSl hc
 rw [Option.some.inj h9]; rfl
def SomeStepsF (F : FH) (v : Value) (Q : List StepT → Prop) : Prop := ∃ t, StepsF F v t ∧ Q t
theorem SomeStepsF.mono {F F' : FH} {v : Value} {Q : List StepT → Prop} (h : SomeStepsF F v Q) (le : F ≤ F') : SomeStepsF F' v Q := let ⟨t, h1, h2⟩ := h; ⟨t, h1.mono le, h2⟩
theorem SomeStepsF.isSl {F : FH} {v : Value} {Q : List StepT → Prop} (h : SomeStepsF F v Q) : IsSl v := let ⟨_, h1, _⟩ := h; h1.isSl
def SomeBindsF (F : FH) (bs : List Value) (Q : List (List Int) → Prop) : Prop := ∃ bl, BindC F bs bl ∧ Q bl
theorem SomeBindsF.mono {F F' : FH} {bs : List Value} {Q : List (List Int) → Prop} (h : SomeBindsF F bs Q) (le : F ≤ F') : SomeBindsF F' bs Q := let ⟨t, h1, h2⟩ := h; ⟨t, h1.mono le, h2⟩
end Go.Proofs.YtcdjpapjjoldeaaGreat.X
namespace Go.Proofs.YtcdjpapjjoldeaaGreat.M
section
variable {ar : List Int} {rs : Rules} {a b t : List Int} {ts : RowL} {n : Int} {m k : Nat}
def eqN (ar : List Int) (rs : Rules) (a b : List Int) (m : Nat) : Int :=
 if (walkGo ar rs 1 m a).2 = true ∧ (walkGo ar rs 1 m b).2 = true then (if endL a (walkGo ar rs 1 m a).1 = endL b (walkGo ar rs 1 m b).1 then 1 else 0) else -1
end
section
variable {ar : List Int} {rs : Rules} {a b t : List Int} {n : Int}
end
section
variable {o t : List Int} {k j : Nat} {n x : Int}
end
section
variable {ar : List Int} {rs : RulesT} {o p u : Nat} {b : RowL} {σ : Sbs}
end
end Go.Proofs.YtcdjpapjjoldeaaGreat.M
namespace Go.Proofs.YtcdjpapjjoldeaaGreat.X
open Go
section
variable {P : Program} {ρ : Env} {F : FH} {L : List HP} {K : Post} {d : Option Tmp} {ty : TypeId} {pos : String} {af : Array Edge} {g : Option (Nat × Bool)}
end
end Go.Proofs.YtcdjpapjjoldeaaGreat.X
namespace Go.Proofs.YtcdjpapjjoldeaaGreat.M
section
variable {ar : List Int} {rs : RulesT} {o p u : Nat} {x : PkT}
end
section
variable {t : List Int} {rs : RulesT} {ar : List Int} {k : Nat}
def LinT (t : List Int) : Prop := ∀ i, i < t.length → t.getD i 0 < 0 → t.getD i 0 ∉ t.take i
def LinAt (t : List Int) (k : Nat) : Prop := ∀ i, i < k → t.getD i 0 < 0 → t.getD i 0 ∉ t.take i
instance : Decidable (LinT t) := by unfold LinT; infer_instance
def LinS (rs : RulesT) : Prop := ∀ i, i < rs.length → LinT (rs.getD i ([], [])).1
instance : Decidable (LinS rs) := by unfold LinS; infer_instance
theorem lin_done (h : LinAt t k) (hk : k = t.length) : LinT t := by subst hk; exact h
theorem count_take {n : Int} (hk : k < t.length) : (t.take (k + 1)).count n = (t.take k).count n + if t.getD k 0 = n then 1 else 0 := by
 rw [take_succ_getD (l := t) (k := k) 0 hk, List.count_append]
 simp [List.count_singleton]
theorem lin_next (h : LinAt t k) (h1 : 0 ≤ t.getD k 0 ∨ t.getD k 0 ∉ t.take k) : LinAt t (k + 1) := fun i hi h0 => by
 rcases Nat.lt_or_ge i k with hlt | hge
 ·exact h i hlt h0
 ·obtain rfl : i = k := by omega
  exact h1.resolve_left (by omega)
theorem lin_no (hk : k < t.length) (h0 : t.getD k 0 < 0) (h1 : t.getD k 0 ∈ t.take k) : ¬ LinT t := fun h => h k hk h0 h1
theorem lin_count : LinT t ↔ ∀ i, i < t.length → t.getD i 0 < 0 → t.count (t.getD i 0) ≤ 1 := by
 constructor
 ·intro h i hi h0
  generalize t.getD i 0 = x at h0
  have key : ∀ j, j ≤ t.length → (t.take j).count x ≤ 1 := by
   intro j
   induction j with
   | zero => intro _; simp
   | succ j ih =>
    intro hj
    have ih := ih (by omega)
    rw [take_succ_getD (l := t) (k := j) 0 (by omega), List.count_append]
    by_cases hy : t.getD j 0 = x
    ·have h2 := h j (by omega) (by omega)
     rw [hy] at h2 ⊢
     rw [List.count_eq_zero.2 h2]
     simp
    ·rw [List.count_eq_zero.2 (fun hm => hy (List.mem_singleton.1 hm).symm)]
     omega
  have := key t.length (Nat.le_refl _)
  rwa [List.take_length] at this
 ·intro h i hi h0 hm
  have h1 := h i hi h0
  have e : t = t.take i ++ (t.getD i 0 :: t.drop (i + 1)) := by
   have : t.getD i 0 = t[i] := by simp [List.getD, hi]
   rw [this, ← List.drop_eq_getElem_cons hi, List.take_append_drop]
  generalize t.getD i 0 = x at h1 hm e
  rw [e, List.count_append, List.count_cons_self] at h1
  have := List.count_pos_iff.2 hm
  omega
end
section
variable {α : Type} {q : α → Bool} {l : List α} {d : α} {k : Nat}
def badG (q : α → Bool) (l : List α) : Int := match l.findIdx? (fun t => !q t) with | some i => i | none => -1
theorem badG_at (d : α) (hk : k < l.length) (h : q (l.getD k d) = false) (hall : ∀ i, i < k → q (l.getD i d) = true) : badG q l = k := by
 unfold badG
 have : l.findIdx? (fun t => !q t) = some k := by
  rw [List.findIdx?_eq_some_iff_getElem]
  refine ⟨hk, by simpa [List.getD, hk] using h, fun j hj => ?_⟩
  have := hall j hj
  simpa [List.getD, Nat.lt_trans hj hk] using this
 rw [this]
theorem badG_none (d : α) (hall : ∀ i, i < l.length → q (l.getD i d) = true) : badG q l = -1 := by
 unfold badG
 have : l.findIdx? (fun t => !q t) = none := by
  rw [List.findIdx?_eq_none_iff]
  intro x hx
  obtain ⟨i, hi, rfl⟩ := List.getElem_of_mem hx
  simpa [List.getD, hi] using hall i hi
 rw [this]
theorem badG_iff : (badG q l ≥ 0) ↔ l.all q = false := by
 unfold badG
 cases h : l.findIdx? (fun t => !q t) with
 | none =>
  rw [List.findIdx?_eq_none_iff] at h
  have : l.all q = true := List.all_eq_true.2 fun x hx => by simpa using h x hx
  simp [this]
 | some i =>
  rw [List.findIdx?_eq_some_iff_getElem] at h
  obtain ⟨hi, h1, _⟩ := h
  have : l.all q = false := by
   rw [List.all_eq_false]
   exact ⟨_, List.getElem_mem hi, by simpa using h1⟩
  simp [this]
theorem all_getD_iff (d : α) : l.all q = true ↔ ∀ i, i < l.length → q (l.getD i d) = true := by
 rw [List.all_eq_true]
 refine ⟨fun h i hi => h _ (by simp [List.getD, hi]), fun h x hx => ?_⟩
 obtain ⟨i, hi, rfl⟩ := List.getElem_of_mem hx
 simpa [List.getD, hi] using h i hi
theorem all_fail (d : α) (hk : k < l.length) (h : q (l.getD k d) = false) : l.all q = false := by
 cases hx : l.all q with
 | false => rfl
 | true => have := (all_getD_iff d).1 hx k hk; rw [h] at this; cases this
end
section
variable {ar : List Int} {rs es : Rules} {a b : List Int} {n : Int} {m k : Nat}
def eq1 (ar : List Int) (rs : Rules) (m : Nat) (e : List Int × List Int) : Bool := decide (eqN ar rs e.1 e.2 m = 1)
end
abbrev StepV := Int × Int × List Int
def stepOne (ar : List Int) (rs : Rules) (t : List Int) (p r : Nat) : List StepV := match stepL ar rs t p r with | some u => [((p : Int), (r : Int), u)] | none => []
def stepsRow (ar : List Int) (rs : Rules) (t : List Int) (p k : Nat) : List StepV := (List.range k).flatMap (stepOne ar rs t p)
def stepsTo (ar : List Int) (rs : Rules) (t : List Int) (p : Nat) : List StepV := (List.range p).flatMap fun q => stepsRow ar rs t q rs.length
def stepsL (ar : List Int) (rs : Rules) (t : List Int) : List StepV := stepsTo ar rs t t.length
section
variable {ar t : List Int} {rs : Rules} {p r k : Nat} {u : List Int}
end
abbrev FoundV := List Int × Int × StepV × Int
def isIn (all : List FoundV) (t : List Int) : Bool := all.any fun x => decide (x.1 = t)
def addGo (k d : Int) : List StepV → List FoundV → List FoundV × Bool
 | [], all => (all, true)
 | s :: r, all => if isIn all s.2.2 = true then addGo k d r all else if all.length = 60 then (all, false) else addGo k d r (all ++ [(s.2.2, k, s, d + 1)])
def reachGo (ar : List Int) (rs : Rules) (n : Int) : Nat → Nat → List FoundV → List FoundV × Bool
  | 0, _, all => (all, true)
  | f + 1, k, all => if k < all.length then
      (if (all.getD k ([], 0, (0, 0, []), 0)).2.2.2 = n then reachGo ar rs n f (k + 1) all
       else if (addGo (k : Int) (all.getD k ([], 0, (0, 0, []), 0)).2.2.2 (stepsL ar rs (all.getD k ([], 0, (0, 0, []), 0)).1) all).2 = true then reachGo ar rs n f (k + 1) (addGo (k : Int) (all.getD k ([], 0, (0, 0, []), 0)).2.2.2 (stepsL ar rs (all.getD k ([], 0, (0, 0, []), 0)).1) all).1
       else (addGo (k : Int) (all.getD k ([], 0, (0, 0, []), 0)).2.2.2 (stepsL ar rs (all.getD k ([], 0, (0, 0, []), 0)).1) all))
    else (all, true)
def start0 (t : List Int) : List FoundV := [(t, -1, (0, 0, []), 0)]
def reachL (ar : List Int) (rs : Rules) (t : List Int) (n : Int) : List FoundV × Bool := reachGo ar rs n 60 0 (start0 t)
section
variable {ar t : List Int} {rs : Rules} {n d : Int} {k f : Nat} {all : List FoundV} {ss : List StepV}
abbrev EL (all : List FoundV) (k : Nat) : FoundV := all.getD k ([], 0, (0, 0, []), 0)
def AllOk (ar : List Int) (all : List FoundV) : Prop := ∀ i, i < all.length → termOk ar (EL all i).1 = true
theorem AllOk.snoc {x : FoundV} (h : AllOk ar all) (hx : termOk ar x.1 = true) : AllOk ar (all ++ [x]) := by
 intro i hi
 rw [List.length_append, List.length_singleton] at hi
 rcases Nat.lt_or_ge i all.length with h1 | h1
 ·have := h i h1; unfold EL at *; rwa [List.getD_eq_getElem?_getD, List.getElem?_append_left h1, ← List.getD_eq_getElem?_getD]
 ·obtain rfl : i = all.length := by omega
  unfold EL; simp [List.getD]; exact hx
def DeepOk (n : Int) (all : List FoundV) : Prop := ∀ i, i < all.length → 0 ≤ (EL all i).2.2.2 ∧ (EL all i).2.2.2 ≤ n
theorem DeepOk.snoc {x : FoundV} (h : DeepOk n all) (hx : 0 ≤ x.2.2.2 ∧ x.2.2.2 ≤ n) : DeepOk n (all ++ [x]) := by
 intro i hi
 rw [List.length_append, List.length_singleton] at hi
 rcases Nat.lt_or_ge i all.length with h1 | h1
 ·have := h i h1; unfold EL at *; rwa [List.getD_eq_getElem?_getD, List.getElem?_append_left h1, ← List.getD_eq_getElem?_getD]
 ·obtain rfl : i = all.length := by omega
  unfold EL; simp [List.getD]; exact hx
theorem isIn_some {i : Nat} {u : List Int} (hi : i < all.length) (h : (EL all i).1 = u) : isIn all u = true := by
 unfold isIn
 rw [List.any_eq_true]
 refine ⟨EL all i, ?_, by simpa using h⟩
 unfold EL; simp [List.getD, hi]
end
def foundI (all : List FoundV) (u : List Int) : Int := badG (fun x => !decide (x.1 = u)) all
theorem foundI_iff {all : List FoundV} {u : List Int} : (foundI all u ≥ 0) ↔ isIn all u = true := by
 unfold foundI
 rw [badG_iff]
 unfold isIn
 constructor
 ·intro h
  rw [List.all_eq_false] at h
  obtain ⟨x, hx, h⟩ := h
  rw [List.any_eq_true]
  exact ⟨x, hx, by simpa using h⟩
 ·intro h
  rw [List.any_eq_true] at h
  obtain ⟨x, hx, h⟩ := h
  rw [List.all_eq_false]
  exact ⟨x, hx, by simpa using h⟩
section
variable {all : List FoundV} {x : FoundV} {i : Nat}
theorem EL_snoc {k : Nat} (hk : k < all.length) : EL (all ++ [x]) k = EL all k := by unfold EL; rw [List.getD_eq_getElem?_getD, List.getElem?_append_left hk, ← List.getD_eq_getElem?_getD]
end
def Link (all : List FoundV) : Prop := (0 < all.length ∧ (EL all 0).2.1 = -1 ∧ (EL all 0).2.2.2 = 0) ∧ ∀ i, 0 < i → i < all.length → 0 ≤ (EL all i).2.1 ∧ (EL all i).2.1 < (i : Int) ∧ (EL all i).2.2.2 = (EL all (EL all i).2.1.toNat).2.2.2 + 1 ∧ (EL all i).2.2.1.2.2 = (EL all i).1
def Dist (all : List FoundV) : Prop := ∀ i j, i < j → j < all.length → (EL all i).1 ≠ (EL all j).1
section
variable {ar t : List Int} {rs : Rules} {n : Int} {all : List FoundV}
theorem EL_last {x : FoundV} : EL (all ++ [x]) all.length = x := by unfold EL; simp [List.getD]
theorem Link.snoc {k : Nat} {s : StepV} {d : Int} (h : Link all) (hk : k < all.length) (hd : d = (EL all k).2.2.2) : Link (all ++ [(s.2.2, (k : Int), s, d + 1)]) := by
 obtain ⟨⟨h0, h2, h3⟩, h4⟩ := h
 refine ⟨⟨by simp, by rw [EL_snoc h0]; exact h2, by rw [EL_snoc h0]; exact h3⟩, fun i hi hl => ?_⟩
 rw [List.length_append, List.length_singleton] at hl
 rcases Nat.lt_or_ge i all.length with h | h
 ·obtain ⟨a, b, c, d⟩ := h4 i hi h
  rw [EL_snoc h]
  exact ⟨a, b, by rw [EL_snoc (by omega)]; exact c, d⟩
 ·obtain rfl : i = all.length := by omega
  rw [EL_last]
  refine ⟨by dsimp only; omega, by dsimp only; omega, ?_, rfl⟩
  dsimp only
  rw [show ((k : Int)).toNat = k from by omega, EL_snoc hk, hd]
theorem Dist.snoc {x : FoundV} (h : Dist all) (hx : isIn all x.1 = false) : Dist (all ++ [x]) := by
 intro i j hij hj
 rw [List.length_append, List.length_singleton] at hj
 rcases Nat.lt_or_ge j all.length with h1 | h1
 ·rw [EL_snoc h1, EL_snoc (by omega)]; exact h i j hij h1
 ·obtain rfl : j = all.length := by omega
  rw [EL_last, EL_snoc hij]
  intro he
  rw [isIn_some hij he] at hx
  cases hx
def backF (all : List FoundV) : Nat → Nat → List StepV
 | 0, _ => []
 | f + 1, k => if k = 0 then [] else (EL all k).2.2.1 :: backF all f (EL all k).2.1.toNat
def backL (all : List FoundV) (k : Nat) : List StepV := backF all k k
def walkL (all : List FoundV) (k : Nat) : List StepV := (backL all k).reverse
end
def WalkB (f : List Int) (ss : List StepV) : Prop := f.length ≤ 60 ∧ ss.length ≤ 60 ∧ (∀ i, i < ss.length → (ss.getD i (0, 0, [])).2.2.length ≤ 60) ∧ (ss.flatMap flatStep).length ≤ 4000
theorem WalkB.nil : WalkB [] [] := ⟨by simp, by simp, fun i hi => by simp at hi, by simp⟩
theorem WalkB.mk {f : List Int} {ss : List StepV} (hf : f.length ≤ 60) (hs : ss.length ≤ 60) (h : ∀ s ∈ ss, s.2.2.length ≤ 60) : WalkB f ss := by
 have h0 : ∀ i, i < ss.length → (ss.getD i (0, 0, [])).2.2.length ≤ 60 := fun i hi => h _ (by simp [List.getD, hi])
 refine ⟨hf, hs, h0, ?_⟩
 have h1 := flatStep_len ss
 have h2 := gTo_bound h0 _ (Nat.le_refl _)
 have h4 : ss.length * 60 ≤ 60 * 60 := Nat.mul_le_mul_right 60 hs
 omega
section
variable {ar t u a b : List Int} {rs : Rules} {n : Int} {all : List FoundV} {k : Nat}
def joinI (l r : List FoundV) : Int := badG (fun x => !isIn r x.1) l
theorem joinI_none {l r : List FoundV} (hall : ∀ i, i < l.length → foundI r (EL l i).1 < 0) : joinI l r = -1 :=
 badG_none ([], 0, (0, 0, []), 0) (fun i hi => by
  have := hall i hi
  cases hx : isIn r (EL l i).1 with
  | true => have := foundI_iff.2 hx; omega
  | false => rfl)
abbrev Two := List Int × List StepV × List Int × List StepV × Bool
def join0 (ar : List Int) (rs : Rules) (a b : List Int) (n : Int) : Two :=
 if 0 ≤ joinI (reachL ar rs a n).1 (reachL ar rs b n).1 then
  (a, walkL (reachL ar rs a n).1 (joinI (reachL ar rs a n).1 (reachL ar rs b n).1).toNat, b, walkL (reachL ar rs b n).1 (foundI (reachL ar rs b n).1 (EL (reachL ar rs a n).1 (joinI (reachL ar rs a n).1 (reachL ar rs b n).1).toNat).1).toNat, true)
 else ([], [], [], [], false)
theorem join0_none (hall : ∀ i, i < (reachL ar rs a n).1.length → foundI (reachL ar rs b n).1 (EL (reachL ar rs a n).1 i).1 < 0) : join0 ar rs a b n = ([], [], [], [], false) := by
 unfold join0
 rw [joinI_none hall, if_neg (by omega)]
theorem badG_lt {α : Type} (d : α) {q : α → Bool} {l : List α} (h : 0 ≤ badG q l) : (badG q l).toNat < l.length ∧ q (l.getD (badG q l).toNat d) = false := by
 unfold badG at h ⊢
 split at h
 ·rename_i i he
  rw [List.findIdx?_eq_some_iff_getElem] at he
  obtain ⟨hi, h1, _⟩ := he
  rw [show ((i : Int)).toNat = i from by omega]
  simp only [List.getD_eq_getElem?_getD, List.getElem?_eq_getElem hi, Option.getD_some]
  exact ⟨hi, by simpa using h1⟩
 ·omega
end
abbrev LnT := Int × List (List Int) × List Int
def leftL (x : LnT) : List Int := x.1 :: x.2.1.flatten
def freeB (fs t : List Int) : Bool := t.all fun n => !decide (n ∈ fs)
open Classical in
noncomputable def lineB (ar fs : List Int) (x : LnT) : Bool := (decide (x.1 ∈ fs) && decide ((x.2.1.length : Int) = ar.getD x.1.toNat 0)) && (x.2.1.all (fun p => termOk ar p && freeB fs p) && (ruleOk ar (leftL x) x.2.2 && decide (LinT (leftL x))))
def setB (fs : List Int) (n : Int) : Bool := (List.range fs.length).all fun i => decide ((0 ≤ fs.getD i 0 ∧ fs.getD i 0 < n) ∧ (0 < i → fs.getD ((i : Int) - 1).toNat 0 < fs.getD i 0))
noncomputable def frontB (ar fs : List Int) (ls : List LnT) : Bool := (sigOk ar && setB fs ar.length) && (decide (ls.length ≤ 8) && ls.all (lineB ar fs))
def groundB (ar t : List Int) : Bool := termOk ar t && t.all fun n => decide (0 ≤ n)
section
variable {ar fs t : List Int} {ls : List LnT} {x : LnT} {k : Nat} {n : Int}
theorem free_badG (t : List Int) : (badG (fun n => !decide (n ∈ fs)) t ≥ 0) ↔ freeB fs t = false := badG_iff
theorem set_iff : setB fs n = true ↔ ∀ i, i < fs.length → (0 ≤ fs.getD i 0 ∧ fs.getD i 0 < n) ∧ (0 < i → fs.getD ((i : Int) - 1).toNat 0 < fs.getD i 0) := by
 unfold setB; rw [List.all_eq_true]
 exact ⟨fun h i hi => of_decide_eq_true (h i (List.mem_range.2 hi)), fun h i hi => decide_eq_true (h i (List.mem_range.1 hi))⟩
theorem set_no (hk : k < fs.length) (h : ¬ ((0 ≤ fs.getD k 0 ∧ fs.getD k 0 < n) ∧ (0 < k → fs.getD ((k : Int) - 1).toNat 0 < fs.getD k 0))) : setB fs n = false := by
 cases hs : setB fs n with
 | false => rfl
 | true => exact absurd (set_iff.1 hs k hk) h
theorem set_mem (h : setB fs n = true) {m : Int} (hm : m ∈ fs) : 0 ≤ m ∧ m < n := by
 obtain ⟨i, hi, rfl⟩ := List.getElem_of_mem hm
 have := (set_iff.1 h i hi).1
 simpa [List.getD, hi] using this
theorem line_iff : lineB ar fs x = true ↔ x.1 ∈ fs ∧ (x.2.1.length : Int) = ar.getD x.1.toNat 0 ∧ (∀ i, i < x.2.1.length → termOk ar (x.2.1.getD i []) = true ∧ freeB fs (x.2.1.getD i []) = true) ∧ ruleOk ar (leftL x) x.2.2 = true ∧ LinT (leftL x) := by
 unfold lineB
 simp only [Bool.and_eq_true, decide_eq_true_eq]
 constructor
 ·rintro ⟨⟨h1, h2⟩, h3, h4, h5⟩
  refine ⟨h1, h2, fun i hi => ?_, h4, h5⟩
  have := (all_getD_iff []).1 h3 i hi
  simpa using this
 ·rintro ⟨h1, h2, h3, h4, h5⟩
  refine ⟨⟨h1, h2⟩, (all_getD_iff []).2 fun i hi => ?_, h4, h5⟩
  have := h3 i hi
  simpa using this
theorem line_no (h : ¬ (x.1 ∈ fs ∧ (x.2.1.length : Int) = ar.getD x.1.toNat 0 ∧ (∀ i, i < x.2.1.length → termOk ar (x.2.1.getD i []) = true ∧ freeB fs (x.2.1.getD i []) = true) ∧ ruleOk ar (leftL x) x.2.2 = true ∧ LinT (leftL x))) : lineB ar fs x = false := by
 cases hs : lineB ar fs x with
 | false => rfl
 | true => exact absurd (line_iff.1 hs) h
theorem ground_iff : groundB ar t = true ↔ termOk ar t = true ∧ ∀ n ∈ t, 0 ≤ n := by
 unfold groundB
 rw [Bool.and_eq_true, List.all_eq_true]
 exact ⟨fun h => ⟨h.1, fun n hn => of_decide_eq_true (h.2 n hn)⟩, fun h => ⟨h.1, fun n hn => decide_eq_true (h.2 n hn)⟩⟩
theorem ground_of (ho : termOk ar t = true) (h : ∀ i : Nat, i < 24 → (-1 - (i : Int)) ∉ t) : groundB ar t = true := by
 refine ground_iff.2 ⟨ho, fun n hn => ?_⟩
 rcases Int.lt_or_le n 0 with h0 | h0
 ·exfalso
  have := (termOk_iff.1 ho).ge n hn
  exact h (-1 - n).toNat (by omega) (by rw [show -1 - (((-1 - n).toNat : Nat) : Int) = n from by omega]; exact hn)
 ·exact h0
theorem ground_not {i : Nat} (h : (-1 - (i : Int)) ∈ t) : groundB ar t = false := by
 cases hs : groundB ar t with
 | false => rfl
 | true => have := (ground_iff.1 hs).2 _ h; omega
theorem ground_no (h : termOk ar t = false) : groundB ar t = false := by unfold groundB; rw [h]; rfl
theorem ground_dec {os : List Int} (ho : termOk ar t = true) (h1 : os = [] → ∀ i, i < t.length → 0 ≤ t.getD i 0) (h2 : os ≠ [] → ∃ i, i < t.length ∧ t.getD i 0 < 0) : groundB ar t = decide ((os.length : Int) = 0) := by
 by_cases h : os = []
 ·rw [decide_eq_true (show (os.length : Int) = 0 by rw [h]; rfl)]
  refine ground_iff.2 ⟨ho, fun n hn => ?_⟩
  obtain ⟨i, hi, rfl⟩ := List.getElem_of_mem hn
  have := h1 h i hi
  simpa [List.getD, hi] using this
 ·have hl : 0 < os.length := List.length_pos_iff.2 h
  rw [decide_eq_false (show ¬ (os.length : Int) = 0 by omega)]
  obtain ⟨i, hi, hneg⟩ := h2 h
  cases hs : groundB ar t with
  | false => rfl
  | true =>
   have := (ground_iff.1 hs).2 (t.getD i 0) (by rw [List.getD_eq_getElem?_getD, List.getElem?_eq_getElem hi]; exact List.getElem_mem hi)
   omega
theorem flatN_le {xs : List (List Int)} {N : Nat} (h : ∀ i, i < xs.length → (xs.getD i []).length ≤ N) : xs.flatten.length ≤ xs.length * N := by
 have := flatten_bound h xs.length (Nat.le_refl _)
 rwa [List.take_of_length_le (Nat.le_refl _)] at this
theorem leftL_lenN {N : Nat} (h : ∀ i, i < x.2.1.length → (x.2.1.getD i []).length ≤ N) : (leftL x).length ≤ 1 + x.2.1.length * N := by
 have := flatN_le h
 show (x.1 :: x.2.1.flatten).length ≤ _
 rw [List.length_cons]; omega
theorem front_iff : frontB ar fs ls = true ↔ sigOk ar = true ∧ setB fs ar.length = true ∧ ls.length ≤ 8 ∧ ls.all (lineB ar fs) = true := by
 unfold frontB
 simp only [Bool.and_eq_true, decide_eq_true_eq]
 exact ⟨fun h => ⟨h.1.1, h.1.2, h.2.1, h.2.2⟩, fun h => ⟨⟨h.1, h.2.1⟩, h.2.2.1, h.2.2.2⟩⟩
theorem front_no (h : ¬ (sigOk ar = true ∧ setB fs ar.length = true ∧ ls.length ≤ 8 ∧ ls.all (lineB ar fs) = true)) : frontB ar fs ls = false := by
 cases hs : frontB ar fs ls with
 | false => rfl
 | true => exact absurd (front_iff.1 hs) h
theorem front_lines (h1 : sigOk ar = true) (h2 : setB fs ar.length = true) (h3 : ls.length ≤ 8) : frontB ar fs ls = ls.all (lineB ar fs) := by
 cases hs : ls.all (lineB ar fs) with
 | false => exact front_no fun h => by rw [hs] at h; cases h.2.2.2
 | true => exact front_iff.2 ⟨h1, h2, h3, hs⟩
end
def rulesOf (ls : List LnT) : Rules := ls.map fun x => (leftL x, x.2.2)
def callAt (ar fs t : List Int) (p : Nat) : Bool := decide (t.getD p 0 ∈ fs) && freeB fs ((sub ar t p).drop 1)
def firstC (ar fs t : List Int) : Nat := (List.range t.length).findIdx (callAt ar fs t)
def firstL (ar : List Int) (ls : List LnT) (t : List Int) : Int := badG (fun x => !(matchB ar (leftL x) t).isSome) ls
def callGo (ar fs : List Int) (ls : List LnT) : Nat → List Int → List Int × Int
 | n, t =>
  if firstC ar fs t = t.length then (t, 0)
  else if firstL ar ls (sub ar t (firstC ar fs t)) < 0 then (t, 1)
  else match n with
   | 0 => (t, 2)
   | n + 1 => match stepL ar (rulesOf ls) t (firstC ar fs t) (firstL ar ls (sub ar t (firstC ar fs t))).toNat with
    | none => (t, 3)
    | some u => callGo ar fs ls n u
noncomputable def callL (ar fs : List Int) (ls : List LnT) (t : List Int) (n : Int) : List Int × Int :=
 if frontB ar fs ls = true ∧ groundB ar t = true ∧ 0 ≤ n ∧ n ≤ 60 then callGo ar fs ls n.toNat t else ([], -1)
section
variable {ar fs t u : List Int} {ls : List LnT} {n k : Nat} {m : Int}
theorem fill_le60L {s : RowL} {t : List Int} : ((fillL s t).getD []).length ≤ 60 := by
 cases h : fillL s t with
 | none => simp
 | some v => exact (fillL_len h).1
theorem callAt_eq {p : Nat} : (decide (t.getD p 0 ∈ fs) && freeB fs ((t.drop (p + 1)).take (endN ar t p - (p + 1)))) = callAt ar fs t p := by
 unfold callAt sub
 rw [List.drop_take, List.drop_drop, Nat.sub_sub]
theorem firstC_at (hk : k < t.length) (h : callAt ar fs t k = true) (hall : ∀ i, i < k → callAt ar fs t i = false) : firstC ar fs t = k := by
 unfold firstC
 have hl : k < (List.range t.length).length := by rw [List.length_range]; exact hk
 refine (List.findIdx_eq hl).2 ⟨by simpa using h, fun j hj => ?_⟩
 have := hall j hj
 simpa using this
theorem firstC_none (hall : ∀ i, i < t.length → callAt ar fs t i = false) : firstC ar fs t = t.length := by
 unfold firstC
 have : (List.range t.length).findIdx (callAt ar fs t) = (List.range t.length).length := by
  rw [List.findIdx_eq_length]
  intro x hx
  simpa using hall x (List.mem_range.1 hx)
 rw [this, List.length_range]
theorem firstC_le : firstC ar fs t ≤ t.length := by
 unfold firstC
 have := List.findIdx_le_length (xs := List.range t.length) (p := callAt ar fs t)
 rwa [List.length_range] at this
theorem front_sys (h : frontB ar fs ls = true) : sysOk ar (rulesOf ls) = true := by
 obtain ⟨h1, h2, h3, h4⟩ := front_iff.1 h
 refine sysOk_iff.2 ⟨h1, by unfold rulesOf; rw [List.length_map]; omega, fun i hi => ?_⟩
 unfold rulesOf at hi ⊢
 rw [List.length_map] at hi
 have hl := (line_iff.1 ((all_getD_iff ((0, [], []) : LnT)).1 h4 i hi)).2.2.2.1
 have e : (ls.map fun x => (leftL x, x.2.2)).getD i ([], []) = (leftL (ls.getD i (0, [], [])), (ls.getD i (0, [], [])).2.2) := by
  simp [List.getD, hi]
 rw [e]; exact hl
theorem rules_get (hk : k < ls.length) : (rulesOf ls).getD k ([], []) = (leftL (ls.getD k (0, [], [])), (ls.getD k (0, [], [])).2.2) := by
 unfold rulesOf; simp [List.getD, hk]
theorem rules_len : (rulesOf ls).length = ls.length := by unfold rulesOf; rw [List.length_map]
theorem firstL_lt (h : ¬ firstL ar ls t < 0) : (firstL ar ls t).toNat < ls.length ∧ (matchB ar (leftL (ls.getD (firstL ar ls t).toNat (0, [], []))) t).isSome = true := by
 unfold firstL at h ⊢
 have h1 := badG_lt ((0, [], []) : LnT) (show 0 ≤ badG (fun x => !(matchB ar (leftL x) t).isSome) ls by omega)
 exact ⟨h1.1, by simpa using h1.2⟩
theorem step_nofillL {p : Nat} (hk : k < ls.length) (hm : (matchB ar (leftL (ls.getD k (0, [], []))) (sub ar t p)).isSome = true) (hf : (fillL (matchP ar (leftL (ls.getD k (0, [], []))) (sub ar t p)) (ls.getD k (0, [], [])).2.2).isSome = false) : stepL ar (rulesOf ls) t p k = none :=
 stepL_nofill (by rw [rules_get hk]; exact hm) (by rw [rules_get hk]; exact hf)
theorem step_putL {p : Nat} (hk : k < ls.length) (hm : (matchB ar (leftL (ls.getD k (0, [], []))) (sub ar t p)).isSome = true) (hf : (fillL (matchP ar (leftL (ls.getD k (0, [], []))) (sub ar t p)) (ls.getD k (0, [], [])).2.2).isSome = true) : stepL ar (rulesOf ls) t p k = putL ar t p ((fillL (matchP ar (leftL (ls.getD k (0, [], []))) (sub ar t p)) (ls.getD k (0, [], [])).2.2).getD []) := by
 have e := stepL_put (rs := rulesOf ls) (r := k) (by rw [rules_get hk]; exact hm) (by rw [rules_get hk]; exact hf)
 rw [e, rules_get hk]
theorem step_okL (hfr : frontB ar fs ls = true) (ht : termOk ar t = true) {p : Nat} (hp : p < t.length) (hk : k < ls.length) (h : stepL ar (rulesOf ls) t p k = some u) : termOk ar u = true :=
 stepL_ok (front_sys hfr) ht hp (by rw [rules_len]; exact hk) h
theorem call_done (h : firstC ar fs t = t.length) : callGo ar fs ls n t = (t, 0) := by cases n <;> rw [callGo, if_pos h]
theorem call_gap (h : firstC ar fs t ≠ t.length) (h2 : firstL ar ls (sub ar t (firstC ar fs t)) < 0) : callGo ar fs ls n t = (t, 1) := by cases n <;> rw [callGo, if_neg h, if_pos h2]
theorem call_fuel (h : firstC ar fs t ≠ t.length) (h2 : ¬ firstL ar ls (sub ar t (firstC ar fs t)) < 0) (h3 : n = 0) : callGo ar fs ls n t = (t, 2) := by subst h3; rw [callGo, if_neg h, if_neg h2]
theorem call_long (h : firstC ar fs t ≠ t.length) (h2 : ¬ firstL ar ls (sub ar t (firstC ar fs t)) < 0) (h3 : n ≠ 0) (h4 : stepL ar (rulesOf ls) t (firstC ar fs t) (firstL ar ls (sub ar t (firstC ar fs t))).toNat = none) : callGo ar fs ls n t = (t, 3) := by
 obtain ⟨q, rfl⟩ : ∃ q, n = q + 1 := ⟨n - 1, by omega⟩
 rw [callGo, if_neg h, if_neg h2, h4]
theorem call_next (h : firstC ar fs t ≠ t.length) (h2 : ¬ firstL ar ls (sub ar t (firstC ar fs t)) < 0) (h3 : n ≠ 0) (h4 : stepL ar (rulesOf ls) t (firstC ar fs t) (firstL ar ls (sub ar t (firstC ar fs t))).toNat = some u) : callGo ar fs ls n t = callGo ar fs ls (n - 1) u := by
 obtain ⟨q, rfl⟩ : ∃ q, n = q + 1 := ⟨n - 1, by omega⟩
 rw [callGo, if_neg h, if_neg h2, h4]; rfl
theorem callL_yes (h1 : frontB ar fs ls = true) (h2 : groundB ar t = true) (h3 : 0 ≤ m ∧ m ≤ 60) : callL ar fs ls t m = callGo ar fs ls m.toNat t := by unfold callL; rw [if_pos ⟨h1, h2, h3⟩]
theorem callL_no (h : ¬ (frontB ar fs ls = true ∧ groundB ar t = true ∧ 0 ≤ m ∧ m ≤ 60)) : callL ar fs ls t m = ([], -1) := by unfold callL; rw [if_neg h]
theorem callGo_len (ht : t.length ≤ 60) : ∀ (n : Nat) (t : List Int), t.length ≤ 60 → (callGo ar fs ls n t).1.length ≤ 60 := by
 intro n
 induction n with
 | zero => intro t h; rw [callGo]; split; exact h; split; exact h; exact h
 | succ n ih =>
  intro t h
  rw [callGo]
  split
  ·exact h
  ·split
   ·exact h
   ·split
    ·exact h
    ·rename_i u hu
     refine ih u ?_
     unfold stepL at hu
     split at hu
     ·cases hu
     ·split at hu
      ·cases hu
      ·unfold putL at hu
       split at hu
       ·cases hu
       ·cases hu; omega
end
section
variable {ar f g : List Int} {rs : Rules} {xs ys : List StepV}
end
section
variable {ar f cur u ns : List Int} {rs : Rules} {ss : List StepV} {k : Nat}
theorem opt_none {o : Option (List Int)} (h : o.isSome = false) : o = none := by cases o <;> simp_all
theorem opt_get {o : Option (List Int)} (h : o.isSome = true) : o = some (o.getD []) := by cases o <;> simp_all
end
end Go.Proofs.YtcdjpapjjoldeaaGreat.M
namespace Go.Proofs.YtcdjpapjjoldeaaGreat.X
open Go
def LineO (E1 e : TypeId) (es : List Value) (x : LineT) (K : List HP) : Prop := ∃ a b, es = [.int .i64 x.1, a, b] ∧ K = [rowsD e E1 a x.2.1, intsH e b x.2.2]
abbrev linesD (e E1 E : TypeId) (v : Value) (xs : List LineT) : HP := deepH 3 (LineO E1 e) E v xs
section
variable {e E1 E : TypeId} {F G : FH} {v : Value} {cs : List Value} {xs : List LineT} {L : List HP}
theorem LineO.fz (es : List Value) (x : LineT) (K : List HP) (h : LineO E1 e es x K) (hz : ∃ l, star K l ∧ ∀ p ∈ l, F.cells p.1 = some p.2) : LineF F es x := by
 obtain ⟨a, b, rfl, rfl⟩ := h
 exact ⟨a, b, rfl, rowsD.fz (e := e) (E := E1) (frozen_star hz _ (by simp)), intsH.fz (E := e) (frozen_star hz _ (by simp))⟩
theorem linesD.fz (h : Fz (linesD e E1 E v xs) F) : LinesF F v xs := deepH.fz LineO.fz h
theorem DeepL.linesNil (h : DeepL 3 (LineO E1 e) cs xs L) (hz : star L []) : LinesC F cs xs := h.co LineO.fz ⟨[], hz, fun p hp => absurd hp (by simp)⟩
theorem nilRowsDL : rowsD e E1 (.slice none 0 0) [] [] := ⟨[], [], DeepL.nil, [], [], slH_nil E1 1 none, rfl, rfl⟩
theorem deepNilsL (E1 e : TypeId) (n : Nat) : ∃ Ls, DeepL 3 (LineO E1 e) ((List.range (n * 3)).map fun i => [Value.int .i64 0, Value.slice none 0 0, Value.slice none 0 0].toArray[i % [Value.int .i64 0, Value.slice none 0 0, Value.slice none 0 0].toArray.size]!) (List.replicate n (0, [], [])) Ls ∧ star Ls [] :=
 deepNilsR (e := e) (s := 3) (R := LineO E1 e) (d := ((0, [], []) : LineT)) (z := [Value.int .i64 0, Value.slice none 0 0, Value.slice none 0 0]) (K := [rowsD e E1 (.slice none 0 0) [], intsH e (.slice none 0 0) []]) (by decide) rfl ⟨_, _, rfl, rfl⟩ ⟨[], [], nilRowsDL, ⟨[], [], nilLeaf, rfl, rfl⟩, rfl⟩ n
theorem LinesC.set {n : Int} {a b : Value} {y : List (List Int)} {z : List Int} (h : LinesC F cs xs) {j : Nat} (hj : j < xs.length) (ha : RowsF F a y) (hb : IntsF F b z) : LinesC F (cs.take (j * 3) ++ [.int .i64 n, a, b] ++ cs.drop (j * 3 + 3)) (xs.set j (n, y, z)) := CO.setN h hj rfl ⟨a, b, rfl, ha, hb⟩
theorem set_first3 {cs : List Value} {k : Nat} {a b c a' : Value} (h0 : cs[k * 3 + 0]? = some a) (h1 : cs[k * 3 + 1]? = some b) (h2 : cs[k * 3 + 2]? = some c) : cs.set (k * 3) a' = cs.take (k * 3) ++ [a', b, c] ++ cs.drop (k * 3 + 3) := by
 have h := set_three (a' := a') (b' := b) h0 h1 h2
 rw [← h]
 have h3 : (cs.set (k * 3) a')[k * 3 + 1]? = some b := by rw [List.getElem?_set_ne (by omega)]; exact h1
 obtain ⟨hl, he⟩ := List.getElem?_eq_some_iff.1 h3
 rw [← he, List.set_getElem_self]
end
end Go.Proofs.YtcdjpapjjoldeaaGreat.X
namespace Go.Proofs.YtcdjpapjjoldeaaGreat.M
def lenLn (x : LnT) : Nat := szG lenR x.2.1 + x.2.2.length
def flatLn (x : LnT) : List Int := (x.1 :: x.2.1.flatMap flatRow) ++ x.2.2
theorem flatLn_eq (x : LnT) : (flatLn x).length = 1 + (x.2.1.flatMap flatRow).length + x.2.2.length := by
 unfold flatLn; rw [List.length_append, List.length_cons]; omega
theorem flatLn_len (l : List LnT) : (l.flatMap flatLn).length ≤ szG lenLn l := by
 unfold szG gTo
 rw [List.take_length, List.length_flatMap]
 induction l with
 | nil => simp
 | cons x l ih =>
  have h := flatRow_len x.2.1
  have h2 := flatLn_eq x
  have h3 : szG lenR x.2.1 = x.2.1.length + gTo lenR x.2.1 x.2.1.length := rfl
  simp only [List.map_cons, List.sum_cons, List.length_cons, lenLn] at ih ⊢
  omega
theorem szL_le {l : List LnT} : l.length ≤ szG lenLn l ∧ ∀ i, i < l.length → (l.getD i (0, [], [])).2.1.length ≤ szG lenLn l ∧ (∀ q, q < (l.getD i (0, [], [])).2.1.length → ((l.getD i (0, [], [])).2.1.getD q []).length ≤ szG lenLn l) ∧ (l.getD i (0, [], [])).2.2.length ≤ szG lenLn l := by
 obtain ⟨h1, h2⟩ := szG_le (f := lenLn) (l := l) ((0, [], []) : LnT)
 refine ⟨h1, fun i hi => ?_⟩
 have h3 := h2 i hi
 obtain ⟨h4, h5⟩ := szG_le (f := lenR) (l := (l.getD i (0, [], [])).2.1) ([] : List Int)
 have h6 : lenLn (l.getD i (0, [], [])) = szG lenR (l.getD i (0, [], [])).2.1 + (l.getD i (0, [], [])).2.2.length := rfl
 refine ⟨by omega, fun q hq => ?_, by omega⟩
 have h7 := h5 q hq
 have h8 : lenR ((l.getD i (0, [], [])).2.1.getD q []) = ((l.getD i (0, [], [])).2.1.getD q []).length := rfl
 omega
theorem flatLn_iota {z : Int} {p : List (List Int)} {q : List Int} {n m N : Nat} (h1 : p.flatMap flatRow = iota (z + 1) n) (h2 : q = iota (z + 1 + n) m) (hN : N = 1 + n + m) : flatLn (z, p, q) = iota z N := by
 have e1 : iota z 1 = [z] := by simp [iota]
 rw [hN, iota_add, iota_add, e1]
 show (z :: p.flatMap flatRow) ++ q = ([z] ++ _) ++ _
 rw [h1, h2]
 show _ = (z :: iota (z + ((1 : Nat) : Int)) n) ++ iota (z + ((1 + n : Nat) : Int)) m
 rw [show z + ((1 + n : Nat) : Int) = z + 1 + n from by omega]
 rfl
theorem callL_len {ar fs t : List Int} {ls : List LnT} {n : Int} : (callL ar fs ls t n).1.length ≤ 60 := by
 unfold callL
 split
 ·rename_i h
  have := termOk_len (ground_iff.1 h.2.1).1
  exact callGo_len this.2 _ _ this.2
 ·simp
end Go.Proofs.YtcdjpapjjoldeaaGreat.M
namespace Go.Proofs.YtcdjpapjjoldeaaGreat.X
open Go Go.WideShapes Go.ChangeShapes Go.RowKit
def fhOf (w : World) : FH := ⟨fun b => w.heap[b]?, w.os, w.output, w.tape⟩
theorem holds_fhOf (w : World) : Holds (fhOf w) [] w := ⟨rfl, rfl, rfl, fun _ _ h => h, [], rfl, List.nodup_nil, fun p hp => absurd hp (by simp)⟩
theorem cell_fhOf (w : World) (a : Addr) : (fhOf w).cell? a = w.cell? a := by
 unfold FH.cell? World.cell? fhOf
 rfl
theorem below_of_holds {w w' : World} {F' : FH} {L' : List HP} (le : fhOf w ≤ F') (h : Holds F' L' w') : Below w.heap.size w w' := by
 have key : ∀ k o, w.heap[k]? = some o → w'.heap[k]? = some o := fun k o hk => h.cells k o (le.cells k o hk)
 refine ⟨h.os.trans le.os, h.tape.trans le.tape, h.output.trans le.output, ?_, fun k hk => ?_⟩
 ·rcases Nat.eq_zero_or_pos w.heap.size with h0 | h0
  ·omega
  ·have h1 : w.heap[w.heap.size - 1]? = some (w.heap[w.heap.size - 1]'(by omega)) := Array.getElem?_eq_getElem (by omega)
   have h2 := (Array.getElem?_eq_some_iff.1 (key _ _ h1)).1
   omega
 ·have h1 : w.heap[k]? = some (w.heap[k]'hk) := Array.getElem?_eq_getElem hk
  rw [h1]
  exact key _ _ h1
def Opens (P : Program) (t : TypeId) {α : Type} (R : FH → List Value → α → Prop) (B : α → Prop) : Prop :=
 ∀ (H : Type) (enc : TypeId × Value → H) (w : World) (base : Nat) (spare : Nat → Bool) (held : Bool) (fuel : Nat) (cs : List Value) (x : DataW H × List MemPlace),
  DataW.trod enc P w base spare held fuel t cs = some x → ∃ a, R (fhOf w) cs a ∧ B a
section
variable {P : Program} {t e : TypeId}
theorem opens_int {k : IntKind} (ht : P.underlying t = some (.int k)) : Opens P t (fun _ cs (n : Int) => cs = [.int k n]) (fun n => (Lit.int k n).wf = true) := by
 intro H enc w base spare held fuel cs x h
 obtain ⟨n, rfl, _, hw⟩ := DataW.trod_int ht h
 exact ⟨n, rfl, hw⟩
theorem opens_ints (ht : P.underlying t = some (.slice e)) (he : P.underlying e = some (.int .i64)) (hc : P.cellsOf e = 1) : Opens P t RowF (fun xs => xs.length ≤ 9223372036854775807) := by
 intro H enc w base spare held fuel cs x h
 rcases open_ints ht he hc h with ⟨rfl, _⟩ | ⟨a, len, cap, zs, rfl, hb, hl, hm, hz, _, hcell, _⟩
 ·exact ⟨[], ⟨_, rfl, by simp, none, 0, rfl, by simp, fun _ => rfl, fun a h => by cases h⟩, by simp⟩
 ·have hlz : len ≤ zs.length := by rw [hz]; split <;> omega
  have e1 : (zs.take len).length = len := by rw [List.length_take]; omega
  refine ⟨zs.take len, ⟨_, rfl, by simp, some a, cap, by rw [e1], by omega, (fun h => by cases h), ?_⟩, by unfold maxLen at hm; omega⟩
  intro a' ha i u hu
  obtain rfl := Option.some.inj ha
  have hi : i < len := by have := (List.getElem?_eq_some_iff.1 hu).1; simp at this; omega
  rw [cell_fhOf, hcell i (by omega)]
  rw [List.getElem?_map, List.getElem?_take, if_pos hi, List.getElem?_eq_getElem (by omega)] at hu
  simp only [Option.map_some, Option.some.injEq] at hu
  rw [← hu]
  simp [List.getD, List.getElem?_eq_getElem (show i < zs.length by omega)]
theorem opens_slice {α : Type} {R : FH → List Value → α → Prop} {B : α → Prop} {s : Nat} (d : α) (ht : P.underlying t = some (.slice e)) (hc : P.cellsOf e = s) (ho : Opens P e R B) :
  Opens P t (fun F cs (xs : List α) => ∃ v, cs = [v] ∧ SlOf s R d F v xs) (fun xs => xs.length ≤ 9223372036854775807 ∧ ∀ i, i < xs.length → B (xs.getD i d)) := by
 intro H enc w base spare held fuel cs x h
 rcases Go.Deep.open_slice ht h with ⟨rfl, _⟩ | ⟨a, len, cap, m, n, D, Pl, rfl, hb, hl, hm, hmm, _, hx⟩
 ·exact ⟨[], ⟨_, rfl, [], ⟨by simp, none, 0, rfl, by simp, fun _ => rfl, fun a h => by cases h⟩, fun i hi => by simp at hi⟩, by simp, fun i hi => by simp at hi⟩
 ·have hlm : len ≤ m := by rw [hmm]; split <;> omega
  rw [hc] at hx
  have each : ∀ i, i < len → ∃ q : α, ∃ cs' : List Value, cs'.length = s ∧ (∀ r, r < s → w.cell? (a.add (i * s + r)) = cs'[r]?) ∧ R (fhOf w) cs' q ∧ B q := by
   intro i hi
   obtain ⟨cs', h1, h2⟩ := hx i (by omega)
   obtain ⟨_, hlen, hcell⟩ := World.cells?_some h1
   obtain ⟨q, hq, hbq⟩ := ho H enc w base spare held n cs' _ h2
   exact ⟨q, cs', hlen, fun r hr => by rw [← hcell r hr, add_add], hq, hbq⟩
  have ⟨q, hq⟩ : ∃ q : Nat → α, ∀ i, i < len → ∃ cs' : List Value, cs'.length = s ∧ (∀ r, r < s → w.cell? (a.add (i * s + r)) = cs'[r]?) ∧ R (fhOf w) cs' (q i) ∧ B (q i) := by
   haveI : Inhabited α := ⟨d⟩
   exact Go.Deep.choose_lt each
  let V : Nat → Value := fun j => (w.cell? (a.add j)).getD undef
  have hV : ∀ j, j < len * s → w.cell? (a.add j) = some (V j) := by
   intro j hj
   have hs : 0 < s := by rcases Nat.eq_zero_or_pos s with h0 | h0; subst h0; simp at hj; exact h0
   have hdiv : j / s < len := (Nat.div_lt_iff_lt_mul hs).2 hj
   obtain ⟨cs', hl', hcell, _⟩ := hq (j / s) hdiv
   have hr := hcell (j % s) (Nat.mod_lt _ hs)
   have e1 : j / s * s + j % s = j := by rw [Nat.mul_comm]; exact Nat.div_add_mod j s
   rw [e1] at hr
   have hlt : j % s < cs'.length := by rw [hl']; exact Nat.mod_lt _ hs
   rw [List.getElem?_eq_getElem hlt] at hr
   show w.cell? (a.add j) = some ((w.cell? (a.add j)).getD undef)
   rw [hr]; rfl
  have hxl : ((List.range len).map q).length = len := by simp
  have hgd : ∀ i, i < len → ((List.range len).map q).getD i d = q i := fun i hi => by simp [List.getD, hi]
  refine ⟨(List.range len).map q, ⟨_, rfl, (List.range (len * s)).map V, ⟨by simp, some a, cap, by rw [hxl], by omega, (fun h => by cases h), ?_⟩, ?_⟩, by rw [hxl]; unfold maxLen at hm; omega, fun i hi => ?_⟩
  ·intro a' ha i u hu
   obtain rfl := Option.some.inj ha
   have hi : i < len * s := by have := (List.getElem?_eq_some_iff.1 hu).1; simpa using this
   rw [cell_fhOf, hV i hi]
   rw [List.getElem?_map, List.getElem?_range hi] at hu
   exact hu
  ·intro i hi
   rw [hxl] at hi
   obtain ⟨cs', hl', hcell, hR, _⟩ := hq i hi
   refine ⟨cs', hl', ?_, by rw [hgd i hi]; exact hR⟩
   have hle : i * s + s ≤ len * s := by
    have : (i + 1) * s ≤ len * s := Nat.mul_le_mul_right s hi
    rwa [Nat.succ_mul] at this
   apply List.ext_getElem?
   intro r
   rcases Nat.lt_or_ge r s with hr | hr
   ·rw [List.getElem?_take, if_pos hr, List.getElem?_drop, List.getElem?_map, List.getElem?_range (by omega), ← hcell r hr, hV _ (by omega)]; rfl
   ·rw [List.getElem?_eq_none (by simp; omega), List.getElem?_eq_none (by omega)]
  ·rw [hxl] at hi
   obtain ⟨_, _, _, _, hB⟩ := hq i hi
   rw [hgd i hi]
   exact hB
theorem opens_struct1 {α : Type} {R : FH → List Value → α → Prop} {B : α → Prop} {f0 : Field} (ht : P.underlying t = some (.struct #[f0])) (ho : f0.offset = 0) (hc : P.cellsOf f0.type = P.cellsOf t) (h0 : Opens P f0.type R B) : Opens P t R B := by
 intro H enc w base spare held fuel cs x h
 obtain ⟨y0, n, _, hl, h⟩ := trod_struct1 ht h
 rw [ho, hc, List.drop_zero, ← hl, List.take_length] at h
 exact h0 H enc w base spare held n cs _ h
theorem opens_struct3 {α β γ : Type} {R0 : FH → List Value → α → Prop} {B0 : α → Prop} {R1 : FH → List Value → β → Prop} {B1 : β → Prop} {R2 : FH → List Value → γ → Prop} {B2 : γ → Prop} {f0 f1 f2 : Field} (ht : P.underlying t = some (.struct #[f0, f1, f2]))
  (o0 : f0.offset = 0) (o1 : f1.offset = P.cellsOf f0.type) (o2 : f2.offset = P.cellsOf f0.type + P.cellsOf f1.type) (hc : P.cellsOf f0.type + P.cellsOf f1.type + P.cellsOf f2.type = P.cellsOf t)
  (h0 : Opens P f0.type R0 B0) (h1 : Opens P f1.type R1 B1) (h2 : Opens P f2.type R2 B2) : Opens P t (fun F cs (x : α × β × γ) => ∃ a b c, cs = a ++ (b ++ c) ∧ R0 F a x.1 ∧ R1 F b x.2.1 ∧ R2 F c x.2.2) (fun x => B0 x.1 ∧ B1 x.2.1 ∧ B2 x.2.2) := by
 intro H enc w base spare held fuel cs x h
 obtain ⟨xs, n, _, _, hl, hlen, hf⟩ := DataW.trod_struct ht h
 match xs, hlen with
 | [y0, y1, y2], _ =>
  have g0 := hf 0 f0 rfl
  have g1 := hf 1 f1 rfl
  have g2 := hf 2 f2 rfl
  rw [o0, List.drop_zero] at g0
  rw [o1] at g1
  rw [o2] at g2
  obtain ⟨a, ha, ba⟩ := h0 H enc w base spare held n _ _ g0
  obtain ⟨b, hb, bb⟩ := h1 H enc w base spare held n _ _ g1
  obtain ⟨c, hc', bc⟩ := h2 H enc w base spare held n _ _ g2
  refine ⟨(a, b, c), ⟨_, _, _, ?_, ha, hb, hc'⟩, ba, bb, bc⟩
  rw [List.take_of_length_le (l := cs.drop (P.cellsOf f0.type + P.cellsOf f1.type)) (by rw [List.length_drop]; omega), ← List.drop_drop, List.take_append_drop, List.take_append_drop]
theorem Opens.mono {α : Type} {R R' : FH → List Value → α → Prop} {B B' : α → Prop} (h : Opens P t R B) (hR : ∀ F cs a, R F cs a → R' F cs a) (hB : ∀ a, B a → B' a) : Opens P t R' B' := fun H enc w base spare held fuel cs x hx =>
 let ⟨a, h1, h2⟩ := h H enc w base spare held fuel cs x hx
 ⟨a, hR _ _ _ h1, hB _ h2⟩
abbrev M63 : Nat := 9223372036854775807
theorem opens_rows {q : TypeId} (ht : P.underlying t = some (.slice e)) (he : P.underlying e = some (.slice q)) (hq : P.underlying q = some (.int .i64)) (ce : P.cellsOf e = 1) (cq : P.cellsOf q = 1) :
  Opens P t (fun F cs (xs : List (List Int)) => ∃ v, cs = [v] ∧ RowsF F v xs) (fun xs => xs.length ≤ M63 ∧ ∀ i, i < xs.length → (xs.getD i []).length ≤ M63) :=
 opens_slice [] ht ce (opens_ints he hq cq)
theorem opens_s1 {t0 : TypeId} {n : Nat} {α : Type} {R : FH → List Value → α → Prop} {B : α → Prop} {f0 : Field} (ht : P.underlying t = some (.struct #[f0])) (e0 : f0.type = t0) (o0 : f0.offset = 0) (c0 : P.cellsOf t0 = n) (ct : P.cellsOf t = n) (h0 : Opens P t0 R B) : Opens P t R B := by
 subst e0
 exact opens_struct1 ht o0 (c0.trans ct.symm) h0
theorem opens_s3 {t0 t1 t2 : TypeId} {n0 n1 n2 n : Nat} {α β γ : Type} {R0 : FH → List Value → α → Prop} {B0 : α → Prop} {R1 : FH → List Value → β → Prop} {B1 : β → Prop} {R2 : FH → List Value → γ → Prop} {B2 : γ → Prop} {f0 f1 f2 : Field}
  (ht : P.underlying t = some (.struct #[f0, f1, f2])) (e0 : f0.type = t0) (e1 : f1.type = t1) (e2 : f2.type = t2) (o0 : f0.offset = 0) (o1 : f1.offset = n0) (o2 : f2.offset = n0 + n1) (c0 : P.cellsOf t0 = n0) (c1 : P.cellsOf t1 = n1) (c2 : P.cellsOf t2 = n2)
  (ct : P.cellsOf t = n) (hn : n0 + n1 + n2 = n) (h0 : Opens P t0 R0 B0) (h1 : Opens P t1 R1 B1) (h2 : Opens P t2 R2 B2) :
  Opens P t (fun F cs (x : α × β × γ) => ∃ a b c, cs = a ++ (b ++ c) ∧ R0 F a x.1 ∧ R1 F b x.2.1 ∧ R2 F c x.2.2) (fun x => B0 x.1 ∧ B1 x.2.1 ∧ B2 x.2.2) := by
 subst e0 e1 e2
 exact opens_struct3 ht o0 (o1.trans c0.symm) (o2.trans (by rw [c0, c1])) (by rw [c0, c1, c2, ct, hn]) h0 h1 h2
theorem Opens.slv {α : Type} {R : FH → List Value → α → Prop} {B : α → Prop} (h : Opens P t R B) (ht : P.underlying t = some (.slice e)) {H : Type} {enc : TypeId × Value → H} {w : World} {r : Reach} {base b0 : Nat} {spare : Nat → Bool} {held : Bool} {v : Value} {d : DataW H} {ps : List MemPlace}
  (hv : Value.okWide P w r b0 t v) (ht' : DataW.Trod enc P w base spare held t v d ps) : ∃ a, R (fhOf w) [v] a ∧ B a := by
 obtain ⟨a, l, c, rfl⟩ := okWide_slice ht hv
 obtain ⟨n, hn⟩ := ht'
 exact h H enc w base spare held n _ _ hn
theorem Opens.agg {α : Type} {R : FH → List Value → α → Prop} {B : α → Prop} (h : Opens P t R B) {fs : Array Field} (ht : P.underlying t = some (.struct fs)) {H : Type} {enc : TypeId × Value → H} {w : World} {r : Reach} {base b0 : Nat} {spare : Nat → Bool} {held : Bool} {v : Value} {d : DataW H} {ps : List MemPlace}
  (hv : Value.okWide P w r b0 t v) (ht' : DataW.Trod enc P w base spare held t v d ps) : ∃ cs : List Value, v = .agg cs.toArray ∧ ∃ a, R (fhOf w) cs a ∧ B a := by
 obtain ⟨cs, rfl, _⟩ := okWide_struct ht hv
 obtain ⟨n, hn⟩ := ht'
 exact ⟨cs.toList, by simp, h H enc w base spare held n _ _ hn⟩
theorem Opens.int {k : IntKind} (ht : P.underlying t = some (.int k)) {H : Type} {enc : TypeId × Value → H} {w : World} {r : Reach} {base b0 : Nat} {spare : Nat → Bool} {held : Bool} {v : Value} {d : DataW H} {ps : List MemPlace}
  (hv : Value.okWide P w r b0 t v) (ht' : DataW.Trod enc P w base spare held t v d ps) : ∃ n, v = .int k n ∧ (Lit.int k n).wf = true := by
 obtain ⟨n, rfl, _, _, hw⟩ := open_int ht hv ht'
 exact ⟨n, rfl, hw⟩
theorem trodAll_below {H : Type} {enc : TypeId × Value → H} (hl : laidOutB P = true) {W W' : World} (hb : Below W.heap.size W W') {sp : Nat → Bool} :
  ∀ {ts : List TypeId} {vs : List Value} {ds : List (DataW H)} {ps : List MemPlace}, (ts.all fun t => P.readableRec t && decide (t < P.types.size)) = true → DataW.TrodAll enc P W 0 (fun _ => true) true ts vs ds ps →
   (∀ x ∈ ps, x.block < W.heap.size) → (∀ p ∈ ps, sp p.block = true) → DataW.TrodAll enc P W' 0 sp true ts vs ds ps
 | [], [], [], _, _, h, _, _ => h
 | [], _ :: _, _, _, _, h, _, _ => by cases h
 | [], [], _ :: _, _, _, h, _, _ => by cases h
 | _ :: _, [], _, _, _, h, _, _ => by cases h
 | _ :: _, _ :: _, [], _, _, h, _, _ => by cases h
 | t :: ts, v :: vs, d :: ds, ps, hr, h, hlt, hsp => by
  obtain ⟨p, q, h1, h2, rfl⟩ := h
  simp only [List.all_cons, Bool.and_eq_true, decide_eq_true_eq] at hr
  exact ⟨p, q, Go.WideElems.Trod_stays hl hr.1.1 hr.1.2 h1 (fun x hx => hb.same (hlt x (List.mem_append_left _ hx))) (fun x hx => hsp x (List.mem_append_left _ hx)),
   trodAll_below hl hb hr.2 h2 (fun x hx => hlt x (List.mem_append_right _ hx)) (fun x hx => hsp x (List.mem_append_right _ hx)), rfl⟩
theorem post_of_law {H : Type} {enc : TypeId × Value → H} {f : Func} {s : ChangeSpec} {apart fresh handsOn : Bool} {W W' : World} {args : Array Value} {ds gs : List (DataW H)} {before : List MemPlace} {tb : TypeId}
  (hs : s.vars = []) (hfn : s.fn H (ds ++ gs) = { results := [.lit (.bool true)], args := ds }) (hl : laidOutB P = true) (hr : (f.params.toList.all fun t => P.readableRec t && decide (t < P.types.size)) = true)
  (hres : f.resultTypes = #[tb]) (htb : P.underlying tb = some .bool) (hW : DataW.Whole enc P f.params.toList s.vars apart W args.toList ds gs before) (hb : Below W.heap.size W W') : s.post enc P f apart fresh handsOn false W args (.bool true) W' := by
 have hlt := hW.lt
 have hW' := hW
 obtain ⟨p, q, hA, hV, rfl, _, _⟩ := hW
 rw [hs] at hV
 obtain ⟨rfl, rfl⟩ := trodVars_none hV
 refine ⟨ds, [], p ++ [], [], p, [], hW', ?_, ?_, ?_, ?_, fun h => by cases h⟩
 ·rw [hfn, hres]
  exact trodAll_cons_mk (shut_bool htb _) trodAll_mk0
 ·rw [hfn]
  exact trodAll_below hl hb hr hA (fun x hx => hlt x (by simpa using hx)) (fun x hx => by simpa using hlt x (by simpa using hx))
 ·rw [hfn, hs]; rfl
 ·exact World.keptBut_mono (fun x hx => ⟨hx, .inr (.inl (by simpa using hx))⟩) (hb.frame (· ∈ p ++ []))
theorem Does.atTop {f : FuncId} {args : List Value} {W : World} (h : Does P f args (fhOf W) [] fun v _ _ => v = .bool true) : Calls P f args.toArray W fun e W' => e = .returned (.bool true) ∧ Below W.heap.size W W' :=
 (h W (holds_fhOf W)).mono fun _ _ ⟨_, _, _, he, le, H, hv⟩ => ⟨by rw [he, hv], below_of_holds le H⟩
end
section
variable {P : Program} {t e : TypeId}
end
open Go Go.ChangeShapes Go.WideShapes Go.ChangeAt
section
variable {P : Program} {t e : TypeId}
theorem opens_lns {t0 t1 t2 : TypeId} {f0 f1 f2 : Field} (ht : P.underlying t = some (.slice e)) (he : P.underlying e = some (.struct #[f0, f1, f2])) (e0 : f0.type = t0) (e1 : f1.type = t1) (e2 : f2.type = t2) (o0 : f0.offset = 0) (o1 : f1.offset = 1) (o2 : f2.offset = 2) (ce : P.cellsOf e = 3)
  (c0 : P.cellsOf t0 = 1) (c1 : P.cellsOf t1 = 1) (c2 : P.cellsOf t2 = 1)
  (h0 : Opens P t0 (fun _ cs (n : Int) => cs = [.int .i64 n]) (fun n => (Lit.int .i64 n).wf = true))
  (h1 : Opens P t1 (fun F cs (xs : List (List Int)) => ∃ v, cs = [v] ∧ RowsF F v xs) (fun xs => xs.length ≤ M63 ∧ ∀ i, i < xs.length → (xs.getD i []).length ≤ M63))
  (h2 : Opens P t2 (fun F cs (xs : List Int) => ∃ v, cs = [v] ∧ IntsF F v xs) (fun xs => xs.length ≤ M63)) :
  Opens P t (fun F cs (xs : List LineT) => ∃ v, cs = [v] ∧ LinesF F v xs) (fun xs => xs.length ≤ M63 ∧ ∀ i, i < xs.length → (xs.getD i (0, [], [])).2.1.length ≤ M63 ∧ (∀ q, q < (xs.getD i (0, [], [])).2.1.length → ((xs.getD i (0, [], [])).2.1.getD q []).length ≤ M63) ∧ (xs.getD i (0, [], [])).2.2.length ≤ M63) := by
 subst e0 e1 e2
 exact opens_slice (R := LineF) (B := fun x : LineT => x.2.1.length ≤ M63 ∧ (∀ q, q < x.2.1.length → (x.2.1.getD q []).length ≤ M63) ∧ x.2.2.length ≤ M63) ((0, [], []) : LineT) ht ce
  ((opens_struct3 he o0 (by rw [o1, c0]) (by rw [o2, c0, c1]) (by rw [c0, c1, c2, ce]) h0 h1 h2).mono
   (by rintro F cs x ⟨_, _, _, rfl, rfl, ⟨b, rfl, hb⟩, ⟨c, rfl, hc⟩⟩; exact ⟨b, c, rfl, hb, hc⟩) (fun _ h => ⟨h.2.1.1, h.2.1.2, h.2.2⟩))
end
end Go.Proofs.YtcdjpapjjoldeaaGreat.X
