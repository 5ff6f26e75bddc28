/-
  What the walks rest on (part 2).
-/
import Derived.Orders
import Derived.Tactics
import Derived.Below
import Derived.Laws.CopyRow
import Derived.Laws.AppendOwn
import Derived.IntWalk
import Derived.Lib.AppendZeros
import Derived.OrdersIn
import Derived.TacticsIn
import Derived.RangeFuncSeq
import Derived.RangeFuncRecord
import Derived.RangeFuncLeaves
import Derived.Scope
import Derived.Laws.Append
import Derived.WalkKit
import Derived.ProofKit
import Derived.OpenShut
import Derived.JoinedCond
import Derived.Carry
import Derived.Deep.Slices
import Derived.Test.YtenomejgjcpbdaaGreatQKL0
set_option linter.unusedSimpArgs false
set_option linter.unusedVariables false
namespace Go.Proofs.YtenomejgjcpbdaaGreat.M
theorem lk_bound {s : RowL} {N : Nat} (h1 : 1 ≤ N) (h : ∀ i, (s.getD i []).length ≤ N) (n : Int) : (lk s n).length ≤ N := by
 by_cases e : lkN s n = []
 ·rw [lk_of_nil e]; simpa using h1
 ·rw [lk_of_ne e]; exact lkN_bound h
theorem put_three {t u : List Int} {p e : Nat} : ((t.drop 0).take (p - 0) ++ u) ++ (t.drop e).take (t.length - e) = t.take p ++ u ++ t.drop e := by
 have h : (t.drop e).take (t.length - e) = t.drop e := List.take_of_length_le (by rw [List.length_drop]; exact Nat.le_refl _)
 rw [h]
 simp
section
variable {ar : List Int} {rs : Rules} {t : List Int} {p r k : Nat}
def hasR (ar : List Int) (rs : Rules) (t : List Int) (p : Nat) : Bool := decide (0 ≤ ruleAtL ar rs t p)
def redTo (ar : List Int) (rs : Rules) (t : List Int) (k : Nat) : List Int := ((List.range k).filter (hasR ar rs t)).map Int.ofNat
def redL (ar : List Int) (rs : Rules) (t : List Int) : List Int := redTo ar rs t t.length
theorem redTo_yes (h : 0 ≤ ruleAtL ar rs t k) : redTo ar rs t (k + 1) = redTo ar rs t k ++ [(k : Int)] := by
 simp [redTo, List.range_succ, hasR, h]
theorem redTo_no (h : ¬ 0 ≤ ruleAtL ar rs t k) : redTo ar rs t (k + 1) = redTo ar rs t k := by
 simp [redTo, List.range_succ, hasR, h]
theorem redTo_len : (redTo ar rs t k).length ≤ k := by
 unfold redTo
 rw [List.length_map]
 have := List.length_filter_le (hasR ar rs t) (List.range k)
 rwa [List.length_range] at this
theorem redL_len : (redL ar rs t).length ≤ t.length := redTo_len
theorem redTo_spec : ∀ (k i : Nat), i < (redTo ar rs t k).length → ∃ p : Nat, (redTo ar rs t k).getD i 0 = p ∧ p < k ∧ hasR ar rs t p = true := by
 intro k i hi
 unfold redTo at hi ⊢
 rw [List.length_map] at hi
 refine ⟨((List.range k).filter (hasR ar rs t)).getD i 0, ?_, ?_, ?_⟩
 ·simp [List.getD_eq_getElem?_getD, hi]
 ·have : ((List.range k).filter (hasR ar rs t)).getD i 0 ∈ (List.range k).filter (hasR ar rs t) := by
   rw [List.getD_eq_getElem?_getD, List.getElem?_eq_getElem hi]; exact List.getElem_mem hi
  have := (List.mem_filter.1 this).1
  exact List.mem_range.1 this
 ·have : ((List.range k).filter (hasR ar rs t)).getD i 0 ∈ (List.range k).filter (hasR ar rs t) := by
   rw [List.getD_eq_getElem?_getD, List.getElem?_eq_getElem hi]; exact List.getElem_mem hi
  exact (List.mem_filter.1 this).2
theorem redL_spec (k i : Nat) (hi : i < (redL ar rs t).length) : ∃ p : Nat, (redL ar rs t).getD i 0 = p ∧ p < t.length ∧ hasR ar rs t p = true := redTo_spec _ _ hi
theorem redL_nil : redL ar rs t = [] ↔ ∀ p, p < t.length → ruleAtL ar rs t p < 0 := by
 unfold redL redTo
 rw [List.map_eq_nil_iff, List.filter_eq_nil_iff]
 simp only [List.mem_range, hasR, decide_eq_true_eq]
 exact ⟨fun h p hp => by have := h p hp; omega, fun h p hp => by have := h p hp; omega⟩
def normalL (ar : List Int) (rs : Rules) (t : List Int) : Bool := decide (redL ar rs t = [])
def inOk (ar t all : List Int) (i : Nat) : Bool := decide (i + 1 = all.length ∨ (endN ar t (all.getD i 0).toNat : Int) ≤ all.getD (i + 1) 0)
def inTo (ar t all : List Int) (k : Nat) : List Int := ((List.range k).filter (inOk ar t all)).map (fun i => all.getD i 0)
def inL (ar : List Int) (rs : Rules) (t : List Int) : List Int := inTo ar t (redL ar rs t) (redL ar rs t).length
theorem inTo_yes {all : List Int} (h : inOk ar t all k = true) : inTo ar t all (k + 1) = inTo ar t all k ++ [all.getD k 0] := by simp [inTo, List.range_succ, h]
theorem inTo_no {all : List Int} (h : inOk ar t all k = false) : inTo ar t all (k + 1) = inTo ar t all k := by simp [inTo, List.range_succ, h]
theorem inTo_len {all : List Int} : (inTo ar t all k).length ≤ k := by
 unfold inTo
 rw [List.length_map]
 have := List.length_filter_le (inOk ar t all) (List.range k)
 rwa [List.length_range] at this
theorem inL_pos (h : redL ar rs t ≠ []) : 0 < (inL ar rs t).length := by
 have h0 : 0 < (redL ar rs t).length := by cases hr : redL ar rs t with | nil => exact absurd hr h | cons a l => simp
 unfold inL
 have : inTo ar t (redL ar rs t) (((redL ar rs t).length - 1) + 1) = inTo ar t (redL ar rs t) ((redL ar rs t).length - 1) ++ [_] := inTo_yes (by simp [inOk]; omega)
 rw [show (redL ar rs t).length = ((redL ar rs t).length - 1) + 1 from by omega, this]
 simp
def rightB (ar : List Int) (rs : Rules) (t : List Int) : Bool := sysOk ar rs && termOk ar t
theorem right_iff : rightB ar rs t = true ↔ sysOk ar rs = true ∧ termOk ar t = true := by simp [rightB]
def redS (ar : List Int) (rs : Rules) (t : List Int) : List Int := if rightB ar rs t = true then redL ar rs t else []
def inS (ar : List Int) (rs : Rules) (t : List Int) : List Int := if rightB ar rs t = true then inL ar rs t else []
theorem redS_right (h : k < (redS ar rs t).length) : rightB ar rs t = true := by
 unfold redS at h
 split at h
 ·assumption
 ·simp at h
theorem redS_eq (h : rightB ar rs t = true) : redS ar rs t = redL ar rs t := by rw [redS, if_pos h]
theorem inS_eq : inS ar rs t = inTo ar t (redS ar rs t) (redS ar rs t).length := by
 unfold inS redS
 split
 ·rfl
 ·rfl
theorem redS_facts (h : k < (redS ar rs t).length) : sysOk ar rs = true ∧ termOk ar t = true ∧ ∃ p : Nat, (redS ar rs t).getD k 0 = p ∧ p < t.length ∧ hasR ar rs t p = true := by
 have hr := redS_right h
 rw [redS_eq hr] at h ⊢
 exact ⟨(right_iff.1 hr).1, (right_iff.1 hr).2, redL_spec 0 k h⟩
theorem redS_len {n : Nat} (h : t.length ≤ n) : (redS ar rs t).length ≤ n := by
 unfold redS
 split
 ·have := redL_len (ar := ar) (rs := rs) (t := t); omega
 ·simp
def lastL (l : List Int) : List Int := (l.drop (l.length - 1)).take (l.length - (l.length - 1))
theorem lastL_nil {l : List Int} (h : ¬ 0 < l.length) : lastL l = l := by
 have : l = [] := List.eq_nil_of_length_eq_zero (by omega)
 subst this; rfl
def placesL (ar : List Int) (rs : Rules) (t : List Int) (st : Int) : List Int := if st = 1 then inS ar rs t else if st = 2 then redS ar rs t else lastL (redS ar rs t)
def pickL (ar : List Int) (rs : Rules) (t : List Int) (st : Int) : Int :=
 if redL ar rs t = [] then -1 else if st = 1 then (inL ar rs t).getD 0 0 else if st = 2 then (redL ar rs t).getD 0 0 else (redL ar rs t).getD ((redL ar rs t).length - 1) 0
theorem inTo_mem {all : List Int} {x : Int} (h : x ∈ inTo ar t all k) : ∃ i, i < k ∧ x = all.getD i 0 := by
 unfold inTo at h
 obtain ⟨i, hi, rfl⟩ := List.mem_map.1 h
 exact ⟨i, List.mem_range.1 (List.mem_filter.1 hi).1, rfl⟩
theorem pick_spec (st : Int) : pickL ar rs t st = -1 ∧ redL ar rs t = [] ∨ ∃ p : Nat, pickL ar rs t st = p ∧ p < t.length ∧ hasR ar rs t p = true ∧ redL ar rs t ≠ [] := by
 by_cases h : redL ar rs t = []
 ·exact .inl ⟨by simp [pickL, h], h⟩
 ·have h0 : 0 < (redL ar rs t).length := by cases hr : redL ar rs t with | nil => exact absurd hr h | cons a l => simp
  right
  unfold pickL
  rw [if_neg h]
  split
  ·have hp := inL_pos h
   have hm : (inL ar rs t).getD 0 0 ∈ inL ar rs t := by
    rw [List.getD_eq_getElem?_getD, List.getElem?_eq_getElem hp]; exact List.getElem_mem hp
   obtain ⟨i, hi, e⟩ := inTo_mem hm
   obtain ⟨p, h1, h2, h3⟩ := redL_spec (ar := ar) (rs := rs) (t := t) 0 i hi
   exact ⟨p, by rw [e, h1], h2, h3, h⟩
  ·split
   ·obtain ⟨p, h1, h2, h3⟩ := redL_spec (ar := ar) (rs := rs) (t := t) 0 0 h0
    exact ⟨p, h1, h2, h3, h⟩
   ·obtain ⟨p, h1, h2, h3⟩ := redL_spec (ar := ar) (rs := rs) (t := t) 0 ((redL ar rs t).length - 1) (by omega)
    exact ⟨p, h1, h2, h3, h⟩
theorem inL_nil (h : redL ar rs t = []) : inL ar rs t = [] := by unfold inL; rw [h]; rfl
theorem places_nil (st : Int) (hr : rightB ar rs t = true) : placesL ar rs t st = [] ↔ redL ar rs t = [] := by
 constructor
 ·intro h
  rcases Classical.em (redL ar rs t = []) with e | e
  ·exact e
  ·exfalso
   have h0 := inL_pos e
   have h1 : 0 < (redL ar rs t).length := List.length_pos_iff.2 e
   unfold placesL at h
   rw [redS_eq hr] at h
   split at h
   ·rw [inS, if_pos hr] at h; rw [h] at h0; simp at h0
   ·split at h
    ·exact e h
    ·have := congrArg List.length h
     simp [lastL] at this
     omega
 ·intro h
  unfold placesL
  rw [redS_eq hr, inS, if_pos hr, inL_nil h, h]
  split
  ·rfl
  ·split <;> rfl
theorem places_pick (st : Int) (hr : rightB ar rs t = true) (h : redL ar rs t ≠ []) : (placesL ar rs t st).getD 0 0 = pickL ar rs t st := by
 have h1 : 0 < (redL ar rs t).length := List.length_pos_iff.2 h
 unfold placesL pickL
 rw [redS_eq hr, inS, if_pos hr, if_neg h]
 split
 ·rfl
 ·split
  ·rfl
  ·unfold lastL
   rw [List.getD_eq_getElem?_getD, List.getElem?_take, if_pos (by omega), List.getElem?_drop, Nat.add_zero, ← List.getD_eq_getElem?_getD]
def pickB (ar : List Int) (rs : Rules) (t : List Int) (st : Int) : Bool := (rightB ar rs t && decide (1 ≤ st ∧ st ≤ 3)) && !decide (redL ar rs t = [])
theorem pickB_iff {st : Int} : pickB ar rs t st = true ↔ rightB ar rs t = true ∧ (1 ≤ st ∧ st ≤ 3) ∧ redL ar rs t ≠ [] := by simp [pickB, and_assoc]
theorem pickB_no {st : Int} (h : ¬ (rightB ar rs t = true ∧ (1 ≤ st ∧ st ≤ 3) ∧ redL ar rs t ≠ [])) : pickB ar rs t st = false := by
 cases hp : pickB ar rs t st with
 | false => rfl
 | true => exact absurd (pickB_iff.1 hp) h
def pickAt (ar : List Int) (rs : Rules) (t : List Int) (st : Int) : Int := if pickB ar rs t st = true then pickL ar rs t st else 0
def pickRule (ar : List Int) (rs : Rules) (t : List Int) (st : Int) : Int := if pickB ar rs t st = true then ruleAtL ar rs t (pickL ar rs t st).toNat else 0
end
end Go.Proofs.YtenomejgjcpbdaaGreat.M
set_option linter.unusedSimpArgs false
set_option linter.unusedVariables false
namespace Go.Proofs.YtenomejgjcpbdaaGreat.M
def Forest (ar l : List Int) (n : Nat) : Prop := endGo ar l n = some l.length
theorem endGo_more {ar : List Int} : ∀ {a b : List Int} {n e : Nat}, endGo ar a n = some e → endGo ar (a ++ b) n = some e
 | a, b, 0, e, h => by simp [endGo] at h; subst h; simp [endGo]
 | [], b, n + 1, e, h => by simp [endGo] at h
 | x :: a, b, n + 1, e, h => by
  simp only [endGo, List.cons_append] at h ⊢
  split at h
  ·rename_i hx
   rw [if_pos hx]
   cases hr : endGo ar a (n + (arity ar x).toNat) with
   | none => rw [hr] at h; simp at h
   | some q => rw [hr] at h; rw [endGo_more hr]; exact h
  ·cases h
theorem Forest.append {ar a b : List Int} {n m : Nat} (h : Forest ar a n) (k : Forest ar b m) : Forest ar (a ++ b) (n + m) := by
 unfold Forest at *
 have h1 := endGo_more (b := b) h
 have := endGo_join (m := m) (e2 := b.length) h1 (by rw [List.drop_left]; exact k)
 rw [this, List.length_append]
theorem Forest.cons {ar r : List Int} {x : Int} {n : Nat} (hx : x < ar.length) : Forest ar (x :: r) (n + 1) ↔ Forest ar r (n + (arity ar x).toNat) := by
 unfold Forest
 simp only [endGo, if_pos hx, List.length_cons]
 cases endGo ar r (n + (arity ar x).toNat) <;> simp
theorem Forest.lt {ar r : List Int} {x : Int} {n : Nat} (h : Forest ar (x :: r) n) : ∃ m, n = m + 1 ∧ x < ar.length := by
 unfold Forest at h
 cases n with
 | zero => simp [endGo] at h
 | succ m =>
  refine ⟨m, rfl, ?_⟩
  simp only [endGo] at h
  split at h
  ·assumption
  ·cases h
theorem arity_var {ar : List Int} {x : Int} (h : x < 0) : arity ar x = 0 := by simp [arity]; omega
theorem Forest.fill {ar : List Int} {s : RowL} (hs : ∀ x : Int, x < 0 → Forest ar (lk s x) 1) : ∀ (t : List Int) (n : Nat), Forest ar t n → Forest ar (t.flatMap (lk s)) n
 | [], n, h => h
 | x :: t, n, h => by
  obtain ⟨m, rfl, hx⟩ := h.lt
  have h1 := (Forest.cons hx).1 h
  rw [List.flatMap_cons]
  by_cases h0 : x < 0
  ·rw [arity_var h0] at h1
   rw [Nat.add_comm]
   exact (hs x h0).append (Forest.fill hs t m (by simpa using h1))
  ·rw [lk_sym (by omega)]
   exact (Forest.cons hx).2 (Forest.fill hs t _ h1)
theorem fillGo_flat {s : RowL} : ∀ (t acc u : List Int), fillGo s t acc = some u → u = acc ++ t.flatMap (lk s)
 | [], acc, u, h => by simp [fillGo] at h; simp [h]
 | n :: t, acc, u, h => by
  rw [fillGo] at h
  split at h
  ·cases h
  ·rw [fillGo_flat t _ u h, List.flatMap_cons, List.append_assoc]
theorem fillL_flat {s : RowL} {t u : List Int} (h : fillL s t = some u) : u = t.flatMap (lk s) := by
 have := fillGo_flat t [] u h
 simpa using this
def RowsOk (ar : List Int) (s : RowL) : Prop := ∀ i, s.getD i [] = [] ∨ termOk ar (s.getD i []) = true
theorem lk_forest {ar : List Int} {s : RowL} (h : RowsOk ar s) (hs : sigOk ar = true) (x : Int) (hx : x < 0) : Forest ar (lk s x) 1 := by
 unfold lk
 rw [if_neg (by omega)]
 split
 ·have : Forest ar [x] (0 + 1) := (Forest.cons (by have := sigOk_spec hs; omega)).2 (by rw [arity_var hx]; rfl)
  exact this
 ·rename_i e
  exact (termOk_iff.1 ((h (varIx x)).resolve_left e)).whole
theorem lk_ge {ar : List Int} {s : RowL} (h : RowsOk ar s) {x : Int} (hx : -24 ≤ x) : ∀ y ∈ lk s x, -24 ≤ y := by
 intro y hy
 unfold lk at hy
 split at hy
 ·simp at hy; omega
 ·split at hy
  ·simp at hy; omega
  ·rename_i e; exact (termOk_iff.1 ((h (varIx x)).resolve_left e)).ge y hy
theorem fill_ok {ar : List Int} {s : RowL} {t u : List Int} (h : RowsOk ar s) (ht : termOk ar t = true) (hu : fillL s t = some u) : termOk ar u = true := by
 have hT := termOk_iff.1 ht
 have hl := fillL_len hu
 have hf := Forest.fill (lk_forest h hT.sig) t 1 hT.whole
 rw [← fillL_flat hu] at hf
 refine termOk_iff.2 ⟨hT.sig, by have := hT.pos; omega, hl.1, ?_, hf⟩
 rw [fillL_flat hu]
 intro y hy
 obtain ⟨x, hx, hy⟩ := List.mem_flatMap.1 hy
 exact lk_ge h (hT.ge x hx) y hy
theorem mGo_ok {ar t : List Int} (ht : termOk ar t = true) : ∀ (p : List Int) (i : Nat) (b r : RowL), mGo ar t p i b = some r → RowsOk ar b → RowsOk ar r
 | [], i, b, r, h, hb => by simp [mGo] at h; subst h; exact hb
 | n :: p, i, b, r, h, hb => by
  rw [mGo] at h
  split at h
  ·cases h
  ·rename_i hi
   split at h
   ·split at h
    ·exact mGo_ok ht p _ _ _ h hb
    ·cases h
   ·split at h
    ·refine mGo_ok ht p _ _ _ h (fun k => ?_)
     by_cases e : varIx n = k
     ·subst e
      rcases Nat.lt_or_ge (varIx n) b.length with hl | hl
      ·have : (b.set (varIx n) (sub ar t i)).getD (varIx n) [] = sub ar t i := by simp [List.getD_eq_getElem?_getD, hl]
       rw [this]; exact .inr (sub_ok ht (by omega))
      ·rw [List.set_eq_of_length_le hl]; exact hb _
     ·rw [List.getD_eq_getElem?_getD, List.getElem?_set_ne e, ← List.getD_eq_getElem?_getD]; exact hb k
    ·split at h
     ·exact mGo_ok ht p _ _ _ h hb
     ·cases h
theorem matchB_ok {ar p t : List Int} {b : RowL} (ht : termOk ar t = true) (h : matchB ar p t = some b) : RowsOk ar b := by
 refine mGo_ok ht p 0 _ b h (fun k => .inl ?_)
 rw [List.getD_eq_getElem?_getD, List.getElem?_replicate]
 split <;> rfl
theorem Forest.swap {ar S U B : List Int} (hS : Forest ar S 1) (hU : Forest ar U 1) (hp : S ≠ []) : ∀ (A : List Int) (n : Nat), Forest ar (A ++ S ++ B) n → Forest ar (A ++ U ++ B) n
 | [], n, h => by
  simp only [List.nil_append] at h ⊢
  cases S with
  | nil => exact absurd rfl hp
  | cons x S =>
   obtain ⟨m, rfl, _⟩ := Forest.lt h
   unfold Forest at h
   rw [Nat.add_comm] at h
   obtain ⟨e1, e2, h1, h2, h3⟩ := endGo_split h
   have h4 := endGo_more (b := B) hS
   rw [h4] at h1
   cases h1
   rw [List.drop_left] at h2
   have hB : Forest ar B m := by
    unfold Forest
    rw [h2]
    rw [List.length_append] at h3
    congr 1; omega
   rw [Nat.add_comm]
   exact hU.append hB
 | x :: A, n, h => by
  obtain ⟨m, rfl, hx⟩ := Forest.lt h
  exact (Forest.cons hx).2 (Forest.swap hS hU hp A _ ((Forest.cons hx).1 h))
theorem parts {ar t : List Int} {p : Nat} (ht : termOk ar t = true) (hp : p < t.length) : t = t.take p ++ sub ar t p ++ t.drop (endN ar t p) := by
 have he := endN_spec ht hp
 have : sub ar t p ++ t.drop (endN ar t p) = t.drop p := by
  unfold sub
  have e : t.drop (endN ar t p) = (t.drop p).drop (endN ar t p - p) := by rw [List.drop_drop]; congr 1; omega
  rw [e, List.take_append_drop]
 rw [List.append_assoc, this, List.take_append_drop]
theorem put_ok {ar t u v : List Int} {p : Nat} (ht : termOk ar t = true) (hp : p < t.length) (hu : termOk ar u = true) (h : putL ar t p u = some v) : termOk ar v = true := by
 unfold putL at h
 split at h
 ·cases h
 ·rename_i hl
  cases h
  have hT := termOk_iff.1 ht
  have hU := termOk_iff.1 hu
  refine termOk_iff.2 ⟨hT.sig, by have := hU.pos; simp; omega, by omega, ?_, ?_⟩
  ·intro x hx
   simp only [List.mem_append] at hx
   rcases hx with (hx | hx) | hx
   ·exact hT.ge x (List.mem_of_mem_take hx)
   ·exact hU.ge x hx
   ·exact hT.ge x (List.mem_of_mem_drop hx)
  ·have h1 : Forest ar (t.take p ++ sub ar t p ++ t.drop (endN ar t p)) 1 := by rw [← parts ht hp]; exact hT.whole
   exact Forest.swap (termOk_iff.1 (sub_ok ht hp)).whole hU.whole (sub_ne ht hp) _ _ h1
theorem stepL_ok {ar : List Int} {rs : Rules} {t u : List Int} {p r : Nat} (hs : sysOk ar rs = true) (ht : termOk ar t = true) (hp : p < t.length) (hr : r < rs.length) (h : stepL ar rs t p r = some u) : termOk ar u = true := by
 have hR := ruleOk_iff.1 ((sysOk_iff.1 hs).2.2 r hr)
 unfold stepL at h
 split at h
 ·cases h
 ·rename_i b hb
  split at h
  ·cases h
  ·rename_i w hw
   exact put_ok ht hp (fill_ok (matchB_ok (sub_ok ht hp) hb) hR.right hw) h
def walkGo (ar : List Int) (rs : Rules) (st : Int) : Nat → List Int → List (Int × Int × List Int) × Bool
 | 0, t => ([], decide (redL ar rs t = []))
 | n + 1, t => if redL ar rs t = [] then ([], true) else
  match stepL ar rs t (pickL ar rs t st).toNat (ruleAtL ar rs t (pickL ar rs t st).toNat).toNat with
  | none => ([], false)
  | some u => ((pickL ar rs t st, ruleAtL ar rs t (pickL ar rs t st).toNat, u) :: (walkGo ar rs st n u).1, (walkGo ar rs st n u).2)
section
variable {ar : List Int} {rs : Rules} {t u : List Int} {st : Int} {m : Nat}
theorem walk_nil (h : redL ar rs t = []) : walkGo ar rs st m t = ([], true) := by
 cases m with
 | zero => simp [walkGo, h]
 | succ m => rw [walkGo, if_pos h]
theorem walk_stuck (hm : 0 < m) (h : redL ar rs t ≠ []) (hu : (stepL ar rs t (pickL ar rs t st).toNat (ruleAtL ar rs t (pickL ar rs t st).toNat).toNat).isSome = false) : walkGo ar rs st m t = ([], false) := by
 obtain ⟨k, rfl⟩ : ∃ k, m = k + 1 := ⟨m - 1, by omega⟩
 rw [walkGo, if_neg h]
 cases hx : stepL ar rs t (pickL ar rs t st).toNat (ruleAtL ar rs t (pickL ar rs t st).toNat).toNat with
 | none => rfl
 | some v => rw [hx] at hu; cases hu
theorem walk_next (hm : 0 < m) (h : redL ar rs t ≠ []) (hu : stepL ar rs t (pickL ar rs t st).toNat (ruleAtL ar rs t (pickL ar rs t st).toNat).toNat = some u) :
  walkGo ar rs st m t = ((pickL ar rs t st, ruleAtL ar rs t (pickL ar rs t st).toNat, u) :: (walkGo ar rs st (m - 1) u).1, (walkGo ar rs st (m - 1) u).2) := by
 obtain ⟨k, rfl⟩ : ∃ k, m = k + 1 := ⟨m - 1, by omega⟩
 rw [walkGo, if_neg h, hu]
 rfl
def wOk (ar : List Int) (rs : Rules) (t : List Int) (st n : Int) : Bool := (rightB ar rs t && decide (1 ≤ st ∧ st ≤ 3)) && decide (0 ≤ n ∧ n ≤ 60)
def walkB (ar : List Int) (rs : Rules) (t : List Int) (st n : Int) : List Int × List (Int × Int × List Int) × Bool :=
 if wOk ar rs t st n = true then (t, walkGo ar rs st n.toNat t) else ([], [], false)
theorem walkB_no {n : Int} (h : wOk ar rs t st n = false) : walkB ar rs t st n = ([], [], false) := by rw [walkB, if_neg (by rw [h]; simp)]
theorem walkB_yes {n : Int} (h : wOk ar rs t st n = true) : walkB ar rs t st n = (t, walkGo ar rs st n.toNat t) := by rw [walkB, if_pos h]
theorem walkGo_len : ∀ (m : Nat) (t : List Int), (walkGo ar rs st m t).1.length ≤ m
 | 0, t => by simp [walkGo]
 | m + 1, t => by
  rw [walkGo]
  split
  ·simp
  ·split
   ·simp
   ·rename_i u _
    have := walkGo_len m u
    simp; omega
theorem walkB_len {n : Int} : (walkB ar rs t st n).2.1.length ≤ 60 := by
 unfold walkB
 split
 ·rename_i h
  have := walkGo_len (ar := ar) (rs := rs) (st := st) n.toNat t
  simp only [wOk, Bool.and_eq_true, decide_eq_true_eq] at h
  simp only
  omega
 ·simp
end
end Go.Proofs.YtenomejgjcpbdaaGreat.M
set_option linter.unusedSimpArgs false
set_option linter.unusedVariables false
namespace Go.Proofs.YtenomejgjcpbdaaGreat.M
section
variable {ar : List Int} {rs : Rules} {t : List Int} {p k j : Nat}
def cntR (ar : List Int) (rs : Rules) (t : List Int) (p k : Nat) : Nat := ((List.range k).filter (isRedex ar rs t p)).length
def cntP (ar : List Int) (rs : Rules) (t : List Int) (k : Nat) : Nat := ((List.range k).map (fun p => cntR ar rs t p rs.length)).sum
theorem cntR_yes {m : Nat} (h : isRedex ar rs t p k = true) : m + cntR ar rs t p k + 1 = m + cntR ar rs t p (k + 1) := by
 simp [cntR, List.range_succ, h]; omega
theorem cntR_no {m : Nat} (h : isRedex ar rs t p k = false) : m + cntR ar rs t p k = m + cntR ar rs t p (k + 1) := by
 simp [cntR, List.range_succ, h]
theorem cntR_le : cntR ar rs t p k ≤ k := by
 have := List.length_filter_le (isRedex ar rs t p) (List.range k)
 rwa [List.length_range] at this
theorem cntP_succ (h : j = rs.length) : cntP ar rs t k + cntR ar rs t k j = cntP ar rs t (k + 1) := by
 subst h; simp [cntP, List.range_succ]
theorem cntP_le (h : rs.length ≤ 12) : ∀ k, cntP ar rs t k ≤ k * 12
 | 0 => by simp [cntP]
 | k + 1 => by
  rw [← cntP_succ rfl]
  have := cntP_le h k
  have := cntR_le (ar := ar) (rs := rs) (t := t) (p := k) (k := rs.length)
  omega
theorem ruleAtGo_none : ∀ (n r : Nat), ruleAtGo ar rs t p n r = -1 → ∀ k, r ≤ k → k < r + n → isRedex ar rs t p k = false
 | 0, r, _, k, h1, h2 => by omega
 | n + 1, r, h, k, h1, h2 => by
  rw [ruleAtGo] at h
  split at h
  ·omega
  ·rename_i hr
   rcases Nat.lt_or_ge r k with h3 | h3
   ·exact ruleAtGo_none n (r + 1) h k (by omega) (by omega)
   ·obtain rfl : k = r := by omega
    simpa using hr
theorem cntR_zero : cntR ar rs t p rs.length = 0 ↔ ruleAtL ar rs t p < 0 := by
 unfold cntR
 rw [List.length_eq_zero_iff, List.filter_eq_nil_iff]
 simp only [List.mem_range]
 constructor
 ·intro h
  rcases ruleAt_spec (ar := ar) (rs := rs) (t := t) (p := p) with h1 | ⟨k, h1, h2, h3⟩
  ·omega
  ·exact absurd h3 (h k h2)
 ·intro h k hk
  have h1 : ruleAtL ar rs t p = -1 := by
   rcases ruleAt_spec (ar := ar) (rs := rs) (t := t) (p := p) with h1 | ⟨k, h1, _, _⟩
   ·exact h1
   ·omega
  rw [ruleAtGo_none rs.length 0 h1 k (by omega) (by omega)]
  simp
theorem cntP_zero : ∀ k, cntP ar rs t k = 0 ↔ ∀ p, p < k → ruleAtL ar rs t p < 0
 | 0 => by simp [cntP]
 | k + 1 => by
  rw [← cntP_succ rfl]
  have ih := cntP_zero k
  have hz := cntR_zero (ar := ar) (rs := rs) (t := t) (p := k)
  constructor
  ·intro h p hp
   rcases Nat.lt_or_ge p k with h1 | h1
   ·exact ih.1 (by omega) p h1
   ·obtain rfl : p = k := by omega
    exact hz.1 (by omega)
  ·intro h
   have h1 := ih.2 (fun p hp => h p (by omega))
   have h2 := hz.2 (h k (by omega))
   omega
theorem normal_cnt : normalL ar rs t = decide (cntP ar rs t t.length = 0) := by
 unfold normalL
 exact decide_eq_decide.2 (redL_nil.trans (cntP_zero t.length).symm)
end
end Go.Proofs.YtenomejgjcpbdaaGreat.M
set_option linter.unusedSimpArgs false
set_option linter.unusedVariables false
namespace Go.Proofs.YtenomejgjcpbdaaGreat.M
end Go.Proofs.YtenomejgjcpbdaaGreat.M
set_option linter.unusedSimpArgs false
set_option linter.unusedVariables false
namespace Go.Proofs.YtenomejgjcpbdaaGreat.M
def flatRow (r : List Int) : List Int := r
def flatStep (s : Int × Int × List Int) : List Int := s.1 :: s.2.1 :: s.2.2
abbrev StepL := Int × Int × List Int
def stepAtOk (ar : List Int) (rs : Rules) (t : List Int) (p r : Int) : Bool := rightB ar rs t && decide (0 ≤ p ∧ p < (t.length : Int)) && decide (0 ≤ r ∧ r < (rs.length : Int))
def stepAtL (ar : List Int) (rs : Rules) (t : List Int) (p r : Int) : Option (List Int) := if stepAtOk ar rs t p r = true then stepL ar rs t p.toNat r.toNat else none
def goOk (ar : List Int) (rs : Rules) : List Int → List StepL → Bool
 | _, [] => true
 | t, s :: ss => decide (stepAtL ar rs t s.1 s.2.1 = some s.2.2) && goOk ar rs s.2.2 ss
def endL (f : List Int) (ss : List StepL) : List Int := if ss.length = 0 then f else (ss.getD (ss.length - 1) (0, 0, [])).2.2
def walkOkL (ar : List Int) (rs : Rules) (f : List Int) (ss : List StepL) : Bool := rightB ar rs f && decide (ss.length ≤ 60) && goOk ar rs f ss
variable {ar : List Int} {rs : Rules} {t f : List Int} {ss : List StepL}
theorem walkOkL_iff : walkOkL ar rs f ss = true ↔ rightB ar rs f = true ∧ ss.length ≤ 60 ∧ goOk ar rs f ss = true := by simp [walkOkL, and_assoc]
theorem stepAtL_ok {p r : Int} {u : List Int} (h : stepAtL ar rs t p r = some u) : rightB ar rs u = true ∧ stepAtOk ar rs t p r = true := by
 unfold stepAtL at h
 split at h
 ·rename_i hk
  have hk' := hk
  simp only [stepAtOk, Bool.and_eq_true, decide_eq_true_eq] at hk
  obtain ⟨⟨h1, h2⟩, h3⟩ := hk
  have hs := (right_iff.1 h1).1
  exact ⟨right_iff.2 ⟨hs, stepL_ok hs (right_iff.1 h1).2 (by omega) (by omega) h⟩, hk'⟩
 ·cases h
def nowL (f : List Int) (ss : List StepL) (k : Nat) : List Int := endL f (ss.take k)
theorem nowL_zero : nowL f ss 0 = f := by simp [nowL, endL]
theorem nowL_succ {k : Nat} (h : k < ss.length) : nowL f ss (k + 1) = (ss.getD k (0, 0, [])).2.2 := by
 have hl : (ss.take (k + 1)).length = k + 1 := by rw [List.length_take]; omega
 unfold nowL endL
 rw [hl, if_neg (by omega)]
 congr 2
 simp [List.getD, h]
theorem nowL_all : nowL f ss ss.length = endL f ss := by rw [nowL, List.take_length]
theorem goOk_drop {k : Nat} (h : k < ss.length) : goOk ar rs t (ss.drop k) = (decide (stepAtL ar rs t (ss.getD k (0, 0, [])).1 (ss.getD k (0, 0, [])).2.1 = some (ss.getD k (0, 0, [])).2.2) && goOk ar rs (ss.getD k (0, 0, [])).2.2 (ss.drop (k + 1))) := by
 rw [drop_get (0, 0, []) h]; rfl
theorem goOk_end {k : Nat} (h : ss.length ≤ k) : goOk ar rs t (ss.drop k) = true := by rw [List.drop_eq_nil_of_le h]; rfl
theorem goOk_now (h : goOk ar rs f ss = true) (hr : rightB ar rs f = true) : ∀ k, k ≤ ss.length → rightB ar rs (nowL f ss k) = true ∧ goOk ar rs (nowL f ss k) (ss.drop k) = true
 | 0, _ => by rw [nowL_zero]; exact ⟨hr, h⟩
 | k + 1, hk => by
  obtain ⟨h1, h2⟩ := goOk_now h hr k (by omega)
  rw [goOk_drop (by omega), Bool.and_eq_true, decide_eq_true_eq] at h2
  rw [nowL_succ (by omega)]
  exact ⟨(stepAtL_ok h2.1).1, h2.2⟩
theorem walkOk_end (h : walkOkL ar rs f ss = true) : rightB ar rs (endL f ss) = true := by
 obtain ⟨h1, _, h3⟩ := walkOkL_iff.1 h
 have := (goOk_now h3 h1 ss.length (Nat.le_refl _)).1
 rwa [nowL_all] at this
theorem walkOk_step (h : walkOkL ar rs f ss = true) {k : Nat} (hk : k < ss.length) : stepAtL ar rs (nowL f ss k) (ss.getD k (0, 0, [])).1 (ss.getD k (0, 0, [])).2.1 = some (ss.getD k (0, 0, [])).2.2 := by
 obtain ⟨h1, _, h3⟩ := walkOkL_iff.1 h
 have := (goOk_now h3 h1 k (by omega)).2
 rw [goOk_drop hk, Bool.and_eq_true, decide_eq_true_eq] at this
 exact this.1
theorem walkOk_to (h : walkOkL ar rs f ss = true) {k : Nat} (hk : k < ss.length) : termOk ar (ss.getD k (0, 0, [])).2.2 = true := (right_iff.1 (stepAtL_ok (walkOk_step h hk)).1).2
end Go.Proofs.YtenomejgjcpbdaaGreat.M
set_option linter.unusedSimpArgs false
set_option linter.unusedVariables false
namespace Go.Proofs.YtenomejgjcpbdaaGreat.M
section
variable {α : Type} {f : α → Nat} {l : List α} {k : Nat}
def gTo (f : α → Nat) (l : List α) (k : Nat) : Nat := ((l.take k).map f).sum
theorem gTo_succ (d : α) (h : k < l.length) : gTo f l k + f (l.getD k d) = gTo f l (k + 1) := by
 unfold gTo
 rw [take_succ_getD d h]
 simp
end
def lenS (s : StepL) : Nat := s.2.2.length
theorem flatStep_len (ss : List StepL) : (ss.flatMap flatStep).length ≤ 2 * ss.length + gTo lenS ss ss.length := by
 unfold gTo
 rw [List.take_length, List.length_flatMap]
 induction ss with
 | nil => simp
 | cons s ss ih => simp [flatStep, lenS] at ih ⊢; omega
section
variable {ar : List Int} {rs : Rules} {t u f : List Int} {ss : List StepL} {st : Int} {m k : Nat}
theorem goOk_next (hk : k < ss.length) (h1 : (stepAtL ar rs t (ss.getD k (0, 0, [])).1 (ss.getD k (0, 0, [])).2.1).isSome = true) (h2 : (stepAtL ar rs t (ss.getD k (0, 0, [])).1 (ss.getD k (0, 0, [])).2.1).getD [] = (ss.getD k (0, 0, [])).2.2) :
  goOk ar rs t (ss.drop k) = goOk ar rs ((stepAtL ar rs t (ss.getD k (0, 0, [])).1 (ss.getD k (0, 0, [])).2.1).getD []) (ss.drop (k + 1)) := by
 rw [goOk_drop hk]
 obtain ⟨v, hv⟩ := Option.isSome_iff_exists.1 h1
 rw [hv] at h2 ⊢
 simp only [Option.getD_some] at h2 ⊢
 subst h2
 simp
theorem goOk_fail (hk : k < ss.length) (h : (stepAtL ar rs t (ss.getD k (0, 0, [])).1 (ss.getD k (0, 0, [])).2.1).isSome = false ∨ (stepAtL ar rs t (ss.getD k (0, 0, [])).1 (ss.getD k (0, 0, [])).2.1).getD [] ≠ (ss.getD k (0, 0, [])).2.2) : goOk ar rs t (ss.drop k) = false := by
 rw [goOk_drop hk, Bool.and_eq_false_iff]
 refine .inl (decide_eq_false fun e => ?_)
 rw [e] at h
 rcases h with h | h
 ·cases h
 ·exact h rfl
theorem stepAt_of {p r : Nat} (hr : rightB ar rs t = true) (hp : p < t.length) (hrl : r < rs.length) : stepAtL ar rs t p r = stepL ar rs t p r := by
 rw [stepAtL, if_pos (by simp [stepAtOk, hr, hp, hrl])]; rfl
theorem walkGo_ok : ∀ (m : Nat) (t : List Int), rightB ar rs t = true → goOk ar rs t (walkGo ar rs st m t).1 = true ∧ rightB ar rs (endL t (walkGo ar rs st m t).1) = true ∧ ((walkGo ar rs st m t).2 = true → redL ar rs (endL t (walkGo ar rs st m t).1) = [])
 | 0, t, hr => ⟨rfl, by simpa [walkGo, endL] using hr, fun h => by simpa [walkGo, endL] using h⟩
 | m + 1, t, hr => by
  by_cases he : redL ar rs t = []
  ·rw [walk_nil he]; exact ⟨rfl, by simpa [endL] using hr, fun _ => by simpa [endL] using he⟩
  ·cases hu : stepL ar rs t (pickL ar rs t st).toNat (ruleAtL ar rs t (pickL ar rs t st).toNat).toNat with
   | none => rw [walk_stuck (by omega) he (by rw [hu]; rfl)]; exact ⟨rfl, by simpa [endL] using hr, fun h => by cases h⟩
   | some u =>
    obtain ⟨q, hq1, hq2, hq3, _⟩ := (pick_spec (ar := ar) (rs := rs) (t := t) st).resolve_left (fun h => he h.2)
    have hqn : (pickL ar rs t st).toNat = q := by omega
    have hrr : 0 ≤ ruleAtL ar rs t (pickL ar rs t st).toNat := by rw [hqn]; simpa [hasR] using hq3
    obtain ⟨j, hj1, hj2, _⟩ := (ruleAt_spec (ar := ar) (rs := rs) (t := t) (p := (pickL ar rs t st).toNat)).resolve_left (by omega)
    have hjn : (ruleAtL ar rs t (pickL ar rs t st).toNat).toNat = j := by omega
    have hs := (right_iff.1 hr).1
    have huo : rightB ar rs u = true := right_iff.2 ⟨hs, stepL_ok hs (right_iff.1 hr).2 (by omega) (by omega) hu⟩
    have e : stepAtL ar rs t (pickL ar rs t st) (ruleAtL ar rs t (pickL ar rs t st).toNat) = some u := by
     rw [hj1, hq1, stepAt_of hr hq2 hj2, ← hu, hjn, hqn]
    obtain ⟨h1, h2, h3⟩ := walkGo_ok m u huo
    rw [walk_next (by omega) he hu, Nat.add_sub_cancel]
    have e2 : endL t ((pickL ar rs t st, ruleAtL ar rs t (pickL ar rs t st).toNat, u) :: (walkGo ar rs st m u).1) = endL u (walkGo ar rs st m u).1 := by
     unfold endL
     cases (walkGo ar rs st m u).1 with
     | nil => rfl
     | cons a l => simp
    refine ⟨?_, by rw [e2]; exact h2, fun h => by rw [e2]; exact h3 h⟩
    show (decide (stepAtL ar rs t _ _ = some u) && goOk ar rs u _) = true
    rw [decide_eq_true e, h1]; rfl
def endT (ar : List Int) (rs : Rules) (f : List Int) (ss : List StepL) : List Int := if walkOkL ar rs f ss = true then endL f ss else []
theorem walkGo_to : ∀ (m : Nat) (t : List Int), rightB ar rs t = true → ∀ i, i < (walkGo ar rs st m t).1.length → ((walkGo ar rs st m t).1.getD i (0, 0, [])).2.2.length ≤ 60 := fun m t hr i hi => by
 have h1 := (walkGo_ok (st := st) m t hr).1
 have h2 := (goOk_now h1 hr (i + 1) (by omega)).1
 rw [nowL_succ hi] at h2
 exact (termOk_len (right_iff.1 h2).2).2
theorem gTo_bound {N : Nat} {l : List StepL} (h : ∀ i, i < l.length → (l.getD i (0, 0, [])).2.2.length ≤ N) : ∀ k, k ≤ l.length → gTo lenS l k ≤ k * N
 | 0, _ => by simp [gTo]
 | k + 1, hk => by
  have h1 := gTo_bound h k (by omega)
  have h2 := h k (by omega)
  rw [← gTo_succ ((0, 0, []) : StepL) (by omega), Nat.succ_mul]
  have : lenS (l.getD k (0, 0, [])) = (l.getD k (0, 0, [])).2.2.length := rfl
  omega
theorem walkB_bounds {n : Int} : (walkB ar rs t st n).1.length ≤ 60 ∧ (∀ i, i < (walkB ar rs t st n).2.1.length → ((walkB ar rs t st n).2.1.getD i (0, 0, [])).2.2.length ≤ 60) ∧ ((walkB ar rs t st n).2.1.flatMap flatStep).length ≤ 4000 := by
 have key : (walkB ar rs t st n).1.length ≤ 60 ∧ (∀ i, i < (walkB ar rs t st n).2.1.length → ((walkB ar rs t st n).2.1.getD i (0, 0, [])).2.2.length ≤ 60) := by
  cases hw : wOk ar rs t st n with
  | false => rw [walkB_no hw]; exact ⟨by simp, fun i hi => by simp at hi⟩
  | true =>
   have hr : rightB ar rs t = true := by simp only [wOk, Bool.and_eq_true] at hw; exact hw.1.1
   rw [walkB_yes hw]
   exact ⟨(termOk_len (right_iff.1 hr).2).2, walkGo_to n.toNat t hr⟩
 refine ⟨key.1, key.2, ?_⟩
 have h1 := flatStep_len (walkB ar rs t st n).2.1
 have h2 := gTo_bound key.2 _ (Nat.le_refl _)
 have h3 := walkB_len (ar := ar) (rs := rs) (t := t) (st := st) (n := n)
 have h4 : (walkB ar rs t st n).2.1.length * 60 ≤ 60 * 60 := Nat.mul_le_mul_right 60 h3
 omega
theorem endT_len : (endT ar rs f ss).length ≤ 60 := by
 unfold endT
 split
 ·rename_i h; exact (termOk_len (right_iff.1 (walkOk_end h)).2).2
 ·simp
end
end Go.Proofs.YtenomejgjcpbdaaGreat.M
set_option linter.unusedSimpArgs false
set_option linter.unusedVariables false
namespace Go.Proofs.YtenomejgjcpbdaaGreat.X
open Go
def FR (r : Option Nat) : Fence := { Fence.wide with round := r }
theorem callsIn_FR {r : Option Nat} {n : Nat} {P : Program} {f : FuncId} {args : Array Value} {w : World} {R : Ending → World → Prop} (h : Calls P f args w R) : CallsIn (FR r) n P f args w R := by
 have h1 : CallsIn Fence.wide n P f args w R := callsIn_wide.2 h
 exact h1
structure RepD (n : Nat) (d : List Deferred) (a : Act) (ρ : Env) : Prop where
 size : a.tmps.size = n
 defers : a.defers = d
 get : ∀ i, a.tmps.getD i undef = ρ i
theorem RepD.eval {n : Nat} {d : List Deferred} {a : Act} {ρ : Env} (h : RepD n d a ρ) : a.eval = evO ρ := by
 funext x
 cases x <;> first | rfl | exact h.get _
theorem RepD.of {n : Nat} {a : Act} {ρ : Env} (h : RepD n [] a ρ) : Rep n a ρ := ⟨h.size, h.defers, h.get⟩
theorem RepD.put {n : Nat} {ds : List Deferred} {a : Act} {ρ : Env} (h : RepD n ds a ρ) {d : Option Tmp} (hd : dOk n d = true) (v : Value) : RepD n ds (a.put d v) (putE ρ d v) := by
 have h' : Rep n { a with defers := [] } ρ := ⟨h.size, rfl, h.get⟩
 have := h'.put hd v
 refine ⟨?_, ?_, ?_⟩
 ·have := this.size; cases d <;> exact this
 ·cases d <;> exact h.defers
 ·have := this.get; cases d <;> exact this
section
variable {P : Program} {n : Nat} {r0 : Option Nat} {d0 : List Deferred} {ops : Array Oper} {l : List Oper} {Q : QX} {ρ : Env} {F : FH} {L : List HP}
theorem wpIn_of_XOp {o : Oper} {K : Post} {a : Act} {w : World} {Q : Exit → Act → World → Prop} {N : Act → World → Prop}
  (h : XOp P o ρ F L K) (r : RepD n d0 a ρ) (H : Holds F L w) (hd : dOk n o.dst = true) (hn : ∀ c, o.op ≠ .defer c)
  (hN : ∀ v F' L' w', F ≤ F' → Holds F' L' w' → K v F' L' → RepD n d0 (a.put o.dst v) (putE ρ o.dst v) → N (a.put o.dst v) w') : o.wpIn (FR r0) 9 P a w N Q := by
 refine ⟨fun _ _ => trivial, ?_⟩
 rw [Oper.semAt_eq _ _ _ hn, r.eval]
 rcases h w H with ⟨v, w', F', L', h1, h2, h3, h4⟩ | ⟨w', F', L', h1, h2, h3, h4⟩ | ⟨f, args, w', h1, h2⟩
 ·rw [h1]; exact hN v F' L' w' h2 h3 h4 (r.put hd v)
 ·rw [h1]; exact hN undef F' L' w' h2 h3 h4 (r.put hd undef)
 ·rw [h1]
  refine ⟨fun _ => by decide, callsIn_FR (h2.mono fun e w'' ⟨v, F', L', he, hle, hH, hk⟩ => ?_)⟩
  subst he
  exact hN v F' L' w'' hle hH hk (r.put hd v)
def Yld (P : Program) (l : Nat) (args : List Value) (F : FH) (L : List HP) (K : Post) : Prop :=
 ∀ w, Holds F L w → YieldAt Fence.wide 9 P l args.toArray w fun e w' => ∃ v F' L', e = .returned v ∧ F ≤ F' ∧ Holds F' L' w' ∧ K v F' L'
theorem Yld.mono {k : Nat} {args : List Value} {K K' : Post} (h : Yld P k args F L K) (hk : ∀ v F' L', F ≤ F' → K v F' L' → K' v F' L') : Yld P k args F L K' := by
 intro w H
 obtain ⟨fn, tmps, assign, body, hy, hr⟩ := h w H
 exact ⟨fn, tmps, assign, body, hy, hr.mono fun e w' ⟨v, F', L', a, b, c, d⟩ => ⟨v, F', L', a, b, c, hk _ _ _ b d⟩⟩
theorem Yld.weaken {k : Nat} {args : List Value} {K : Post} {L' : List HP} (s : Sub L L') (h : Yld P k args F L' K) : Yld P k args F L K := fun w H => h w (s.holds H)
end
section
variable {P : Program} {n : Nat} {r0 : Option Nat} {d0 : List Deferred} {Q : QX} {ρ : Env} {F : FH} {L : List HP}
end
def fin (P : Program) (F0 : FH) (Q : Post) : Ending → World → Prop := fun e w' => ∃ v F' L', e = .returned v ∧ F0 ≤ F' ∧ Holds F' L' w' ∧ Q v F' L'
section
variable {P : Program} {fn : Func} {Q : Post} {ρ : Env} {F F0 : FH} {L : List HP}
end
end Go.Proofs.YtenomejgjcpbdaaGreat.X
set_option linter.unusedSimpArgs false
set_option linter.unusedVariables false
namespace Go.Proofs.YtenomejgjcpbdaaGreat.X
open Go
end Go.Proofs.YtenomejgjcpbdaaGreat.X
set_option linter.unusedSimpArgs false
set_option linter.unusedVariables false
namespace Go.Proofs.YtenomejgjcpbdaaGreat.X
open Go
theorem Rd.all {F : FH} {L : List HP} {v : Value} {k : Nat} {es : List Value} (h : ∀ j u, es[j]? = some u → Rd F L (elemA v (k + j)) u) : ∀ i u, es[i]? = some u → Rd F L ((elemA v k).add i) u := by
 intro i u hu
 rw [elemA_add]
 exact h i u hu
abbrev FoundT := List Int × Int × StepT × Int
def FoundF (F : FH) (es : List Value) (x : FoundT) : Prop := ∃ a0 a4, es = [a0, .int .i64 x.2.1, .int .i64 x.2.2.1.1, .int .i64 x.2.2.1.2.1, a4, .int .i64 x.2.2.2] ∧ IntsF F a0 x.1 ∧ IntsF F a4 x.2.2.1.2.2
theorem FoundF.mono {F F' : FH} (le : F ≤ F') (es : List Value) (x : FoundT) (h : FoundF F es x) : FoundF F' es x := by
 obtain ⟨a0, a4, e, h0, h4⟩ := h
 exact ⟨a0, a4, e, h0.mono le, h4.mono le⟩
def FoundsF (F : FH) (v : Value) (xs : List FoundT) (cs : List Value) : Prop := ArrF F 6 v xs.length cs ∧ CO 6 FoundF ([], 0, (0, 0, []), 0) F cs xs
theorem FoundsF.mono {F F' : FH} {v : Value} {xs : List FoundT} {cs : List Value} (h : FoundsF F v xs cs) (le : F ≤ F') : FoundsF F' v xs cs := ⟨h.1.mono le, CO.mono (FoundF.mono le) h.2⟩
theorem FoundsF.slv {F : FH} {L : List HP} {v : Value} {xs : List FoundT} {cs : List Value} (h : FoundsF F v xs cs) : SlV F L v xs.length := SlV.arr h.1
theorem FoundsF.isSl {F : FH} {v : Value} {xs : List FoundT} {cs : List Value} (h : FoundsF F v xs cs) : IsSl v := h.1.isSl
theorem FoundsF.rd {F : FH} {v : Value} {xs : List FoundT} {cs : List Value} (h : FoundsF F v xs cs) {i : Nat} (hi : i < xs.length) : ∃ a0 a4, IntsF F a0 (xs.getD i ([], 0, (0, 0, []), 0)).1 ∧ IntsF F a4 (xs.getD i ([], 0, (0, 0, []), 0)).2.2.1.2.2 ∧ (∀ L j u, ([a0, .int .i64 (xs.getD i ([], 0, (0, 0, []), 0)).2.1, .int .i64 (xs.getD i ([], 0, (0, 0, []), 0)).2.2.1.1, .int .i64 (xs.getD i ([], 0, (0, 0, []), 0)).2.2.1.2.1, a4, .int .i64 (xs.getD i ([], 0, (0, 0, []), 0)).2.2.2] : List Value)[j]? = some u → Rd F L (elemA v (i * 6 + j)) u) ∧ (∀ j u, ([a0, .int .i64 (xs.getD i ([], 0, (0, 0, []), 0)).2.1, .int .i64 (xs.getD i ([], 0, (0, 0, []), 0)).2.2.1.1, .int .i64 (xs.getD i ([], 0, (0, 0, []), 0)).2.2.1.2.1, a4, .int .i64 (xs.getD i ([], 0, (0, 0, []), 0)).2.2.2] : List Value)[j]? = some u → cs[i * 6 + j]? = some u) := by
 obtain ⟨es, h1, h2, a0, a4, rfl, h0, h4⟩ := h.2.2 i hi
 refine ⟨a0, a4, h0, h4, fun L j u hu => ?_, fun j u hu => ?_⟩
 ·have := Rd.arrN (L := L) (k := i * 6) (vs := [a0, .int .i64 (xs.getD i ([], 0, (0, 0, []), 0)).2.1, .int .i64 (xs.getD i ([], 0, (0, 0, []), 0)).2.2.1.1, .int .i64 (xs.getD i ([], 0, (0, 0, []), 0)).2.2.1.2.1, a4, .int .i64 (xs.getD i ([], 0, (0, 0, []), 0)).2.2.2]) h.1 (by rw [h1]; exact h2) j u hu
  rwa [elemA_add] at this
 ·rw [← h2, List.getElem?_take] at hu
  split at hu
  ·rwa [List.getElem?_drop] at hu
  ·cases hu
def FoundsC (F : FH) (cs : List Value) (xs : List FoundT) : Prop := CO 6 FoundF ([], 0, (0, 0, []), 0) F cs xs
theorem FoundsC.mono {F F' : FH} {cs : List Value} {xs : List FoundT} (h : FoundsC F cs xs) (le : F ≤ F') : FoundsC F' cs xs := CO.mono (FoundF.mono le) h
theorem FoundsC.snoc {F : FH} {cs : List Value} {xs : List FoundT} {a0 a4 : Value} {y0 : List Int} {y1 : Int} {y2 : Int} {y3 : Int} {y4 : List Int} {y5 : Int} (h : FoundsC F cs xs) (h0 : IntsF F a0 y0) (h4 : IntsF F a4 y4) : FoundsC F (cs ++ [a0, .int .i64 y1, .int .i64 y2, .int .i64 y3, a4, .int .i64 y5]) (xs ++ [(y0, y1, (y2, y3, y4), y5)]) := CO.snoc h rfl ⟨a0, a4, rfl, h0, h4⟩
theorem FoundsC.get {F : FH} {cs : List Value} {xs : List FoundT} (h : FoundsC F cs xs) {i : Nat} (hi : i < xs.length) : ∃ a0 a4, IntsF F a0 (xs.getD i ([], 0, (0, 0, []), 0)).1 ∧ IntsF F a4 (xs.getD i ([], 0, (0, 0, []), 0)).2.2.1.2.2 ∧ (∀ j u, ([a0, .int .i64 (xs.getD i ([], 0, (0, 0, []), 0)).2.1, .int .i64 (xs.getD i ([], 0, (0, 0, []), 0)).2.2.1.1, .int .i64 (xs.getD i ([], 0, (0, 0, []), 0)).2.2.1.2.1, a4, .int .i64 (xs.getD i ([], 0, (0, 0, []), 0)).2.2.2] : List Value)[j]? = some u → cs[i * 6 + j]? = some u) := by
 obtain ⟨es, hl, ⟨a0, a4, rfl, h0, h4⟩, hr⟩ := CO.get h hi
 exact ⟨a0, a4, h0, h4, hr⟩
theorem FoundsC.fz {F : FH} {cs : List Value} {xs : List FoundT} {E : TypeId} {v : Value} {n : Nat} (h : FoundsC F cs xs) (hn : n = xs.length) (hf : Fz (slH E 6 v n cs) F) : FoundsF F v xs cs := by
 subst hn
 exact ⟨hf.sl, h⟩
abbrev MoveT := Int × Int × Bool × List Int
def MoveF (F : FH) (es : List Value) (x : MoveT) : Prop := ∃ a3, es = [.int .i64 x.1, .int .i64 x.2.1, .bool x.2.2.1, a3] ∧ IntsF F a3 x.2.2.2
theorem MoveF.mono {F F' : FH} (le : F ≤ F') (es : List Value) (x : MoveT) (h : MoveF F es x) : MoveF F' es x := by
 obtain ⟨a3, e, h3⟩ := h
 exact ⟨a3, e, h3.mono le⟩
def MovesF : FH → Value → List MoveT → Prop := SlOf 4 MoveF (0, 0, false, [])
theorem MovesF.mono {F F' : FH} {v : Value} {xs : List MoveT} (h : MovesF F v xs) (le : F ≤ F') : MovesF F' v xs := SlOf.mono (MoveF.mono le) h le
theorem MovesF.slv {F : FH} {L : List HP} {v : Value} {xs : List MoveT} (h : MovesF F v xs) : SlV F L v xs.length := SlOf.slv h
theorem MovesF.isSl {F : FH} {v : Value} {xs : List MoveT} (h : MovesF F v xs) : IsSl v := by obtain ⟨_, h, _⟩ := h; exact h.isSl
theorem MovesF.rd {F : FH} {v : Value} {xs : List MoveT} (h : MovesF F v xs) {i : Nat} (hi : i < xs.length) : ∃ a3, IntsF F a3 (xs.getD i (0, 0, false, [])).2.2.2 ∧ (∀ L j u, ([.int .i64 (xs.getD i (0, 0, false, [])).1, .int .i64 (xs.getD i (0, 0, false, [])).2.1, .bool (xs.getD i (0, 0, false, [])).2.2.1, a3] : List Value)[j]? = some u → Rd F L (elemA v (i * 4 + j)) u) ∧ True := by
 obtain ⟨es, hl, ⟨a3, rfl, h3⟩, hr⟩ := SlOf.get h hi
 exact ⟨a3, h3, hr, trivial⟩
def MovesC (F : FH) (cs : List Value) (xs : List MoveT) : Prop := CO 4 MoveF (0, 0, false, []) F cs xs
theorem MovesC.mono {F F' : FH} {cs : List Value} {xs : List MoveT} (h : MovesC F cs xs) (le : F ≤ F') : MovesC F' cs xs := CO.mono (MoveF.mono le) h
theorem MovesC.snoc {F : FH} {cs : List Value} {xs : List MoveT} {a3 : Value} {y0 : Int} {y1 : Int} {y2 : Bool} {y3 : List Int} (h : MovesC F cs xs) (h3 : IntsF F a3 y3) : MovesC F (cs ++ [.int .i64 y0, .int .i64 y1, .bool y2, a3]) (xs ++ [(y0, y1, y2, y3)]) := CO.snoc h rfl ⟨a3, rfl, h3⟩
theorem MovesC.get {F : FH} {cs : List Value} {xs : List MoveT} (h : MovesC F cs xs) {i : Nat} (hi : i < xs.length) : ∃ a3, IntsF F a3 (xs.getD i (0, 0, false, [])).2.2.2 ∧ (∀ j u, ([.int .i64 (xs.getD i (0, 0, false, [])).1, .int .i64 (xs.getD i (0, 0, false, [])).2.1, .bool (xs.getD i (0, 0, false, [])).2.2.1, a3] : List Value)[j]? = some u → cs[i * 4 + j]? = some u) := by
 obtain ⟨es, hl, ⟨a3, rfl, h3⟩, hr⟩ := CO.get h hi
 exact ⟨a3, h3, hr⟩
abbrev PolyT := Int × List Int
def PolyF (F : FH) (es : List Value) (x : PolyT) : Prop := ∃ a1, es = [.int .i64 x.1, a1] ∧ IntsF F a1 x.2
theorem PolyF.mono {F F' : FH} (le : F ≤ F') (es : List Value) (x : PolyT) (h : PolyF F es x) : PolyF F' es x := by
 obtain ⟨a1, e, h1⟩ := h
 exact ⟨a1, e, h1.mono le⟩
def PolysF : FH → Value → List PolyT → Prop := SlOf 2 PolyF (0, [])
theorem PolysF.mono {F F' : FH} {v : Value} {xs : List PolyT} (h : PolysF F v xs) (le : F ≤ F') : PolysF F' v xs := SlOf.mono (PolyF.mono le) h le
theorem PolysF.slv {F : FH} {L : List HP} {v : Value} {xs : List PolyT} (h : PolysF F v xs) : SlV F L v xs.length := SlOf.slv h
theorem PolysF.isSl {F : FH} {v : Value} {xs : List PolyT} (h : PolysF F v xs) : IsSl v := by obtain ⟨_, h, _⟩ := h; exact h.isSl
theorem PolysF.rd {F : FH} {v : Value} {xs : List PolyT} (h : PolysF F v xs) {i : Nat} (hi : i < xs.length) : ∃ a1, IntsF F a1 (xs.getD i (0, [])).2 ∧ (∀ L j u, ([.int .i64 (xs.getD i (0, [])).1, a1] : List Value)[j]? = some u → Rd F L (elemA v (i * 2 + j)) u) ∧ True := by
 obtain ⟨es, hl, ⟨a1, rfl, h1⟩, hr⟩ := SlOf.get h hi
 exact ⟨a1, h1, hr, trivial⟩
def PolysC (F : FH) (cs : List Value) (xs : List PolyT) : Prop := CO 2 PolyF (0, []) F cs xs
theorem PolysC.mono {F F' : FH} {cs : List Value} {xs : List PolyT} (h : PolysC F cs xs) (le : F ≤ F') : PolysC F' cs xs := CO.mono (PolyF.mono le) h
theorem PolysC.snoc {F : FH} {cs : List Value} {xs : List PolyT} {a1 : Value} {y0 : Int} {y1 : List Int} (h : PolysC F cs xs) (h1 : IntsF F a1 y1) : PolysC F (cs ++ [.int .i64 y0, a1]) (xs ++ [(y0, y1)]) := CO.snoc h rfl ⟨a1, rfl, h1⟩
theorem PolysC.get {F : FH} {cs : List Value} {xs : List PolyT} (h : PolysC F cs xs) {i : Nat} (hi : i < xs.length) : ∃ a1, IntsF F a1 (xs.getD i (0, [])).2 ∧ (∀ j u, ([.int .i64 (xs.getD i (0, [])).1, a1] : List Value)[j]? = some u → cs[i * 2 + j]? = some u) := by
 obtain ⟨es, hl, ⟨a1, rfl, h1⟩, hr⟩ := CO.get h hi
 exact ⟨a1, h1, hr⟩
abbrev LineT := Int × List (List Int) × List Int
def LineF (F : FH) (es : List Value) (x : LineT) : Prop := ∃ a1 a2, es = [.int .i64 x.1, a1, a2] ∧ RowsF F a1 x.2.1 ∧ IntsF F a2 x.2.2
theorem LineF.mono {F F' : FH} (le : F ≤ F') (es : List Value) (x : LineT) (h : LineF F es x) : LineF F' es x := by
 obtain ⟨a1, a2, e, h1, h2⟩ := h
 exact ⟨a1, a2, e, h1.mono le, h2.mono le⟩
def LinesF : FH → Value → List LineT → Prop := SlOf 3 LineF (0, [], [])
theorem LinesF.mono {F F' : FH} {v : Value} {xs : List LineT} (h : LinesF F v xs) (le : F ≤ F') : LinesF F' v xs := SlOf.mono (LineF.mono le) h le
theorem LinesF.slv {F : FH} {L : List HP} {v : Value} {xs : List LineT} (h : LinesF F v xs) : SlV F L v xs.length := SlOf.slv h
theorem LinesF.isSl {F : FH} {v : Value} {xs : List LineT} (h : LinesF F v xs) : IsSl v := by obtain ⟨_, h, _⟩ := h; exact h.isSl
theorem LinesF.rd {F : FH} {v : Value} {xs : List LineT} (h : LinesF F v xs) {i : Nat} (hi : i < xs.length) : ∃ a1 a2, RowsF F a1 (xs.getD i (0, [], [])).2.1 ∧ IntsF F a2 (xs.getD i (0, [], [])).2.2 ∧ (∀ L j u, ([.int .i64 (xs.getD i (0, [], [])).1, a1, a2] : List Value)[j]? = some u → Rd F L (elemA v (i * 3 + j)) u) ∧ True := by
 obtain ⟨es, hl, ⟨a1, a2, rfl, h1, h2⟩, hr⟩ := SlOf.get h hi
 exact ⟨a1, a2, h1, h2, hr, trivial⟩
def LinesC (F : FH) (cs : List Value) (xs : List LineT) : Prop := CO 3 LineF (0, [], []) F cs xs
theorem LinesC.mono {F F' : FH} {cs : List Value} {xs : List LineT} (h : LinesC F cs xs) (le : F ≤ F') : LinesC F' cs xs := CO.mono (LineF.mono le) h
theorem LinesC.snoc {F : FH} {cs : List Value} {xs : List LineT} {a1 a2 : Value} {y0 : Int} {y1 : List (List Int)} {y2 : List Int} (h : LinesC F cs xs) (h1 : RowsF F a1 y1) (h2 : IntsF F a2 y2) : LinesC F (cs ++ [.int .i64 y0, a1, a2]) (xs ++ [(y0, y1, y2)]) := CO.snoc h rfl ⟨a1, a2, rfl, h1, h2⟩
theorem LinesC.get {F : FH} {cs : List Value} {xs : List LineT} (h : LinesC F cs xs) {i : Nat} (hi : i < xs.length) : ∃ a1 a2, RowsF F a1 (xs.getD i (0, [], [])).2.1 ∧ IntsF F a2 (xs.getD i (0, [], [])).2.2 ∧ (∀ j u, ([.int .i64 (xs.getD i (0, [], [])).1, a1, a2] : List Value)[j]? = some u → cs[i * 3 + j]? = some u) := by
 obtain ⟨es, hl, ⟨a1, a2, rfl, h1, h2⟩, hr⟩ := CO.get h hi
 exact ⟨a1, a2, h1, h2, hr⟩
abbrev CRuleT := List Int × List Int × List (List Int × List Int)
def CRuleF (F : FH) (es : List Value) (x : CRuleT) : Prop := ∃ a0 a1 a2, es = [a0, a1, a2] ∧ IntsF F a0 x.1 ∧ IntsF F a1 x.2.1 ∧ PairsF F a2 x.2.2
theorem CRuleF.mono {F F' : FH} (le : F ≤ F') (es : List Value) (x : CRuleT) (h : CRuleF F es x) : CRuleF F' es x := by
 obtain ⟨a0, a1, a2, e, h0, h1, h2⟩ := h
 exact ⟨a0, a1, a2, e, h0.mono le, h1.mono le, h2.mono le⟩
def CRulesF : FH → Value → List CRuleT → Prop := SlOf 3 CRuleF ([], [], [])
theorem CRulesF.mono {F F' : FH} {v : Value} {xs : List CRuleT} (h : CRulesF F v xs) (le : F ≤ F') : CRulesF F' v xs := SlOf.mono (CRuleF.mono le) h le
theorem CRulesF.slv {F : FH} {L : List HP} {v : Value} {xs : List CRuleT} (h : CRulesF F v xs) : SlV F L v xs.length := SlOf.slv h
theorem CRulesF.isSl {F : FH} {v : Value} {xs : List CRuleT} (h : CRulesF F v xs) : IsSl v := by obtain ⟨_, h, _⟩ := h; exact h.isSl
theorem CRulesF.rd {F : FH} {v : Value} {xs : List CRuleT} (h : CRulesF F v xs) {i : Nat} (hi : i < xs.length) : ∃ a0 a1 a2, IntsF F a0 (xs.getD i ([], [], [])).1 ∧ IntsF F a1 (xs.getD i ([], [], [])).2.1 ∧ PairsF F a2 (xs.getD i ([], [], [])).2.2 ∧ (∀ L j u, ([a0, a1, a2] : List Value)[j]? = some u → Rd F L (elemA v (i * 3 + j)) u) ∧ True := by
 obtain ⟨es, hl, ⟨a0, a1, a2, rfl, h0, h1, h2⟩, hr⟩ := SlOf.get h hi
 exact ⟨a0, a1, a2, h0, h1, h2, hr, trivial⟩
def CRulesC (F : FH) (cs : List Value) (xs : List CRuleT) : Prop := CO 3 CRuleF ([], [], []) F cs xs
theorem CRulesC.mono {F F' : FH} {cs : List Value} {xs : List CRuleT} (h : CRulesC F cs xs) (le : F ≤ F') : CRulesC F' cs xs := CO.mono (CRuleF.mono le) h
theorem CRulesC.snoc {F : FH} {cs : List Value} {xs : List CRuleT} {a0 a1 a2 : Value} {y0 : List Int} {y1 : List Int} {y2 : List (List Int × List Int)} (h : CRulesC F cs xs) (h0 : IntsF F a0 y0) (h1 : IntsF F a1 y1) (h2 : PairsF F a2 y2) : CRulesC F (cs ++ [a0, a1, a2]) (xs ++ [(y0, y1, y2)]) := CO.snoc h rfl ⟨a0, a1, a2, rfl, h0, h1, h2⟩
theorem CRulesC.get {F : FH} {cs : List Value} {xs : List CRuleT} (h : CRulesC F cs xs) {i : Nat} (hi : i < xs.length) : ∃ a0 a1 a2, IntsF F a0 (xs.getD i ([], [], [])).1 ∧ IntsF F a1 (xs.getD i ([], [], [])).2.1 ∧ PairsF F a2 (xs.getD i ([], [], [])).2.2 ∧ (∀ j u, ([a0, a1, a2] : List Value)[j]? = some u → cs[i * 3 + j]? = some u) := by
 obtain ⟨es, hl, ⟨a0, a1, a2, rfl, h0, h1, h2⟩, hr⟩ := CO.get h hi
 exact ⟨a0, a1, a2, h0, h1, h2, hr⟩
end Go.Proofs.YtenomejgjcpbdaaGreat.X
set_option linter.unusedSimpArgs false
set_option linter.unusedVariables false
namespace Go.Proofs.YtenomejgjcpbdaaGreat.X
open Go
def XStepsF (F : FH) (v : Value) (xs : List StepT) (cs : List Value) : Prop := ArrF F 3 v xs.length cs ∧ StepsC F cs xs
theorem XStepsF.mono {F F' : FH} {v : Value} {xs : List StepT} {cs : List Value} (h : XStepsF F v xs cs) (le : F ≤ F') : XStepsF F' v xs cs := ⟨h.1.mono le, h.2.mono le⟩
theorem XStepsF.steps {F : FH} {v : Value} {xs : List StepT} {cs : List Value} (h : XStepsF F v xs cs) : StepsF F v xs := ⟨cs, h.1, h.2.2⟩
theorem XStepsF.slv {F : FH} {L : List HP} {v : Value} {xs : List StepT} {cs : List Value} (h : XStepsF F v xs cs) : SlV F L v xs.length := SlV.arr h.1
theorem XStepsF.isSl {F : FH} {v : Value} {xs : List StepT} {cs : List Value} (h : XStepsF F v xs cs) : IsSl v := h.1.isSl
theorem XStepsF.rd {F : FH} {v : Value} {xs : List StepT} {cs : List Value} (h : XStepsF F v xs cs) {i : Nat} (hi : i < xs.length) : ∃ c, IntsF F c (xs.getD i (0, 0, [])).2.2 ∧ (∀ L, Rd F L (elemA v (i * 3)) (.int .i64 (xs.getD i (0, 0, [])).1)) ∧ (∀ L, Rd F L (elemA v (i * 3 + 1)) (.int .i64 (xs.getD i (0, 0, [])).2.1)) ∧ (∀ L, Rd F L (elemA v (i * 3 + 2)) c) ∧ cs[i * 3 + 2]? = some c := by
 obtain ⟨es, h1, h2, c, rfl, hc⟩ := h.2.2 i hi
 have hq : ∀ j u, ([.int .i64 (xs.getD i (0, 0, [])).1, .int .i64 (xs.getD i (0, 0, [])).2.1, c] : List Value)[j]? = some u → cs[i * 3 + j]? = some u := by
  intro j u hu
  rw [← h2, List.getElem?_take] at hu
  split at hu
  ·rwa [List.getElem?_drop] at hu
  ·cases hu
 have hr : ∀ L j u, ([.int .i64 (xs.getD i (0, 0, [])).1, .int .i64 (xs.getD i (0, 0, [])).2.1, c] : List Value)[j]? = some u → Rd F L (elemA v (i * 3 + j)) u := by
  intro L j u hu
  have := Rd.arrN (L := L) (k := i * 3) (vs := [.int .i64 (xs.getD i (0, 0, [])).1, .int .i64 (xs.getD i (0, 0, [])).2.1, c]) h.1 (by rw [h1]; exact h2) j u hu
  rwa [elemA_add] at this
 exact ⟨c, hc, fun L => by simpa using hr L 0 _ rfl, fun L => hr L 1 _ rfl, fun L => hr L 2 _ rfl, hq 2 _ rfl⟩
section
variable {F F' : FH} {A B M : List HP} {h : HP}
theorem Fresh.none (k : Fresh F F' (star (A ++ B))) : Fresh F F' (star A) := by
 obtain ⟨m, hm, nd, hp⟩ := k
 obtain ⟨a, b, ha, hb, rfl⟩ := star_append.1 hm
 refine ⟨a, ha, ?_, fun p h' => hp p (List.mem_append_left _ h')⟩
 rw [List.map_append] at nd
 exact (List.nodup_append.1 nd).1
end
def FrStepsF (F0 F : FH) (e : TypeId) (v : Value) (xs : List StepT) : Prop := ∃ acs Ls, XStepsF F v xs acs ∧ DeepL 3 (StepO e) acs xs Ls ∧ Fresh F0 F (star Ls)
theorem FrStepsF.mono {F0 F F' : FH} {e : TypeId} {v : Value} {xs : List StepT} (h : FrStepsF F0 F e v xs) (le : F ≤ F') : FrStepsF F0 F' e v xs := by
 obtain ⟨acs, Ls, h1, h2, h3⟩ := h
 exact ⟨acs, Ls, h1.mono le, h2, h3.mono le⟩
theorem FrStepsF.base {F0 F F1 : FH} {e : TypeId} {v : Value} {xs : List StepT} (h : FrStepsF F1 F e v xs) (le : F0 ≤ F1) : FrStepsF F0 F e v xs := by
 obtain ⟨acs, Ls, h1, h2, h3⟩ := h
 exact ⟨acs, Ls, h1, h2, h3.base le⟩
theorem FrStepsF.isSl {F0 F : FH} {e : TypeId} {v : Value} {xs : List StepT} (h : FrStepsF F0 F e v xs) : IsSl v := by
 obtain ⟨acs, Ls, h1, _, _⟩ := h
 exact h1.isSl
theorem FrStepsF.steps {F0 F : FH} {e : TypeId} {v : Value} {xs : List StepT} (h : FrStepsF F0 F e v xs) : StepsF F v xs := by
 obtain ⟨acs, Ls, h1, _, _⟩ := h
 exact h1.steps
end Go.Proofs.YtenomejgjcpbdaaGreat.X
set_option linter.unusedSimpArgs false
set_option linter.unusedVariables false
namespace Go.Proofs.YtenomejgjcpbdaaGreat.X
open Go
def FrIntsF (F0 F : FH) (e : TypeId) (v : Value) (xs : List Int) : Prop := Fresh F0 F (intsH e v xs)
theorem FrIntsF.mono {F0 F F' : FH} {e : TypeId} {v : Value} {xs : List Int} (h : FrIntsF F0 F e v xs) (le : F ≤ F') : FrIntsF F0 F' e v xs := Fresh.mono h le
theorem FrIntsF.base {F0 F F1 : FH} {e : TypeId} {v : Value} {xs : List Int} (h : FrIntsF F1 F e v xs) (le : F0 ≤ F1) : FrIntsF F0 F e v xs := Fresh.base h le
end Go.Proofs.YtenomejgjcpbdaaGreat.X
set_option linter.unusedSimpArgs false
set_option linter.unusedVariables false
namespace Go.Proofs.YtenomejgjcpbdaaGreat.X
open Go
def WJ (F0 : FH) (e ES T : TypeId) (bw : Nat) (fv : Value) (sg : List StepT) (tl : List HP) (k : Nat) (Fy : FH) (Ly : List HP) : Prop :=
 ∃ (sv : Value) (ss : List StepT) (cs : List Value) (Ls : List HP) (m : Nat), IsSl sv ∧ StepsC Fy cs ss ∧ m = ss.length ∧ DeepL 3 (StepO e) cs ss Ls ∧ Fresh F0 Fy (star Ls) ∧ ss = (sg.drop k).reverse ∧ Ly = cellsH bw [fv, sv] T :: slH ES 3 sv m cs :: tl
theorem WJ.start {F0 F : FH} {e ES T : TypeId} {bw : Nat} {fv : Value} {sg : List StepT} {tl : List HP} {b : Option Addr} : WJ F0 e ES T bw fv sg tl sg.length F (cellsH bw [fv, .slice b 0 0] T :: slH ES 3 (.slice b 0 0) 0 [] :: tl) :=
 ⟨_, [], [], [], 0, ⟨_, _, _, rfl⟩, CO.nil, rfl, .nil, .nilL, by simp, rfl⟩
end Go.Proofs.YtenomejgjcpbdaaGreat.X
set_option linter.unusedSimpArgs false
set_option linter.unusedVariables false
namespace Go.Proofs.YtenomejgjcpbdaaGreat.X
open Go
section
variable {F F' G F1 F2 : FH} {D D' : HP} {L M : List HP} {P : Program} {o : Oper} {ρ : Env} {K : Post} {e E : TypeId}
theorem Fresh.perm {A B : List HP} (h : Fresh F F' (star A)) (p : A.Perm B) : Fresh F F' (star B) := by
 obtain ⟨m, hm, nd, hp⟩ := h
 obtain ⟨l, hl, pl⟩ := star_perm p m hm
 exact ⟨l, hl, ((pl.map Prod.fst).nodup_iff).2 nd, fun q hq => hp q (pl.mem_iff.1 hq)⟩
theorem Fresh.left {A B : List HP} (h : Fresh F F' (star (A ++ B))) : Fresh F F' (star A) := h.none
theorem Fresh.right {A B : List HP} (h : Fresh F F' (star (A ++ B))) : Fresh F F' (star B) := (h.perm List.perm_append_comm).none
theorem StepsC.get {F : FH} {cs : List Value} {xs : List StepT} (h : StepsC F cs xs) {i : Nat} (hi : i < xs.length) :
  ∃ a, IntsF F a (xs.getD i (0, 0, [])).2.2 ∧ cs[i * 3]? = some (.int .i64 (xs.getD i (0, 0, [])).1) ∧ cs[i * 3 + 1]? = some (.int .i64 (xs.getD i (0, 0, [])).2.1) ∧ cs[i * 3 + 2]? = some a := by
 obtain ⟨es, _, ⟨a, rfl, ha⟩, hg⟩ := CO.get h hi
 exact ⟨a, ha, by simpa using hg 0 _ rfl, hg 1 _ rfl, hg 2 _ rfl⟩
def FreshsF (F0 F : FH) (D : HP) : Prop := Fresh F0 F D
theorem FreshsF.mono {F0 F F' : FH} {D : HP} (h : FreshsF F0 F D) (le : F ≤ F') : FreshsF F0 F' D := Fresh.mono h le
theorem slH.isSl {s n : Nat} {v : Value} {cs : List Value} {l : OH} (h : slH E s v n cs l) : IsSl v := by
 rcases h.2 with ⟨b, rfl, _⟩ | ⟨b, c, sp, rfl, _⟩
 ·exact ⟨_, _, _, rfl⟩
 ·exact ⟨_, _, _, rfl⟩
theorem Holds.openD {α : Type} {s : Nat} {R : List Value → α → List HP → Prop} {v : Value} {xs : List α} {A B : List HP} {w : World} (H : Holds F (A ++ deepH s R E v xs :: B) w) :
  ∃ cs Ls F2, F ≤ F2 ∧ IsSl v ∧ DeepL s R cs xs Ls ∧ Fresh F F2 (star Ls) ∧ Holds F2 (A ++ slH E s v xs.length cs :: B) w := by
 obtain ⟨h1, h2, h3, h4, l, hl, nd, hp⟩ := H
 obtain ⟨a, m, c, ha, ⟨cs, Ls, hd, x, y, hx, hy, rfl⟩, hc, rfl⟩ := star_mid.1 hl
 have H2 : Holds F ((A ++ [slH E s v xs.length cs]) ++ star Ls :: B) w := ⟨h1, h2, h3, h4, (a ++ x) ++ (y ++ c), star_append.2 ⟨a ++ x, y ++ c, star_append.2 ⟨a, x, ha, ⟨x, [], hx, rfl, by simp⟩, rfl⟩, ⟨y, c, hy, hc, rfl⟩, rfl⟩, by simpa using nd, fun p hq => hp p (by simpa using hq)⟩
 obtain ⟨F2, le, hz, H3, _⟩ := H2.lendF
 exact ⟨cs, Ls, F2, le, hx.isSl, hd, hz, by simpa using H3⟩
theorem XL.openD {n : Nat} {ops : Array Oper} {l : List Oper} {Q : QX} {α : Type} {s : Nat} {R : List Value → α → List HP → Prop} {v : Value} {xs : List α} (A B : List HP) (hL : L = A ++ deepH s R E v xs :: B)
  (H : ∀ cs Ls F2, F ≤ F2 → IsSl v → DeepL s R cs xs Ls → Fresh F F2 (star Ls) → XL P n ops l Q ρ F2 (A ++ slH E s v xs.length cs :: B)) : XL P n ops l Q ρ F L := by
 subst hL
 intro ok a w r Hw
 obtain ⟨cs, Ls, F2, le, hs, hd, hz, H'⟩ := Hw.openD
 exact wpList_mono (fun _ _ _ q => low_le le q) _ _ _ (H cs Ls F2 le hs hd hz ok a w r H')
end
end Go.Proofs.YtenomejgjcpbdaaGreat.X
set_option linter.unusedSimpArgs false
set_option linter.unusedVariables false
namespace Go.Proofs.YtenomejgjcpbdaaGreat.X
open Go
section
variable {F F' G : FH} {e E : TypeId} {v : Value}
def MoveO (e : TypeId) (es : List Value) (x : MoveT) (K : List HP) : Prop := ∃ c, es = [.int .i64 x.1, .int .i64 x.2.1, .bool x.2.2.1, c] ∧ K = [intsH e c x.2.2.2]
abbrev movesD (e E : TypeId) (v : Value) (xs : List MoveT) : HP := deepH 4 (MoveO e) E v xs
theorem MoveO.fz (es : List Value) (x : MoveT) (K : List HP) (h : MoveO e es x K) (hz : ∃ l, star K l ∧ ∀ p ∈ l, F.cells p.1 = some p.2) : MoveF F es x := by
 obtain ⟨c, rfl, rfl⟩ := h
 exact ⟨c, rfl, intsH.fz (E := e) (frozen_star hz _ (by simp))⟩
theorem movesD.fz {xs : List MoveT} (h : Fz (movesD e E v xs) F) : MovesF F v xs := deepH.fz MoveO.fz h
theorem nilChain : star [intsH e (.slice none 0 0) [], movesD e E (.slice none 0 0) []] [] := ⟨[], [], nilLeaf, ⟨[], [], ⟨[], [], DeepL.nil, [], [], slH_nil E 4 none, rfl, rfl⟩, rfl, rfl⟩, rfl⟩
end
def WJM (F0 : FH) (e ES T : TypeId) (bw : Nat) (fv : Value) (tk : Nat → List MoveT) (tl : List HP) (k : Nat) (Fy : FH) (Ly : List HP) : Prop :=
 ∃ (sv : Value) (ms : List MoveT) (cs : List Value) (Ls : List HP) (m : Nat), IsSl sv ∧ MovesC Fy cs ms ∧ m = ms.length ∧ DeepL 4 (MoveO e) cs ms Ls ∧ Fresh F0 Fy (star Ls) ∧ ms = tk k ∧ Ly = cellsH bw [fv, sv] T :: slH ES 4 sv m cs :: tl
theorem WJM.start {F0 F : FH} {e ES T : TypeId} {bw k : Nat} {fv : Value} {tk : Nat → List MoveT} {tl : List HP} {b : Option Addr} (h : tk k = []) : WJM F0 e ES T bw fv tk tl k F (cellsH bw [fv, .slice b 0 0] T :: slH ES 4 (.slice b 0 0) 0 [] :: tl) :=
 ⟨_, [], [], [], 0, ⟨_, _, _, rfl⟩, CO.nil, rfl, .nil, .nilL, h.symm, rfl⟩
section
variable {P : Program} {ρ : Env} {F : FH} {L : List HP} {K : Post} {d : Option Tmp} {ty : TypeId} {pos : String} {af : Array Edge} {g : Option (Nat × Bool)}
theorem XOp.remC {x y : Operand} {t u : TypeId} {k : IntKind} {a b : Int} (hx : evO ρ x = .int k a) (hy : evO ρ y = .int k b) (h0 : 0 ≤ a) (hb : b ≠ 0) (kk : K (.int k (a % b)) F L) : XOp P ⟨d, .binOp .rem t x y u, ty, pos, af, g⟩ ρ F L K :=
 XOp.value (fun w _ => by simp [execOp, hx, hy, eqGuard, binOp, Op.intDiv, hb, IntWalk.rem_in _ _ h0]) kk
end
theorem StepsC.ones {F : FH} {cs : List Value} {xs : List StepT} (h : StepsC F cs xs) : ∀ u ∈ cs, u.oneCell' = true := by
 intro u hu
 obtain ⟨q, hq, rfl⟩ := List.getElem_of_mem hu
 have hl := h.1
 obtain ⟨es, h1, ⟨c, rfl, hc⟩, hg⟩ := CO.get h (i := q / 3) (by omega)
 have hj : q % 3 < 3 := Nat.mod_lt _ (by decide)
 have e : q / 3 * 3 + q % 3 = q := by omega
 have hx : ∀ v, [Value.int .i64 (xs.getD (q / 3) (0, 0, [])).1, .int .i64 (xs.getD (q / 3) (0, 0, [])).2.1, c][q % 3]? = some v → cs[q] = v := fun v hv => by
  have := hg (q % 3) v hv
  rw [e, List.getElem?_eq_getElem hq] at this
  exact Option.some.inj this
 obtain ⟨b, n, k, rfl⟩ := IntsF.isSl hc
 match hm : q % 3, hj with
 | 0, _ => rw [hx _ (by rw [hm]; rfl)]; rfl
 | 1, _ => rw [hx _ (by rw [hm]; rfl)]; rfl
 | 2, _ => rw [hx _ (by rw [hm]; rfl)]; rfl
end Go.Proofs.YtenomejgjcpbdaaGreat.X
set_option linter.unusedSimpArgs false
set_option linter.unusedVariables false
namespace Go.Proofs.YtenomejgjcpbdaaGreat.M
section
variable {ar : List Int} {rs : Rules} {a b t : List Int} {ts : RowL} {n : Int} {m k : Nat}
end
end Go.Proofs.YtenomejgjcpbdaaGreat.M
set_option linter.unusedSimpArgs false
set_option linter.unusedVariables false
namespace Go.Proofs.YtenomejgjcpbdaaGreat.M
section
variable {α : Type} {q : α → Bool} {l : List α} {d : α} {k : Nat}
def badG (q : α → Bool) (l : List α) : Int := match l.findIdx? (fun t => !q t) with | some i => i | none => -1
theorem badG_at (d : α) (hk : k < l.length) (h : q (l.getD k d) = false) (hall : ∀ i, i < k → q (l.getD i d) = true) : badG q l = k := by
 unfold badG
 have : l.findIdx? (fun t => !q t) = some k := by
  rw [List.findIdx?_eq_some_iff_getElem]
  refine ⟨hk, by simpa [List.getD, hk] using h, fun j hj => ?_⟩
  have := hall j hj
  simpa [List.getD, Nat.lt_trans hj hk] using this
 rw [this]
theorem badG_none (d : α) (hall : ∀ i, i < l.length → q (l.getD i d) = true) : badG q l = -1 := by
 unfold badG
 have : l.findIdx? (fun t => !q t) = none := by
  rw [List.findIdx?_eq_none_iff]
  intro x hx
  obtain ⟨i, hi, rfl⟩ := List.getElem_of_mem hx
  simpa [List.getD, hi] using hall i hi
 rw [this]
theorem badG_iff : (badG q l ≥ 0) ↔ l.all q = false := by
 unfold badG
 cases h : l.findIdx? (fun t => !q t) with
 | none =>
  rw [List.findIdx?_eq_none_iff] at h
  have : l.all q = true := List.all_eq_true.2 fun x hx => by simpa using h x hx
  simp [this]
 | some i =>
  rw [List.findIdx?_eq_some_iff_getElem] at h
  obtain ⟨hi, h1, _⟩ := h
  have : l.all q = false := by
   rw [List.all_eq_false]
   exact ⟨_, List.getElem_mem hi, by simpa using h1⟩
  simp [this]
theorem all_getD_iff (d : α) : l.all q = true ↔ ∀ i, i < l.length → q (l.getD i d) = true := by
 rw [List.all_eq_true]
 refine ⟨fun h i hi => h _ (by simp [List.getD, hi]), fun h x hx => ?_⟩
 obtain ⟨i, hi, rfl⟩ := List.getElem_of_mem hx
 simpa [List.getD, hi] using h i hi
theorem all_fail (d : α) (hk : k < l.length) (h : q (l.getD k d) = false) : l.all q = false := by
 cases hx : l.all q with
 | false => rfl
 | true => have := (all_getD_iff d).1 hx k hk; rw [h] at this; cases this
end
section
variable {ar : List Int} {rs es : Rules} {a b : List Int} {n : Int} {m k : Nat}
def eqOkL (ar : List Int) (e : List Int × List Int) : Bool := termOk ar e.1 && termOk ar e.2
def eqsOkL (ar : List Int) (es : Rules) : Bool := sigOk ar && decide (es.length ≤ 12) && es.all (eqOkL ar)
theorem eqsOk_len (h : eqsOkL ar es = true) : es.length ≤ 12 := by
 unfold eqsOkL at h
 simp only [Bool.and_eq_true, decide_eq_true_eq] at h
 exact h.1.2
end
end Go.Proofs.YtenomejgjcpbdaaGreat.M
set_option linter.unusedSimpArgs false
set_option linter.unusedVariables false
namespace Go.Proofs.YtenomejgjcpbdaaGreat.M
abbrev StepV := Int × Int × List Int
def stepOne (ar : List Int) (rs : Rules) (t : List Int) (p r : Nat) : List StepV := match stepL ar rs t p r with | some u => [((p : Int), (r : Int), u)] | none => []
def stepsRow (ar : List Int) (rs : Rules) (t : List Int) (p k : Nat) : List StepV := (List.range k).flatMap (stepOne ar rs t p)
def stepsTo (ar : List Int) (rs : Rules) (t : List Int) (p : Nat) : List StepV := (List.range p).flatMap fun q => stepsRow ar rs t q rs.length
def stepsL (ar : List Int) (rs : Rules) (t : List Int) : List StepV := stepsTo ar rs t t.length
section
variable {ar t : List Int} {rs : Rules} {p r k : Nat} {u : List Int}
end
abbrev FoundV := List Int × Int × StepV × Int
def isIn (all : List FoundV) (t : List Int) : Bool := all.any fun x => decide (x.1 = t)
def start0 (t : List Int) : List FoundV := [(t, -1, (0, 0, []), 0)]
section
variable {ar t : List Int} {rs : Rules} {n d : Int} {k f : Nat} {all : List FoundV} {ss : List StepV}
abbrev EL (all : List FoundV) (k : Nat) : FoundV := all.getD k ([], 0, (0, 0, []), 0)
def AllOk (ar : List Int) (all : List FoundV) : Prop := ∀ i, i < all.length → termOk ar (EL all i).1 = true
theorem AllOk.snoc {x : FoundV} (h : AllOk ar all) (hx : termOk ar x.1 = true) : AllOk ar (all ++ [x]) := by
 intro i hi
 rw [List.length_append, List.length_singleton] at hi
 rcases Nat.lt_or_ge i all.length with h1 | h1
 ·have := h i h1; unfold EL at *; rwa [List.getD_eq_getElem?_getD, List.getElem?_append_left h1, ← List.getD_eq_getElem?_getD]
 ·obtain rfl : i = all.length := by omega
  unfold EL; simp [List.getD]; exact hx
theorem AllOk.start (h : termOk ar t = true) : AllOk ar (start0 t) := by
 intro i hi
 obtain rfl : i = 0 := by simp [start0] at hi; exact hi
 exact h
def DeepOk (n : Int) (all : List FoundV) : Prop := ∀ i, i < all.length → 0 ≤ (EL all i).2.2.2 ∧ (EL all i).2.2.2 ≤ n
theorem DeepOk.snoc {x : FoundV} (h : DeepOk n all) (hx : 0 ≤ x.2.2.2 ∧ x.2.2.2 ≤ n) : DeepOk n (all ++ [x]) := by
 intro i hi
 rw [List.length_append, List.length_singleton] at hi
 rcases Nat.lt_or_ge i all.length with h1 | h1
 ·have := h i h1; unfold EL at *; rwa [List.getD_eq_getElem?_getD, List.getElem?_append_left h1, ← List.getD_eq_getElem?_getD]
 ·obtain rfl : i = all.length := by omega
  unfold EL; simp [List.getD]; exact hx
theorem DeepOk.start (hn : 0 ≤ n) : DeepOk n (start0 t) := by
 intro i hi
 obtain rfl : i = 0 := by simp [start0] at hi; exact hi
 exact ⟨by simp [EL, start0], by simpa [EL, start0] using hn⟩
theorem isIn_some {i : Nat} {u : List Int} (hi : i < all.length) (h : (EL all i).1 = u) : isIn all u = true := by
 unfold isIn
 rw [List.any_eq_true]
 refine ⟨EL all i, ?_, by simpa using h⟩
 unfold EL; simp [List.getD, hi]
end
section
variable {all : List FoundV} {x : FoundV} {i : Nat}
theorem EL_snoc {k : Nat} (hk : k < all.length) : EL (all ++ [x]) k = EL all k := by unfold EL; rw [List.getD_eq_getElem?_getD, List.getElem?_append_left hk, ← List.getD_eq_getElem?_getD]
end
end Go.Proofs.YtenomejgjcpbdaaGreat.M
set_option linter.unusedSimpArgs false
set_option linter.unusedVariables false
namespace Go.Proofs.YtenomejgjcpbdaaGreat.M
def Link (all : List FoundV) : Prop := (0 < all.length ∧ (EL all 0).2.1 = -1 ∧ (EL all 0).2.2.2 = 0) ∧ ∀ i, 0 < i → i < all.length → 0 ≤ (EL all i).2.1 ∧ (EL all i).2.1 < (i : Int) ∧ (EL all i).2.2.2 = (EL all (EL all i).2.1.toNat).2.2.2 + 1 ∧ (EL all i).2.2.1.2.2 = (EL all i).1
def Dist (all : List FoundV) : Prop := ∀ i j, i < j → j < all.length → (EL all i).1 ≠ (EL all j).1
section
variable {ar t : List Int} {rs : Rules} {n : Int} {all : List FoundV}
theorem EL_last {x : FoundV} : EL (all ++ [x]) all.length = x := by unfold EL; simp [List.getD]
theorem Link.start : Link (start0 t) := ⟨⟨by simp [start0], rfl, rfl⟩, fun i h0 hi => by simp [start0] at hi; omega⟩
theorem Link.snoc {k : Nat} {s : StepV} {d : Int} (h : Link all) (hk : k < all.length) (hd : d = (EL all k).2.2.2) : Link (all ++ [(s.2.2, (k : Int), s, d + 1)]) := by
 obtain ⟨⟨h0, h2, h3⟩, h4⟩ := h
 refine ⟨⟨by simp, by rw [EL_snoc h0]; exact h2, by rw [EL_snoc h0]; exact h3⟩, fun i hi hl => ?_⟩
 rw [List.length_append, List.length_singleton] at hl
 rcases Nat.lt_or_ge i all.length with h | h
 ·obtain ⟨a, b, c, d⟩ := h4 i hi h
  rw [EL_snoc h]
  exact ⟨a, b, by rw [EL_snoc (by omega)]; exact c, d⟩
 ·obtain rfl : i = all.length := by omega
  rw [EL_last]
  refine ⟨by dsimp only; omega, by dsimp only; omega, ?_, rfl⟩
  dsimp only
  rw [show ((k : Int)).toNat = k from by omega, EL_snoc hk, hd]
theorem Dist.snoc {x : FoundV} (h : Dist all) (hx : isIn all x.1 = false) : Dist (all ++ [x]) := by
 intro i j hij hj
 rw [List.length_append, List.length_singleton] at hj
 rcases Nat.lt_or_ge j all.length with h1 | h1
 ·rw [EL_snoc h1, EL_snoc (by omega)]; exact h i j hij h1
 ·obtain rfl : j = all.length := by omega
  rw [EL_last, EL_snoc hij]
  intro he
  rw [isIn_some hij he] at hx
  cases hx
end
end Go.Proofs.YtenomejgjcpbdaaGreat.M
set_option linter.unusedSimpArgs false
set_option linter.unusedVariables false
namespace Go.Proofs.YtenomejgjcpbdaaGreat.M
def WalkB (f : List Int) (ss : List StepV) : Prop := f.length ≤ 60 ∧ ss.length ≤ 60 ∧ (∀ i, i < ss.length → (ss.getD i (0, 0, [])).2.2.length ≤ 60) ∧ (ss.flatMap flatStep).length ≤ 4000
theorem WalkB.nil : WalkB [] [] := ⟨by simp, by simp, fun i hi => by simp at hi, by simp⟩
theorem WalkB.mk {f : List Int} {ss : List StepV} (hf : f.length ≤ 60) (hs : ss.length ≤ 60) (h : ∀ s ∈ ss, s.2.2.length ≤ 60) : WalkB f ss := by
 have h0 : ∀ i, i < ss.length → (ss.getD i (0, 0, [])).2.2.length ≤ 60 := fun i hi => h _ (by simp [List.getD, hi])
 refine ⟨hf, hs, h0, ?_⟩
 have h1 := flatStep_len ss
 have h2 := gTo_bound h0 _ (Nat.le_refl _)
 have h4 : ss.length * 60 ≤ 60 * 60 := Nat.mul_le_mul_right 60 hs
 omega
section
variable {ar t u a b : List Int} {rs : Rules} {n : Int} {all : List FoundV} {k : Nat}
end
end Go.Proofs.YtenomejgjcpbdaaGreat.M
set_option linter.unusedSimpArgs false
set_option linter.unusedVariables false
namespace Go.Proofs.YtenomejgjcpbdaaGreat.M
abbrev MoveV := Int × Int × Bool × List Int
def mvOf (s : StepV) : MoveV := (s.2.1, s.1, false, s.2.2)
def chainL (ss : List StepV) : List MoveV := ss.map mvOf
def endM (f : List Int) (ms : List MoveV) : List Int := if ms.length = 0 then f else (ms.getD (ms.length - 1) (0, 0, false, [])).2.2.2
def flatMove (m : MoveV) : List Int := m.1 :: m.2.1 :: (if m.2.2.1 = decide ((m.2.1 + 1) % 3 = 0) then m.2.1 + 1 else m.2.1) :: m.2.2.2
section
variable {f g : List Int} {ms ns : List MoveV} {ss tt : List StepV} {j k : Nat}
theorem chainL_len : (chainL ss).length = ss.length := by simp [chainL]
theorem chainL_get (h : k < ss.length) : (chainL ss).getD k (0, 0, false, []) = mvOf (ss.getD k (0, 0, [])) := by unfold chainL; simp [List.getD, h]
theorem chainL_succ (h : k < ss.length) : chainL (ss.take (k + 1)) = chainL (ss.take k) ++ [mvOf (ss.getD k (0, 0, []))] := by
 unfold chainL
 rw [take_succ_getD (0, 0, []) h, List.map_append, List.map_singleton]
theorem endM_chain : endM f (chainL ss) = endL f ss := by
 unfold endM endL
 rw [chainL_len]
 split
 ·rfl
 ·rw [chainL_get (by omega)]; rfl
def ChainB (f : List Int) (ms : List MoveV) : Prop := f.length ≤ 60 ∧ ms.length ≤ 60 ∧ (∀ i, i < ms.length → (ms.getD i (0, 0, false, [])).2.2.2.length ≤ 60) ∧ (ms.flatMap flatMove).length ≤ 4000
theorem flatMove_len (m : MoveV) : (flatMove m).length = m.2.2.2.length + 3 := rfl
theorem flatMoves_le : ∀ {ms : List MoveV}, (∀ m ∈ ms, m.2.2.2.length ≤ 60) → (ms.flatMap flatMove).length ≤ 63 * ms.length
 | [], _ => by simp
 | m :: ms, h => by
  have h1 := flatMoves_le (ms := ms) (fun x hx => h x (List.mem_cons_of_mem _ hx))
  have h2 := h m (by simp)
  rw [List.flatMap_cons, List.length_append, flatMove_len, List.length_cons]
  omega
theorem ChainB.mk (hf : f.length ≤ 60) (hm : ms.length ≤ 60) (h : ∀ m ∈ ms, m.2.2.2.length ≤ 60) : ChainB f ms := by
 refine ⟨hf, hm, fun i hi => h _ (by simp [List.getD, hi]), ?_⟩
 have := flatMoves_le h
 omega
theorem ChainB.nil : ChainB [] [] := .mk (by simp) (by simp) (by simp)
theorem chain_mem (h : ∀ i, i < ss.length → (ss.getD i (0, 0, [])).2.2.length ≤ 60) : ∀ m ∈ chainL ss, m.2.2.2.length ≤ 60 := by
 intro m hm
 obtain ⟨s, hs, rfl⟩ := List.mem_map.1 hm
 obtain ⟨i, hi, rfl⟩ := List.getElem_of_mem hs
 have := h i hi
 simpa [mvOf, List.getD, hi] using this
end
section
variable {ar f f2 a b : List Int} {rs : Rules} {ss s2 : List StepV} {n : Int}
abbrev ChainV := List Int × List MoveV × Bool
def chainWF (ar : List Int) (rs : Rules) (f : List Int) (ss : List StepV) : ChainV := if walkOkL ar rs f ss = true then (f, chainL ss, true) else ([], [], false)
theorem chainWF_yes (h : walkOkL ar rs f ss = true) : chainWF ar rs f ss = (f, chainL ss, true) := if_pos h
theorem chainWF_no (h : walkOkL ar rs f ss = false) : chainWF ar rs f ss = ([], [], false) := if_neg (by rw [h]; simp)
theorem walkOk_bound (h : walkOkL ar rs f ss = true) : f.length ≤ 60 ∧ ss.length ≤ 60 ∧ ∀ i, i < ss.length → (ss.getD i (0, 0, [])).2.2.length ≤ 60 :=
 have h1 := walkOkL_iff.1 h
 ⟨(termOk_len (right_iff.1 h1.1).2).2, h1.2.1, fun i hi => (termOk_len (walkOk_to h hi)).2⟩
theorem chainWF_bound : ChainB (chainWF ar rs f ss).1 (chainWF ar rs f ss).2.1 := by
 unfold chainWF
 split
 ·rename_i h
  have h1 := walkOk_bound h
  exact .mk h1.1 (by rw [chainL_len]; exact h1.2.1) (chain_mem h1.2.2)
 ·exact .nil
end
end Go.Proofs.YtenomejgjcpbdaaGreat.M
set_option linter.unusedSimpArgs false
set_option linter.unusedVariables false
namespace Go.Proofs.YtenomejgjcpbdaaGreat.M
section
variable {ar : List Int} {rs : Rules} {t f u : List Int} {ss acc : List StepL} {p : Nat} {k : Nat}
end
end Go.Proofs.YtenomejgjcpbdaaGreat.M
set_option linter.unusedSimpArgs false
set_option linter.unusedVariables false
namespace Go.Proofs.YtenomejgjcpbdaaGreat.M
section
variable {ar : List Int} {rs : Rules} {t f : List Int} {ss : List StepL} {s : RowL} {p : Int}
def substOk (ar : List Int) (s : RowL) : Bool := sigOk ar && decide (s.length ≤ 24) && s.all (fun t => decide (t = []) || termOk ar t)
theorem len_nil {l : List Int} (h : ¬ ((l.length : Nat) : Int) > 0) : l = [] := List.eq_nil_of_length_eq_zero (by omega)
def loopOkL (ar : List Int) (rs : Rules) (f : List Int) (ss : List StepL) (p : Int) (s : RowL) : Bool :=
 decide (ss.length ≠ 0) && walkOkL ar rs f ss && posOk ar (endL f ss) p && substOk ar s && decide (fillL s f = some (sub ar (endL f ss) p.toNat))
theorem posOk_iff : posOk ar t p = true ↔ termOk ar t = true ∧ 0 ≤ p ∧ p < (t.length : Int) := by simp [posOk]
theorem fill_eq {v : List Int} (h : (fillL s f).isSome = true) : fillL s f = some v ↔ (fillL s f).getD [] = v := by
 obtain ⟨x, hx⟩ := Option.isSome_iff_exists.1 h
 rw [hx]; simp
end
end Go.Proofs.YtenomejgjcpbdaaGreat.M
set_option linter.unusedSimpArgs false
set_option linter.unusedVariables false
namespace Go.Proofs.YtenomejgjcpbdaaGreat.M
def argsGo (ar t : List Int) : Nat → Nat → List Int
 | 0, _ => []
 | n + 1, q => (q : Int) :: argsGo ar t n (endN ar t q)
def argsL (ar t : List Int) (p : Nat) : List Int := argsGo ar t (arity ar (t.getD p 0)).toNat (p + 1)
def Stand (ar t : List Int) (n q e : Nat) : Prop := endGo ar (t.drop q) n = some (e - q) ∧ q ≤ e ∧ e ≤ t.length
theorem stand_start {ar t : List Int} (h : termOk ar t = true) {p : Nat} (hp : p < t.length) : Stand ar t (arity ar (t.getD p 0)).toNat (p + 1) (endN ar t p) := by
 have he := endN_spec h hp
 obtain ⟨e, h1, h2, h3⟩ := endAt_some h hp
 have hN : endN ar t p = e := by simp [endN, h1]
 unfold endAt at h1
 rw [endGo_step (by omega) hp (termOk_lt h hp)] at h1
 rw [Nat.sub_self, Nat.zero_add] at h1
 refine ⟨?_, by omega, by omega⟩
 cases hg : endGo ar (t.drop (p + 1)) (arity ar (t.getD p 0)).toNat with
 | none => rw [hg] at h1; cases h1
 | some q => rw [hg] at h1; simp only [Option.map_some, Option.some.injEq] at h1; rw [Option.some.injEq]; omega
theorem stand_step {ar t : List Int} (h : termOk ar t = true) {n q e : Nat} (hs : Stand ar t (n + 1) q e) : q < t.length ∧ Stand ar t n (endN ar t q) e ∧ q < endN ar t q ∧ endN ar t q ≤ e := by
 obtain ⟨h1, h2, h3⟩ := hs
 have hpos := endGo_pos h1
 have hq : q < t.length := by omega
 have h1' := h1
 rw [Nat.add_comm] at h1
 obtain ⟨e1, e2, g1, g2, g3⟩ := endGo_split h1
 have hN : endN ar t q = q + e1 := by simp [endN, endAt, g1]
 have hE := endN_spec h hq
 rw [List.drop_drop] at g2
 refine ⟨hq, ⟨?_, by omega, h3⟩, by omega, by omega⟩
 rw [hN, g2]; congr 1; omega
theorem argsGo_len (ar t : List Int) : ∀ n q, (argsGo ar t n q).length = n
 | 0, _ => rfl
 | n + 1, q => by simp [argsGo, argsGo_len ar t n]
theorem argsL_len {ar t : List Int} {p : Nat} : (argsL ar t p).length = (arity ar (t.getD p 0)).toNat := argsGo_len ..
theorem argsL_le {ar t : List Int} (h : termOk ar t = true) {p : Nat} (hp : p < t.length) : (argsL ar t p).length ≤ 3 := by
 have := arity_le (termOk_sig h) (termOk_lt h hp)
 rw [argsL_len]; omega
theorem args_next {ar t : List Int} (h : termOk ar t = true) {p n q : Nat} {os : List Int} (hn : 1 ≤ n) (he : argsL ar t p = os ++ argsGo ar t n q) : argsL ar t p = (os ++ [(q : Int)]) ++ argsGo ar t (n - 1) (endN ar t q) := by
 obtain ⟨m, rfl⟩ : ∃ m, n = m + 1 := ⟨n - 1, by omega⟩
 rw [he, argsGo, Nat.add_sub_cancel, List.append_assoc]; rfl
end Go.Proofs.YtenomejgjcpbdaaGreat.M
set_option linter.unusedSimpArgs false
set_option linter.unusedVariables false
namespace Go.Proofs.YtenomejgjcpbdaaGreat.X
open Go
def WKJ (F0 : FH) (e ES T : TypeId) (bw : Nat) (fv : Value) (tl : List HP) (I : Nat → List StepT → Prop) (k : Nat) (Fy : FH) (Ly : List HP) : Prop :=
 ∃ (sv : Value) (ss : List StepT) (cs : List Value) (Ls : List HP) (m : Nat), IsSl sv ∧ StepsC Fy cs ss ∧ m = ss.length ∧ DeepL 3 (StepO e) cs ss Ls ∧ Fresh F0 Fy (star Ls) ∧ I k ss ∧ Ly = cellsH bw [fv, sv] T :: slH ES 3 sv m cs :: tl
theorem WKJ.start {F0 F : FH} {e ES T : TypeId} {bw : Nat} {fv : Value} {tl : List HP} {I : Nat → List StepT → Prop} {b : Option Addr} (h : I 0 []) : WKJ F0 e ES T bw fv tl I 0 F (cellsH bw [fv, .slice b 0 0] T :: slH ES 3 (.slice b 0 0) 0 [] :: tl) :=
 ⟨_, [], [], [], 0, ⟨_, _, _, rfl⟩, CO.nil, rfl, .nil, .nilL, h, rfl⟩
theorem WKJ.mono {F0 F F' : FH} {e ES T : TypeId} {bw k : Nat} {fv : Value} {tl L : List HP} {I : Nat → List StepT → Prop} (h : WKJ F0 e ES T bw fv tl I k F L) (le : F ≤ F') : WKJ F0 e ES T bw fv tl I k F' L :=
 let ⟨sv, ss, cs, Ls, m, h1, h2, h3, h4, h5, h6, h7⟩ := h
 ⟨sv, ss, cs, Ls, m, h1, h2.mono le, h3, h4, h5.mono le, h6, h7⟩
section
variable {P : Program} {fn : Func} {Q : Post} {ρ : Env} {F F0 : FH} {L : List HP}
theorem Does.at {f : FuncId} {args : List Value} {Q : Value → FH → Prop} {h : HP} (A : List HP) {B : List HP} (H : Does P f args F (h :: (A ++ B)) fun v F' L' => Q v F' ∧ h :: (A ++ B) = L') : Does P f args F (A ++ h :: B) fun v F' L' => Q v F' ∧ A ++ h :: B = L' := fun w Hw =>
 (H w (Sub.front.holds Hw)).mono fun _ _ ⟨v, F', L', he, le, H', hq, hl⟩ => ⟨v, F', _, he, le, Sub.back.holds (hl ▸ H'), hq, rfl⟩
end
section
variable {P : Program} {ρ : Env} {F : FH} {L : List HP} {K : Post} {d : Option Tmp} {ty : TypeId} {pos : String} {af : Array Edge} {g : Option (Nat × Bool)}
end
end Go.Proofs.YtenomejgjcpbdaaGreat.X
set_option linter.unusedSimpArgs false
set_option linter.unusedVariables false
namespace Go.Proofs.YtenomejgjcpbdaaGreat.X
open Go
section
variable {P : Program} {ρ : Env} {F : FH} {L : List HP} {K : Post} {d : Option Tmp} {ty : TypeId} {pos : String} {af : Array Edge} {g : Option (Nat × Bool)}
theorem XOp.addW {x y : Operand} {t u : TypeId} {k : IntKind} {a b : Int} (hx : evO ρ x = .int k a) (hy : evO ρ y = .int k b) (kk : ∀ r, K (.int k r) F L) : XOp P ⟨d, .binOp .add t x y u, ty, pos, af, g⟩ ρ F L K :=
 XOp.value (v := .int k (k.wrap (a + b))) (fun w _ => by simp [execOp, hx, hy, eqGuard, binOp, Op.intArith]) (kk _)
theorem XOp.mulW {x y : Operand} {t u : TypeId} {k : IntKind} {a b : Int} (hx : evO ρ x = .int k a) (hy : evO ρ y = .int k b) (kk : ∀ r, K (.int k r) F L) : XOp P ⟨d, .binOp .mul t x y u, ty, pos, af, g⟩ ρ F L K :=
 XOp.value (v := .int k (k.wrap (a * b))) (fun w _ => by simp [execOp, hx, hy, eqGuard, binOp, Op.intArith]) (kk _)
theorem XOp.xorW {x y : Operand} {t u : TypeId} {k : IntKind} {a b : Int} (hx : evO ρ x = .int k a) (hy : evO ρ y = .int k b) (kk : ∀ r, K (.int k r) F L) : XOp P ⟨d, .binOp .xor t x y u, ty, pos, af, g⟩ ρ F L K :=
 XOp.value (v := .int k (k.wrap (BitVec.ofInt k.bits a ^^^ BitVec.ofInt k.bits b).toNat)) (fun w _ => by simp [execOp, hx, hy, eqGuard, binOp, Op.intBits]) (kk _)
theorem XOp.shrW {x y : Operand} {t u : TypeId} {k k' : IntKind} {a b : Int} (hx : evO ρ x = .int k a) (hy : evO ρ y = .int k' b) (hb : 0 ≤ b) (kk : ∀ r, K (.int k r) F L) : XOp P ⟨d, .binOp .shr t x y u, ty, pos, af, g⟩ ρ F L K :=
 XOp.value (v := .int k (a.fdiv (2 ^ min b.toNat k.bits))) (fun w _ => by simp [execOp, hx, hy, eqGuard, binOp, Op.shift, show ¬ b < 0 by omega]) (kk _)
theorem and_range {k : IntKind} (hk : k.bits = 64) {a b : Int} (hb : 0 ≤ b ∧ b < 4611686018427387904) : 0 ≤ k.wrap (BitVec.ofInt k.bits a &&& BitVec.ofInt k.bits b).toNat ∧ k.wrap (BitVec.ofInt k.bits a &&& BitVec.ofInt k.bits b).toNat ≤ b := by
 have h1 : ((BitVec.ofInt k.bits a &&& BitVec.ofInt k.bits b).toNat : Int) ≤ b := by
  rw [BitVec.toNat_and]
  have h2 : (BitVec.ofInt k.bits a).toNat &&& (BitVec.ofInt k.bits b).toNat ≤ (BitVec.ofInt k.bits b).toNat := Nat.and_le_right
  have h3 : ((BitVec.ofInt k.bits b).toNat : Int) = b := by
   rw [BitVec.toNat_ofInt, hk]
   have : b % ((2 ^ 64 : Nat) : Int) = b := Int.emod_eq_of_lt hb.1 (by omega)
   rw [this]; omega
  omega
 have h0 : (0 : Int) ≤ ((BitVec.ofInt k.bits a &&& BitVec.ofInt k.bits b).toNat : Int) := Int.natCast_nonneg _
 generalize ((BitVec.ofInt k.bits a &&& BitVec.ofInt k.bits b).toNat : Int) = r at h0 h1
 have e : k.wrap r = r := by
  cases k <;> first | exact IntWalk.i64_in _ ⟨by omega, by omega⟩ | exact IntWalk.u64_in _ ⟨by omega, by omega⟩ | (exfalso; revert hk; decide)
 rw [e]
 exact ⟨h0, h1⟩
theorem XOp.andW {x y : Operand} {t u : TypeId} {k : IntKind} {a b : Int} (hk : k.bits = 64) (hx : evO ρ x = .int k a) (hy : evO ρ y = .int k b) (hb : 0 ≤ b ∧ b < 4611686018427387904) (kk : ∀ r, 0 ≤ r ∧ r ≤ b → K (.int k r) F L) : XOp P ⟨d, .binOp .and t x y u, ty, pos, af, g⟩ ρ F L K :=
 XOp.value (v := .int k (k.wrap (BitVec.ofInt k.bits a &&& BitVec.ofInt k.bits b).toNat)) (fun w _ => by simp [execOp, hx, hy, eqGuard, binOp, Op.intBits]) (kk _ (and_range hk hb))
theorem XOp.remV {x y : Operand} {t u : TypeId} {k : IntKind} {a b : Int} (hx : evO ρ x = .int k a) (hy : evO ρ y = .int k b) (h0 : 0 ≤ a) (hb : 0 < b) (kk : ∀ r, 0 ≤ r ∧ r < b → K (.int k r) F L) : XOp P ⟨d, .binOp .rem t x y u, ty, pos, af, g⟩ ρ F L K :=
 XOp.remC hx hy h0 (by omega) (kk _ ⟨Int.emod_nonneg a (by omega), Int.emod_lt_of_pos a hb⟩)
end
def ByteE (F : FH) (es : List Value) (x : Int) : Prop := es = [.int .u8 x] ∧ 0 ≤ x ∧ x ≤ 255
theorem ByteE.mono {F F' : FH} (es : List Value) (x : Int) (h : ByteE F es x) : ByteE F' es x := h
def BytesF : FH → Value → List Int → Prop := SlOf 1 ByteE 0
theorem BytesF.mono {F F' : FH} {v : Value} {xs : List Int} (h : BytesF F v xs) (le : F ≤ F') : BytesF F' v xs := SlOf.mono ByteE.mono h le
theorem BytesF.slv {F : FH} {L : List HP} {v : Value} {xs : List Int} (h : BytesF F v xs) : SlV F L v xs.length := SlOf.slv h
theorem BytesF.isSl {F : FH} {v : Value} {xs : List Int} (h : BytesF F v xs) : IsSl v := by obtain ⟨_, h, _⟩ := h; exact h.isSl
theorem BytesF.rd {F : FH} {v : Value} {xs : List Int} (h : BytesF F v xs) {i : Nat} (hi : i < xs.length) : ∀ L, Rd F L (elemA v i) (.int .u8 (xs.getD i 0)) := by
 obtain ⟨es, hl, ⟨rfl, _⟩, hr⟩ := SlOf.get h hi
 intro L
 have := hr L 0 _ rfl
 simpa using this
theorem BytesF.range {F : FH} {v : Value} {xs : List Int} (h : BytesF F v xs) {i : Nat} (hi : i < xs.length) : 0 ≤ xs.getD i 0 ∧ xs.getD i 0 ≤ 255 := by
 obtain ⟨es, hl, ⟨rfl, h2⟩, hr⟩ := SlOf.get h hi
 exact h2
def curH (k : IntKind) (E : TypeId) (b : Nat) (bv : Value) (n : Nat) : HP := fun l => ∃ i h : Int, 0 ≤ i ∧ i ≤ n ∧ cellsH b [bv, .int .i64 i, .int k h] E l
theorem curH.of {k : IntKind} {E : TypeId} {b : Nat} {bv : Value} {n : Nat} {i h : Int} (h0 : 0 ≤ i) (h1 : i ≤ n) : ∀ l, cellsH b [bv, .int .i64 i, .int k h] E l → curH k E b bv n l := fun l hl => ⟨i, h, h0, h1, hl⟩
theorem Holds.uncur {k : IntKind} {E : TypeId} {b : Nat} {bv : Value} {n : Nat} {F : FH} {L : List HP} {w : World} (H : Holds F (curH k E b bv n :: L) w) : ∃ i h : Int, 0 ≤ i ∧ i ≤ n ∧ Holds F (cellsH b [bv, .int .i64 i, .int k h] E :: L) w := by
 obtain ⟨h1, h2, h3, h4, l, hl, nd, hp⟩ := H
 obtain ⟨a, c, ⟨i, h, q1, q2, hm⟩, hc, rfl⟩ := hl
 exact ⟨i, h, q1, q2, h1, h2, h3, h4, _, ⟨a, c, hm, hc, rfl⟩, nd, hp⟩
theorem Does.cur {P : Program} {f : FuncId} {args : List Value} {k : IntKind} {E : TypeId} {b : Nat} {bv : Value} {n : Nat} {F : FH} {L : List HP} {Q : Value → FH → Prop}
  (H : ∀ i h : Int, 0 ≤ i → i ≤ n → Does P f args F (cellsH b [bv, .int .i64 i, .int k h] E :: L) fun v F' L' => Q v F' ∧ ∃ i' h' : Int, 0 ≤ i' ∧ i' ≤ n ∧ cellsH b [bv, .int .i64 i', .int k h'] E :: L = L') :
  Does P f args F (curH k E b bv n :: L) fun v F' L' => Q v F' ∧ curH k E b bv n :: L = L' := by
 intro w Hw
 obtain ⟨i, h, q1, q2, Hw'⟩ := Hw.uncur
 refine (H i h q1 q2 w Hw').mono ?_
 rintro e w' ⟨v, F', L', he, le, H', hq, i', h', q3, q4, rfl⟩
 exact ⟨v, F', _, he, le, (Sub.keep (curH.of q3 q4) (Sub.refl _)).holds H', hq, rfl⟩
def intAt : Value → Int
 | .int _ n => n
 | _ => 0
def boolAt : Value → Bool
 | .bool b => b
 | _ => false
end Go.Proofs.YtenomejgjcpbdaaGreat.X
set_option linter.unusedSimpArgs false
set_option linter.unusedVariables false
namespace Go.Proofs.YtenomejgjcpbdaaGreat.X
open Go
theorem Holds.ex {ι : Type} {h : HP} {k : ι → HP} {p : ι → Prop} {F : FH} {A B : List HP} {w : World} (e : ∀ l, h l → ∃ i, p i ∧ k i l) (H : Holds F (A ++ h :: B) w) : ∃ i, p i ∧ Holds F (A ++ k i :: B) w := by
 obtain ⟨h1, h2, h3, h4, l, hl, nd, hp⟩ := H
 obtain ⟨a, m, c, ha, hm, hc, rfl⟩ := star_mid.1 hl
 obtain ⟨i, hi, hk⟩ := e m hm
 exact ⟨i, hi, h1, h2, h3, h4, _, star_mid.2 ⟨a, m, c, ha, hk, hc, rfl⟩, nd, hp⟩
def drawnH (e : TypeId) (v : Value) (Q : List Int → Prop) : HP := fun l => ∃ t, Q t ∧ intsH e v t l
theorem drawnH.of {e : TypeId} {v : Value} {Q : List Int → Prop} {t : List Int} (h : Q t) : ∀ l, intsH e v t l → drawnH e v Q l := fun l hl => ⟨t, h, hl⟩
section
variable {P : Program} {n : Nat} {ops : Array Oper} {l : List Oper} {Q : QX} {ρ : Env} {F : FH} {L : List HP} {c : Code}
theorem XL.undraw {e : TypeId} {v : Value} {R : List Int → Prop} (A : List HP) {B : List HP} (hL : L = A ++ drawnH e v R :: B) (h : ∀ t, R t → XL P n ops l Q ρ F (A ++ intsH e v t :: B)) : XL P n ops l Q ρ F L := by
 subst hL
 intro ok a w r H
 obtain ⟨t, ht, H'⟩ := Holds.ex (fun _ h => h) H
 exact h t ht ok a w r H'
end
def SomesF (F : FH) (v : Value) (Q : List Int → Prop) : Prop := ∃ t, IntsF F v t ∧ Q t
theorem SomesF.mono {F F' : FH} {v : Value} {Q : List Int → Prop} (h : SomesF F v Q) (le : F ≤ F') : SomesF F' v Q := let ⟨t, h1, h2⟩ := h; ⟨t, h1.mono le, h2⟩
theorem SomesF.isSl {F : FH} {v : Value} {Q : List Int → Prop} (h : SomesF F v Q) : IsSl v := let ⟨_, h1, _⟩ := h; h1.isSl
def SomeRowsF (F : FH) (v : Value) (Q : List (List Int) → Prop) : Prop := ∃ t, RowsF F v t ∧ Q t
theorem SomeRowsF.mono {F F' : FH} {v : Value} {Q : List (List Int) → Prop} (h : SomeRowsF F v Q) (le : F ≤ F') : SomeRowsF F' v Q := let ⟨t, h1, h2⟩ := h; ⟨t, h1.mono le, h2⟩
theorem SomeRowsF.isSl {F : FH} {v : Value} {Q : List (List Int) → Prop} (h : SomeRowsF F v Q) : IsSl v := let ⟨_, h1, _⟩ := h; h1.isSl
theorem Does.atO {P : Program} {f : FuncId} {args : List Value} {F : FH} {ι : Type} {O : ι → HP} {Q : ι → Value → FH → Prop} {h : HP} (A : List HP) {B : List HP} (H : Does P f args F (h :: (A ++ B)) fun v F' L' => ∃ i, Q i v F' ∧ O i :: h :: (A ++ B) = L') :
  Does P f args F (A ++ h :: B) fun v F' L' => ∃ i, Q i v F' ∧ O i :: (A ++ h :: B) = L' := fun w Hw =>
 (H w (Sub.front.holds Hw)).mono fun _ _ ⟨v, F', L', he, le, H', i, hq, hl⟩ => ⟨v, F', _, he, le, (Sub.cons Sub.back).holds (hl ▸ H'), i, hq, rfl⟩
section
variable {P : Program} {ρ : Env} {F : FH} {L : List HP} {K : Post} {d : Option Tmp} {ty : TypeId} {pos : String} {af : Array Edge} {g : Option (Nat × Bool)}
end
end Go.Proofs.YtenomejgjcpbdaaGreat.X
set_option linter.unusedSimpArgs false
set_option linter.unusedVariables false
namespace Go.Proofs.YtenomejgjcpbdaaGreat.M
section
variable {ar : List Int} {rs : Rules} {a b t : List Int} {ts : RowL} {n : Int} {k : Nat}
end
end Go.Proofs.YtenomejgjcpbdaaGreat.M
set_option linter.unusedSimpArgs false
set_option linter.unusedVariables false
namespace Go.Proofs.YtenomejgjcpbdaaGreat.M
section
variable {ar t u : List Int} {n : Nat} {f : Int}
def goodN (ar t : List Int) (n : Nat) : Prop := (∀ x ∈ t, -24 ≤ x) ∧ ∀ r, endGo ar (t ++ r) n = some t.length
def goodT (ar t : List Int) : Prop := goodN ar t 1
theorem goodN.nil : goodN ar [] 0 := ⟨fun x hx => (List.not_mem_nil hx).elim, fun r => by cases r <;> rfl⟩
theorem goodN.snoc (h : goodN ar t n) (k : goodT ar u) : goodN ar (t ++ u) (n + 1) := by
 refine ⟨fun x hx => (List.mem_append.1 hx).elim (h.1 x) (k.1 x), fun r => ?_⟩
 have h1 := h.2 (u ++ r)
 have h2 : endGo ar ((t ++ (u ++ r)).drop t.length) 1 = some u.length := by rw [List.drop_left]; exact k.2 r
 rw [List.append_assoc, endGo_join h1 h2, List.length_append]
theorem goodT.one (hf : -24 ≤ f) (hl : f < ar.length) (ha : arity ar f = 0) : goodT ar [f] := by
 refine ⟨fun x hx => by obtain rfl := List.mem_singleton.1 hx; exact hf, fun r => ?_⟩
 show endGo ar (f :: r) (0 + 1) = some 1
 unfold endGo
 rw [if_pos hl, ha]
 cases r <;> rfl
theorem goodT.var (hf : -24 ≤ f) (h0 : f < 0) : goodT ar [f] := goodT.one hf (by omega) (by rw [arity, if_pos h0])
theorem goodT.node (h0 : 0 ≤ f) (hl : f < ar.length) (ha : arity ar f = (n : Int)) (h : goodN ar t n) : goodT ar (f :: t) := by
 refine ⟨fun x hx => (List.mem_cons.1 hx).elim (fun e => by omega) (h.1 x), fun r => ?_⟩
 show endGo ar (f :: (t ++ r)) (0 + 1) = some (t.length + 1)
 unfold endGo
 rw [if_pos hl, ha, show 0 + (n : Int).toNat = n from by omega, h.2 r]
 rfl
theorem goodT.ok (hs : sigOk ar = true) (hl : 1 ≤ t.length ∧ t.length ≤ 60) (h : goodT ar t) : termOk ar t = true := by
 have e := h.2 []
 rw [List.append_nil] at e
 exact termOk_iff.2 ⟨hs, hl.1, hl.2, h.1, e⟩
def szB : Nat → Nat
 | 0 => 1
 | d + 1 => 1 + 2 * szB d
def szT : Nat → Nat
 | 0 => 1
 | d + 1 => 1 + 3 * szT d
theorem szB_pos : ∀ d, 1 ≤ szB d
 | 0 => by simp [szB]
 | d + 1 => by simp only [szB]; omega
theorem szB_next {d : Nat} (h : 1 ≤ d) : szB d = 1 + 2 * szB (d - 1) := by
 obtain ⟨e, rfl⟩ : ∃ e, d = e + 1 := ⟨d - 1, by omega⟩
 rfl
theorem szB_le : ∀ {d e : Nat}, d ≤ e → szB d ≤ szB e
 | 0, e, _ => szB_pos e
 | d + 1, 0, h => by omega
 | d + 1, e + 1, h => by have := szB_le (d := d) (e := e) (by omega); simp only [szB]; omega
theorem szT_pos : ∀ d, 1 ≤ szT d
 | 0 => by simp [szT]
 | d + 1 => by simp only [szT]; omega
theorem szT_next {d : Nat} (h : 1 ≤ d) : szT d = 1 + 3 * szT (d - 1) := by
 obtain ⟨e, rfl⟩ : ∃ e, d = e + 1 := ⟨d - 1, by omega⟩
 rfl
theorem szT_le : ∀ {d e : Nat}, d ≤ e → szT d ≤ szT e
 | 0, e, _ => szT_pos e
 | d + 1, 0, h => by omega
 | d + 1, e + 1, h => by have := szT_le (d := d) (e := e) (by omega); simp only [szT]; omega
theorem sigOk_snoc {x : Int} (h : sigOk ar = true) (hl : ar.length ≤ 7) (hx : 0 ≤ x ∧ x ≤ 3) : sigOk (ar ++ [x]) = true := by
 have h1 := sigOk_spec h
 refine sigOk_of (by simp) (by simp; omega) (fun i hi => ?_)
 rcases Nat.lt_or_ge i ar.length with h' | h'
 ·have := h1.2.2 i h'
  simpa [List.getD, List.getElem?_append_left h'] using this
 ·have e : i = ar.length := by simp at hi; omega
  subst e
  simpa [List.getD] using hx
theorem rows_snoc {N : Nat} {os : List (List Int)} {x : List Int} (h : ∀ i, (os.getD i []).length ≤ N) (hx : x.length ≤ N) : ∀ i, ((os ++ [x]).getD i []).length ≤ N := fun i => by
 rcases Nat.lt_or_ge i os.length with h' | h'
 ·have := h i
  simpa [List.getD, List.getElem?_append_left h'] using this
 ·rcases Nat.eq_or_lt_of_le h' with e | e
  ·subst e; simpa [List.getD] using hx
  ·simp [List.getD, List.getElem?_eq_none (show (os ++ [x]).length ≤ i by simp; omega)]
theorem sub_le {t : List Int} {p : Nat} : (sub ar t p).length ≤ t.length := by
 unfold sub
 rw [List.length_take, List.length_drop]
 omega
theorem fill_le60 {s : RowL} {t : List Int} : ((fillL s t).getD []).length ≤ 60 := by
 cases h : fillL s t with
 | none => simp
 | some u => exact (fillL_len h).1
theorem put_le60 {t u : List Int} {p : Nat} : ((putL ar t p u).getD []).length ≤ 60 := by
 unfold putL
 split
 ·simp
 ·rename_i h; simpa using h
def smallS (ar : List Int) (rs : Rules) : Prop := ar.length ≤ 20 ∧ rs.length ≤ 20 ∧ ∀ i, i < rs.length → (rs.getD i ([], [])).1.length ≤ 2000 ∧ (rs.getD i ([], [])).2.length ≤ 2000
def smallR (rs : Rules) : Prop := ∀ i, i < rs.length → (rs.getD i ([], [])).1.length ≤ 2000 ∧ (rs.getD i ([], [])).2.length ≤ 2000
theorem smallR.nil : smallR [] := fun i hi => by simp at hi
theorem smallR.snoc {l r : List Int} {rs : Rules} (h : smallR rs) (hl : l.length ≤ 2000) (hr : r.length ≤ 2000) : smallR (rs ++ [(l, r)]) := fun i hi => by
 rcases Nat.lt_or_ge i rs.length with h' | h'
 ·have := h i h'
  simpa [List.getD, List.getElem?_append_left h'] using this
 ·have e : i = rs.length := by simp at hi; omega
  subst e
  simpa [List.getD] using And.intro hl hr
theorem smallS.mk' {rs : Rules} (ha : ar.length ≤ 20) (hn : rs.length ≤ 20) (h : smallR rs) : smallS ar rs := ⟨ha, hn, h⟩
theorem smallS.la {rs : Rules} (h : smallS ar rs) : ar.length ≤ 4000000 := by have := h.1; omega
theorem smallS.lr {rs : Rules} (h : smallS ar rs) : rs.length ≤ 4000000 := by have := h.2.1; omega
theorem smallS.each {rs : Rules} (h : smallS ar rs) : ∀ i, i < rs.length → (rs.getD i ([], [])).1.length ≤ 4000000 ∧ (rs.getD i ([], [])).2.length ≤ 4000000 := fun i hi => by have := h.2.2 i hi; omega
variable {rs : Rules} {a b : List Int} {ts : RowL} {m : Int} {i k : Nat}
end
end Go.Proofs.YtenomejgjcpbdaaGreat.M
set_option linter.unusedSimpArgs false
set_option linter.unusedVariables false
namespace Go.Proofs.YtenomejgjcpbdaaGreat.X
open Go
theorem CO.setOne {α : Type} {s : Nat} {R : FH → List Value → α → Prop} {d : α} {F : FH} {cs : List Value} {xs : List α} {x : α} {u : Value} (h : CO s R d F cs xs) {j o : Nat} (hj : j < xs.length) (ho : o < s) (hR : ∀ es, es.length = s → R F es (xs.getD j d) → R F (es.set o u) x) :
  CO s R d F (cs.set (j * s + o) u) (xs.set j x) := by
 obtain ⟨es, h1, h2, h3⟩ := h.2 j hj
 have hb : j * s + s ≤ cs.length := by
  rw [h.1]
  have : (j + 1) * s ≤ xs.length * s := Nat.mul_le_mul_right s hj
  rwa [Nat.succ_mul] at this
 have k := CO.setN h hj (es := es.set o u) (by rw [List.length_set]; exact h1) (hR es h1 h3)
 have hA : (cs.take (j * s)).length = j * s := by rw [List.length_take]; omega
 have e1 : cs = cs.take (j * s) ++ (es ++ cs.drop (j * s + s)) := by
  have : cs.drop (j * s) = es ++ cs.drop (j * s + s) := by
   rw [← h2, ← List.drop_drop, List.take_append_drop]
  rw [← this, List.take_append_drop]
 have e2 : cs.set (j * s + o) u = cs.take (j * s) ++ es.set o u ++ cs.drop (j * s + (es.set o u).length) := by
  rw [List.length_set, h1]
  conv => lhs; rw [e1]
  rw [List.set_append_right _ _ (by omega), hA, Nat.add_sub_cancel_left, List.set_append_left _ _ (by omega), List.append_assoc]
 rw [e2]
 exact k
theorem StepsC.setAt {F : FH} {cs : List Value} {xs : List StepT} {a : Int} (h : StepsC F cs xs) {j : Nat} (hj : j < xs.length) : StepsC F (cs.set (j * 3) (.int .i64 a)) (xs.set j (a, (xs.getD j (0, 0, [])).2)) :=
 CO.setOne (o := 0) h hj (by omega) (fun es _ ⟨c, h1, h2⟩ => ⟨c, by rw [h1]; rfl, h2⟩)
theorem StepsC.setRule {F : FH} {cs : List Value} {xs : List StepT} {a : Int} (h : StepsC F cs xs) {j : Nat} (hj : j < xs.length) : StepsC F (cs.set (j * 3 + 1) (.int .i64 a)) (xs.set j ((xs.getD j (0, 0, [])).1, a, (xs.getD j (0, 0, [])).2.2)) :=
 CO.setOne (o := 1) h hj (by omega) (fun es _ ⟨c, h1, h2⟩ => ⟨c, by rw [h1]; rfl, h2⟩)
section
variable {P : Program} {ρ : Env} {F : FH} {L : List HP} {K : Post} {d : Option Tmp} {ty : TypeId} {pos : String} {af : Array Edge} {g : Option (Nat × Bool)}
end
end Go.Proofs.YtenomejgjcpbdaaGreat.X
set_option linter.unusedSimpArgs false
set_option linter.unusedVariables false
namespace Go.Proofs.YtenomejgjcpbdaaGreat.X
open Go
theorem RowsC.ones {F : FH} {cs : List Value} {xs : List (List Int)} (h : RowsC F cs xs) : ∀ u ∈ cs, u.oneCell' = true := by
 intro u hu
 obtain ⟨q, hq, rfl⟩ := List.getElem_of_mem hu
 have hl := h.1
 obtain ⟨es, h1, ⟨c, rfl, hc⟩, hg⟩ := CO.get h (i := q) (by omega)
 have h9 := hg 0 c rfl
 rw [show q * 1 + 0 = q from by omega, List.getElem?_eq_getElem hq] at h9
 obtain ⟨b, n, k, rfl⟩ := IntsF.isSl hc
 rw [Option.some.inj h9]; rfl
theorem XOp.appendRows {P : Program} {ρ : Env} {F : FH} {L : List HP} {K : Post} {d : Option Tmp} {ty : TypeId} {pos : String} {af : Array Edge} {g : Option (Nat × Bool)} {x y : Operand} {t E : TypeId} {i : TypeInfo} {z : Value} {n bytes : Nat} {v v2 : Value} {cs : List Value} {xs ys : List (List Int)} (A B : List HP)
  (ht : ∀ w, (underlying t).run P w = .ok (.slice E) w) (hi : ∀ w, (typeInfo E).run P w = .ok i w) (hz : i.zero = some z) (hs : i.size = 1) (hby : i.bytes = bytes) (hzs : z.cells.size = 1)
  (hx : evO ρ x = v) (hy : evO ρ y = v2) (hL : L = A ++ slH E 1 v n cs :: B) (hC : RowsC F cs xs) (hv2 : RowsF F v2 ys) (h63 : n + ys.length ≤ 1152921504606846976) (hbytes : (n + ys.length) * bytes ≤ 140737488355328)
  (k : ∀ v' ds, IsSl v' → RowsC F (cs ++ ds) (xs ++ ys) → K v' F (A ++ slH E 1 v' (n + ys.length) (cs ++ ds) :: B)) :
  XOp P ⟨d, .call { callee := .builtin .append, args := #[x, y], argTypes := #[t, t] }, ty, pos, af, g⟩ ρ F L K := by
 obtain ⟨ds, hA, hc2⟩ := SlOf.open hv2
 exact XOp.append A B ds ht hi hz hs hby hzs hx hy hL (SlV.arr hA) hc2.1 (fun j u hu => Rd.arr hA hu) (RowsC.ones hc2) h63 hbytes fun v' h1 _ _ => k v' ds h1 (CO.append hC hc2)
def SomeStepsF (F : FH) (v : Value) (Q : List StepT → Prop) : Prop := ∃ t, StepsF F v t ∧ Q t
theorem SomeStepsF.mono {F F' : FH} {v : Value} {Q : List StepT → Prop} (h : SomeStepsF F v Q) (le : F ≤ F') : SomeStepsF F' v Q := let ⟨t, h1, h2⟩ := h; ⟨t, h1.mono le, h2⟩
theorem SomeStepsF.isSl {F : FH} {v : Value} {Q : List StepT → Prop} (h : SomeStepsF F v Q) : IsSl v := let ⟨_, h1, _⟩ := h; h1.isSl
def SomeBindsF (F : FH) (bs : List Value) (Q : List (List Int) → Prop) : Prop := ∃ bl, BindC F bs bl ∧ Q bl
theorem SomeBindsF.mono {F F' : FH} {bs : List Value} {Q : List (List Int) → Prop} (h : SomeBindsF F bs Q) (le : F ≤ F') : SomeBindsF F' bs Q := let ⟨t, h1, h2⟩ := h; ⟨t, h1.mono le, h2⟩
def aggL : Value → List Value
 | .agg a => a.toList
 | _ => []
end Go.Proofs.YtenomejgjcpbdaaGreat.X
set_option linter.unusedSimpArgs false
set_option linter.unusedVariables false
namespace Go.Proofs.YtenomejgjcpbdaaGreat.M
section
variable {ar t u : List Int} {rs : Rules} {n : Int} {all : List FoundV} {k : Nat} {ss : List StepV}
abbrev LoopV := List Int × List StepV × Int × RowL × Bool
abbrev noLoop : LoopV := ([], [], 0, [], false)
def LoopB (v : LoopV) : Prop := WalkB v.1 v.2.1 ∧ v.2.2.2.1.length ≤ 24 ∧ (∀ i, (v.2.2.2.1.getD i []).length ≤ 60) ∧ (v.2.2.2.1.flatMap flatRow).length ≤ 4000
theorem LoopB.no : LoopB noLoop := ⟨.nil, by simp, fun i => by simp, by simp⟩
end
end Go.Proofs.YtenomejgjcpbdaaGreat.M
set_option linter.unusedSimpArgs false
set_option linter.unusedVariables false
namespace Go.Proofs.YtenomejgjcpbdaaGreat.M
section
variable {ar t : List Int} {rs : Rules} {p r : Int} {k : Nat}
end
end Go.Proofs.YtenomejgjcpbdaaGreat.M
set_option linter.unusedSimpArgs false
set_option linter.unusedVariables false
namespace Go.Proofs.YtenomejgjcpbdaaGreat.M
section
variable {ar t u a b : List Int} {rs : Rules} {n : Int} {all : List FoundV} {ss xs : List StepV} {s : StepV} {k m : Nat}
def StepIn (ar : List Int) (rs : Rules) (all : List FoundV) : Prop := ∀ i, 0 < i → i < all.length → (EL all i).2.2.1 ∈ stepsL ar rs (EL all (EL all i).2.1.toNat).1
theorem StepIn.snoc {d : Int} (h : StepIn ar rs all) (hl : Link all) (hk : k < all.length) (hs : s ∈ stepsL ar rs (EL all k).1) : StepIn ar rs (all ++ [(s.2.2, (k : Int), s, d)]) := by
 intro i h0 hi
 rw [List.length_append, List.length_singleton] at hi
 rcases Nat.lt_or_ge i all.length with g | g
 ·have := hl.2 i h0 g
  rw [EL_snoc g, EL_snoc (by omega)]
  exact h i h0 g
 ·obtain rfl : i = all.length := by omega
  rw [EL_last]
  dsimp only
  rw [show ((k : Int)).toNat = k from by omega, EL_snoc hk]
  exact hs
end
end Go.Proofs.YtenomejgjcpbdaaGreat.M
set_option linter.unusedSimpArgs false
set_option linter.unusedVariables false
namespace Go.Proofs.YtenomejgjcpbdaaGreat.M
section
variable {ar : List Int} {rs : Rules} {t f now : List Int} {ss acc : List StepL} {s : RowL} {k : Nat}
end
end Go.Proofs.YtenomejgjcpbdaaGreat.M
set_option linter.unusedSimpArgs false
set_option linter.unusedVariables false
namespace Go.Proofs.YtenomejgjcpbdaaGreat.M
section
variable {ar f g : List Int} {rs : Rules} {xs ys : List StepV}
end
end Go.Proofs.YtenomejgjcpbdaaGreat.M
set_option linter.unusedSimpArgs false
set_option linter.unusedVariables false
namespace Go.Proofs.YtenomejgjcpbdaaGreat.M
section
variable {ar t u f : List Int} {rs : Rules} {ss : List StepL} {st n : Int}
end
end Go.Proofs.YtenomejgjcpbdaaGreat.M
set_option linter.unusedSimpArgs false
set_option linter.unusedVariables false
namespace Go.Proofs.YtenomejgjcpbdaaGreat.M
section
variable {ar t f u v w g A R : List Int} {rs : Rules} {p q r : Nat} {ss xs : List StepL}
theorem endN_go (ht : termOk ar t = true) (hp : p < t.length) : endGo ar (t.drop p) 1 = some (endN ar t p - p) := by
 obtain ⟨e, he, _⟩ := endAt_some ht hp
 have hN : endN ar t p = e := by simp [endN, he]
 unfold endAt at he
 cases hg : endGo ar (t.drop p) 1 with
 | none => rw [hg] at he; simp at he
 | some a => rw [hg] at he; simp at he; congr 1; omega
theorem endN_of {e : Nat} (h : endGo ar (t.drop p) 1 = some e) : endN ar t p = p + e := by simp [endN, endAt, h]
theorem putL_eq (h : putL ar t p u = some v) : v = t.take p ++ u ++ t.drop (endN ar t p) := by
 unfold putL at h
 split at h
 ·cases h
 ·cases h; rfl
theorem stepAtL_iff {p r : Int} : stepAtL ar rs t p r = some u ↔ stepAtOk ar rs t p r = true ∧ stepL ar rs t p.toNat r.toNat = some u := by
 unfold stepAtL
 split
 ·rename_i h; exact ⟨fun e => ⟨h, e⟩, fun e => e.2⟩
 ·rename_i h; exact ⟨fun e => (by cases e), fun e => absurd e.1 h⟩
theorem stepAtOk_iff {p r : Int} : stepAtOk ar rs t p r = true ↔ (sysOk ar rs = true ∧ termOk ar t = true) ∧ (0 ≤ p ∧ p < (t.length : Int)) ∧ 0 ≤ r ∧ r < (rs.length : Int) := by
 simp only [stepAtOk, Bool.and_eq_true, decide_eq_true_eq, right_iff, and_assoc]
theorem in_drop (hq : q ≤ f.length) : (A ++ f ++ R).drop (A.length + q) = f.drop q ++ R := by
 rw [List.append_assoc, List.drop_length_add_append, List.drop_append_of_le_length hq]
theorem in_end (hf : termOk ar f = true) (hq : q < f.length) : endN ar (A ++ f ++ R) (A.length + q) = A.length + endN ar f q := by
 have h := endGo_more (b := R) (endN_go hf hq)
 rw [← in_drop (A := A) (by omega)] at h
 have := endN_spec hf hq
 rw [endN_of h]; omega
theorem in_sub (hf : termOk ar f = true) (hq : q < f.length) : sub ar (A ++ f ++ R) (A.length + q) = sub ar f q := by
 have := endN_spec hf hq
 unfold sub
 rw [in_end hf hq, in_drop (by omega), show A.length + endN ar f q - (A.length + q) = endN ar f q - q from by omega, List.take_append_of_le_length (by rw [List.length_drop]; omega)]
theorem sub_zero' (hg : termOk ar g = true) : sub ar g 0 = g := by
 have h : endGo ar (g.drop 0) 1 = some g.length := (termOk_iff.1 hg).whole
 unfold sub
 rw [endN_of h]
 simp
theorem sub_put (hp : p < t.length) (hg : termOk ar g = true) (h : putL ar t p g = some w) : sub ar w p = g := by
 have hA : (t.take p).length = p := by rw [List.length_take]; omega
 have := in_sub (A := t.take p) (R := t.drop (endN ar t p)) hg (q := 0) (by have := termOk_len hg; omega)
 rw [← putL_eq h, hA, Nat.add_zero, sub_zero' hg] at this
 exact this
end
section
variable {ar t f u v w g : List Int} {rs : Rules} {p q r k n : Nat} {ss xs : List StepL} {s b b' : RowL}
abbrev FM (s : RowL) (t : List Int) : List Int := t.flatMap (lk s)
theorem fm_pos (h : t ≠ []) : 1 ≤ (FM s t).length := by
 cases t with
 | nil => exact absurd rfl h
 | cons x l => have := lk_pos (s := s) (n := x); simp only [FM, List.flatMap_cons, List.length_append]; omega
theorem getD_zero_drop {l : List Int} {i : Nat} : l.getD i 0 = (l.drop i).getD 0 0 := by simp [List.getD]
theorem mGo_keep {t : List Int} : ∀ (p : List Int) (i : Nat) (b b' : RowL) (k : Nat), mGo ar t p i b = some b' → b.getD k [] ≠ [] → b'.getD k [] ≠ []
 | [], i, b, b', k, h, hk => by simp [mGo] at h; subst h; exact hk
 | n :: p, i, b, b', k, h, hk => by
  rw [mGo] at h
  split at h
  ·cases h
  ·split at h
   ·split at h
    ·exact mGo_keep p _ _ _ k h hk
    ·cases h
   ·split at h
    ·rename_i he
     refine mGo_keep p _ _ _ k h ?_
     have hne : varIx n ≠ k := fun e => hk (e ▸ he)
     rw [List.getD_eq_getElem?_getD, List.getElem?_set_ne hne, ← List.getD_eq_getElem?_getD]
     exact hk
    ·split at h
     ·exact mGo_keep p _ _ _ k h hk
     ·cases h
theorem mGo_bind {t : List Int} (ht : termOk ar t = true) : ∀ (p : List Int) (i : Nat) (b b' : RowL), (∀ x ∈ p, -24 ≤ x) → b.length = 24 → mGo ar t p i b = some b' → ∀ n ∈ p, n < 0 → b'.getD (varIx n) [] ≠ []
 | [], i, b, b', hp, hb, h, n, hn, h0 => by simp at hn
 | m :: p, i, b, b', hp, hb, h, n, hn, h0 => by
  have hp' : ∀ x ∈ p, -24 ≤ x := fun x hx => hp x (List.mem_cons_of_mem _ hx)
  rw [mGo] at h
  split at h
  ·cases h
  ·rename_i hi
   split at h
   ·rename_i hm
    split at h
    ·rcases List.mem_cons.1 hn with rfl | hn
     ·omega
     ·exact mGo_bind ht p _ _ _ hp' hb h n hn h0
    ·cases h
   ·rename_i hm
    split at h
    ·rename_i he
     rcases List.mem_cons.1 hn with rfl | hn
     ·refine mGo_keep p _ _ _ _ h ?_
      have hv : varIx n < b.length := by have := hp n (by simp); unfold varIx; omega
      rw [List.getD_eq_getElem?_getD, List.getElem?_set_self hv]
      exact sub_ne ht (by omega)
     ·exact mGo_bind ht p _ _ _ hp' (by rw [List.length_set]; exact hb) h n hn h0
    ·rename_i he
     split at h
     ·rcases List.mem_cons.1 hn with rfl | hn
      ·exact mGo_keep p _ _ _ _ h he
      ·exact mGo_bind ht p _ _ _ hp' hb h n hn h0
     ·cases h
theorem matchB_bind (ht : termOk ar t = true) {p : List Int} (hp : ∀ x ∈ p, -24 ≤ x) (h : matchB ar p t = some b) : ∀ n ∈ p, n < 0 → b.getD (varIx n) [] ≠ [] := mGo_bind ht p 0 _ _ hp (by simp) h
end
section
variable {ar t f : List Int} {rs : Rules} {ss xs : List StepL} {k : Nat}
end
section
variable {f : List Int} {ss : List StepL} {s : StepL} {k : Nat}
def smallT (ss : List StepL) : Prop := ∀ i, (ss.getD i (0, 0, [])).2.2.length ≤ 2000
theorem smallT.nil : smallT [] := fun i => by simp
theorem smallT.snoc (h : smallT ss) (hs : s.2.2.length ≤ 2000) : smallT (ss ++ [s]) := fun i => by
 rcases Nat.lt_trichotomy i ss.length with g | g | g
 ·rw [List.getD_eq_getElem?_getD, List.getElem?_append_left g, ← List.getD_eq_getElem?_getD]; exact h i
 ·subst g; simpa [List.getD_eq_getElem?_getD] using hs
 ·rw [List.getD_eq_getElem?_getD, List.getElem?_eq_none (by simp; omega)]; simp
theorem smallT.set (h : smallT ss) (hs : s.2.2.length ≤ 2000) (k : Nat) : smallT (ss.set k s) := fun i => by
 by_cases e : k = i
 ·subst e
  rcases Nat.lt_or_ge k ss.length with g | g
  ·simpa [List.getD_eq_getElem?_getD, g] using hs
  ·rw [List.set_eq_of_length_le g]; exact h k
 ·rw [List.getD_eq_getElem?_getD, List.getElem?_set_ne e, ← List.getD_eq_getElem?_getD]; exact h i
theorem smallT.take (h : smallT ss) (k : Nat) : smallT (ss.take k) := fun i => by
 rcases Nat.lt_or_ge i k with g | g
 ·rw [List.getD_eq_getElem?_getD, List.getElem?_take, if_pos g, ← List.getD_eq_getElem?_getD]; exact h i
 ·rw [List.getD_eq_getElem?_getD, List.getElem?_take, if_neg (by omega)]; simp
theorem smallT.drop (h : smallT ss) (k : Nat) : smallT (ss.drop k) := fun i => by
 rw [List.getD_eq_getElem?_getD, List.getElem?_drop, ← List.getD_eq_getElem?_getD]; exact h _
end
end Go.Proofs.YtenomejgjcpbdaaGreat.M
set_option linter.unusedSimpArgs false
set_option linter.unusedVariables false
namespace Go.Proofs.YtenomejgjcpbdaaGreat.M
section
variable {ar t p : List Int} {g g' b : RowL}
theorem getD_set_self {b : RowL} {k : Nat} {x : List Int} (h : k < b.length) : (b.set k x).getD k [] = x := by
 rw [List.getD_eq_getElem?_getD, List.getElem?_set_self h]; rfl
theorem getD_set_other {b : RowL} {k j : Nat} {x : List Int} (h : k ≠ j) : (b.set k x).getD j [] = b.getD j [] := by
 rw [List.getD_eq_getElem?_getD, List.getElem?_set_ne h, ← List.getD_eq_getElem?_getD]
theorem mGo_sound (ht : termOk ar t = true) : ∀ (P : List Int) (n i e : Nat) (g g' : RowL), endGo ar P n = some P.length → endGo ar (t.drop i) n = some e → (∀ x ∈ P, -24 ≤ x) → g.length = 24 → mGo ar t P i g = some g' →
  FM g' P = (t.drop i).take e ∧ ∀ k, g.getD k [] ≠ [] → g'.getD k [] = g.getD k []
 | [], n, i, e, g, g', hP, hE, hr, hl, h => by
  simp [mGo] at h; subst h
  cases n with
  | zero => simp [endGo] at hE; subst hE; exact ⟨by simp [FM], fun k _ => rfl⟩
  | succ n => simp [endGo] at hP
 | x :: P, n, i, e, g, g', hP, hE, hr, hl, h => by
  obtain ⟨m, rfl, hx⟩ := Forest.lt (ar := ar) (r := P) (x := x) hP
  have hF := (Forest.cons hx).1 hP
  have hr' : ∀ y ∈ P, -24 ≤ y := fun y hy => hr y (List.mem_cons_of_mem _ hy)
  rw [mGo] at h
  split at h
  ·cases h
  ·rename_i hi
   have hi2 : i < t.length := by omega
   split at h
   ·rename_i h0
    split at h
    ·rename_i he
     rw [endGo_step (show 0 < m + 1 by omega) hi2 (by rw [he]; exact hx), he, show m + 1 - 1 = m from rfl] at hE
     cases hq : endGo ar (t.drop (i + 1)) (m + (arity ar x).toNat) with
     | none => rw [hq] at hE; simp at hE
     | some e1 =>
      rw [hq] at hE; simp at hE; subst hE
      obtain ⟨h1, h2⟩ := mGo_sound ht P _ (i + 1) e1 g g' hF hq hr' hl h
      refine ⟨?_, h2⟩
      rw [drop_get 0 hi2, List.take_succ_cons, he, ← h1, FM, List.flatMap_cons, lk_sym h0]
      rfl
    ·cases h
   ·rename_i h0
    rw [arity_var (by omega), show m + (0 : Int).toNat = m from rfl] at hF
    rw [Nat.add_comm m 1] at hE
    obtain ⟨e1, e2, h1, h2, rfl⟩ := endGo_split hE
    have hN : endN ar t i = i + e1 := endN_of h1
    have hS : sub ar t i = (t.drop i).take e1 := by unfold sub; rw [hN, Nat.add_sub_cancel_left]
    have hSl : (sub ar t i).length = e1 := by rw [sub_length ht hi2, hN, Nat.add_sub_cancel_left]
    have hne := sub_ne ht hi2
    have hv : varIx x < 24 := by have := hr x (by simp); unfold varIx; omega
    rw [List.drop_drop] at h2
    have fin : ∀ (g' : RowL), g'.getD (varIx x) [] = sub ar t i → FM g' P = (t.drop (i + e1)).take e2 → FM g' (x :: P) = (t.drop i).take (e1 + e2) := by
     intro g' h3 h4
     rw [FM, List.flatMap_cons, lk_some (by omega) (by rw [h3]; exact hne), h3, hS, List.take_add, List.drop_drop, ← h4]
    split at h
    ·rename_i he
     rw [hSl] at h
     obtain ⟨h3, h4⟩ := mGo_sound ht P m (i + e1) e2 _ g' hF h2 hr' (by rw [List.length_set]; exact hl) h
     refine ⟨fin g' ?_ h3, fun k hk => ?_⟩
     ·have := h4 (varIx x) (by rw [getD_set_self (by omega)]; exact hne)
      rw [this, getD_set_self (by omega)]
     ·have hkx : varIx x ≠ k := fun e => hk (e ▸ he)
      have := h4 k (by rw [getD_set_other hkx]; exact hk)
      rw [this, getD_set_other hkx]
    ·rename_i he
     split at h
     ·rename_i hq
      rw [hSl] at h
      obtain ⟨h3, h4⟩ := mGo_sound ht P m (i + e1) e2 g g' hF h2 hr' hl h
      exact ⟨fin g' (by rw [h4 _ he, hq]) h3, h4⟩
     ·cases h
theorem match_fm (hp : termOk ar p = true) (ht : termOk ar t = true) (h : matchB ar p t = some b) : FM b p = t := by
 have hT := termOk_iff.1 ht
 have hP := termOk_iff.1 hp
 have := (mGo_sound ht p 1 0 t.length _ b hP.whole (by rw [List.drop_zero]; exact hT.whole) hP.ge (by simp) h).1
 rwa [List.drop_zero, List.take_length] at this
end
section
variable {ar t f : List Int} {rs : Rules} {n : Int} {all : List FoundV} {ss ys : List StepV} {p many : Int} {s : RowL}
def againOk (ar : List Int) (rs : Rules) (f : List Int) (ss : List StepV) (p : Int) (s : RowL) (many : Int) : Prop := (sysOk ar rs && loopOkL ar rs f ss p s) = true ∧ 1 ≤ many ∧ many ≤ 60 ∧ many * (ss.length : Int) ≤ 60
instance : Decidable (againOk ar rs f ss p s many) := by unfold againOk; infer_instance
section
variable {m : Nat}
end
end
end Go.Proofs.YtenomejgjcpbdaaGreat.M
set_option linter.unusedSimpArgs false
set_option linter.unusedVariables false
namespace Go.Proofs.YtenomejgjcpbdaaGreat.M
section
variable {ar t p f A R Q : List Int} {g g' b : RowL} {a c k q m : Nat} {l : List Int}
theorem mGo_none_app {t : List Int} : ∀ (P : List Int) (i : Nat) (g : RowL), mGo ar t P i g = none → mGo ar t (P ++ Q) i g = none
 | [], i, g, h => by simp [mGo] at h
 | n :: P, i, g, h => by
  rw [List.cons_append, mGo]
  rw [mGo] at h
  split
  ·rfl
  ·rename_i hi
   rw [if_neg hi] at h
   split
   ·rename_i h0
    rw [if_pos h0] at h
    split
    ·rename_i he; rw [if_pos he] at h; exact mGo_none_app P _ _ h
    ·rfl
   ·rename_i h0
    rw [if_neg h0] at h
    split
    ·rename_i he; rw [if_pos he] at h; exact mGo_none_app P _ _ h
    ·rename_i he
     rw [if_neg he] at h
     split
     ·rename_i hq; rw [if_pos hq] at h; exact mGo_none_app P _ _ h
     ·rfl
theorem endGo_one (ht : termOk ar t = true) {i m e : Nat} (hi : i < t.length) (hE : endGo ar (t.drop i) (m + 1) = some e) : ∃ e2, endGo ar (t.drop (i + (sub ar t i).length)) m = some e2 ∧ e = (sub ar t i).length + e2 := by
 rw [Nat.add_comm m 1] at hE
 obtain ⟨e1, e2, h1, h2, rfl⟩ := endGo_split hE
 have hN : endN ar t i = i + e1 := endN_of h1
 have hSl : (sub ar t i).length = e1 := by rw [sub_length ht hi, hN, Nat.add_sub_cancel_left]
 rw [List.drop_drop] at h2
 exact ⟨e2, by rw [hSl]; exact h2, by rw [hSl]⟩
theorem endGo_sym {x : Int} {i m e : Nat} (hi : i < t.length) (hx : x < ar.length) (he : t.getD i 0 = x) (hE : endGo ar (t.drop i) (m + 1) = some e) : ∃ e1, endGo ar (t.drop (i + 1)) (m + (arity ar x).toNat) = some e1 ∧ e = e1 + 1 := by
 rw [endGo_step (show 0 < m + 1 by omega) hi (by rw [he]; exact hx), he, show m + 1 - 1 = m from rfl] at hE
 cases hq : endGo ar (t.drop (i + 1)) (m + (arity ar x).toNat) with
 | none => rw [hq] at hE; simp at hE
 | some e1 => rw [hq] at hE; simp at hE; exact ⟨e1, rfl, hE.symm⟩
theorem mGo_app (ht : termOk ar t = true) : ∀ (P : List Int) (n i e : Nat) (g g' : RowL), endGo ar P n = some P.length → endGo ar (t.drop i) n = some e → mGo ar t P i g = some g' → mGo ar t (P ++ Q) i g = mGo ar t Q (i + e) g'
 | [], n, i, e, g, g', hP, hE, h => by
  simp [mGo] at h; subst h
  cases n with
  | zero => simp [endGo] at hE; subst hE; rfl
  | succ n => simp [endGo] at hP
 | x :: P, n, i, e, g, g', hP, hE, h => by
  obtain ⟨m, rfl, hx⟩ := Forest.lt (ar := ar) (r := P) (x := x) hP
  have hF := (Forest.cons hx).1 hP
  rw [List.cons_append, mGo]
  rw [mGo] at h
  split at h
  ·cases h
  ·rename_i hi
   have hi2 : i < t.length := by omega
   rw [if_neg hi]
   split at h
   ·rename_i h0
    rw [if_pos h0]
    split at h
    ·rename_i he
     rw [if_pos he]
     obtain ⟨e1, h1, rfl⟩ := endGo_sym hi2 hx he hE
     rw [mGo_app ht P _ (i + 1) e1 g g' hF h1 h]
     congr 1; omega
    ·cases h
   ·rename_i h0
    rw [if_neg h0]
    rw [arity_var (by omega), show m + (0 : Int).toNat = m from rfl] at hF
    obtain ⟨e2, h1, rfl⟩ := endGo_one ht hi2 hE
    split at h
    ·rename_i he
     rw [if_pos he, mGo_app ht P m _ e2 _ g' hF h1 h, Nat.add_assoc]
    ·rename_i he
     rw [if_neg he]
     split at h
     ·rename_i hq
      rw [if_pos hq, mGo_app ht P m _ e2 _ g' hF h1 h, Nat.add_assoc]
     ·cases h
theorem mGo_loc (hf : termOk ar f = true) : ∀ (P : List Int) (n j : Nat) (g : RowL), endGo ar P n = some P.length → j ≤ f.length → endGo ar (f.drop j) n = some (f.length - j) → mGo ar (A ++ f ++ R) P (A.length + j) g = mGo ar f P j g
 | [], n, j, g, _, _, _ => by simp [mGo]
 | x :: P, n, j, g, hP, hj, hE => by
  obtain ⟨m, rfl, hx⟩ := Forest.lt (ar := ar) (r := P) (x := x) hP
  have hF := (Forest.cons hx).1 hP
  have hpos := endGo_pos hE
  have hj2 : j < f.length := by omega
  have hg : (A ++ f ++ R).getD (A.length + j) 0 = f.getD j 0 := by
   rw [getD_zero_drop, in_drop hj, drop_get 0 hj2]; rfl
  rw [mGo, mGo, if_neg (show ¬ (A ++ f ++ R).length ≤ A.length + j by simp only [List.length_append]; omega), if_neg (show ¬ f.length ≤ j by omega), hg, in_sub hf hj2]
  by_cases h0 : 0 ≤ x
  ·rw [if_pos h0, if_pos h0]
   by_cases he : f.getD j 0 = x
   ·rw [if_pos he, if_pos he]
    obtain ⟨e1, h1, h2⟩ := endGo_sym hj2 hx he hE
    exact mGo_loc hf P _ (j + 1) g hF (by omega) (by rw [h1]; congr 1; omega)
   ·rw [if_neg he, if_neg he]
  ·rw [if_neg h0, if_neg h0]
   rw [arity_var (by omega), show m + (0 : Int).toNat = m from rfl] at hF
   obtain ⟨e2, h1, h2⟩ := endGo_one hf hj2 hE
   have rec9 : ∀ g2, mGo ar (A ++ f ++ R) P (A.length + j + (sub ar f j).length) g2 = mGo ar f P (j + (sub ar f j).length) g2 := fun g2 => by
    rw [Nat.add_assoc]
    exact mGo_loc hf P m (j + (sub ar f j).length) g2 hF (by omega) (by rw [h1]; congr 1; omega)
   rw [rec9, rec9]
theorem mGo_sub (hp : termOk ar p = true) (ht : termOk ar t = true) (ha : a < p.length) (hc : c < t.length) : mGo ar t (sub ar p a) c g = mGo ar (sub ar t c) (sub ar p a) 0 g := by
 have h1 := (termOk_iff.1 (sub_ok hp ha)).whole
 have hs := sub_ok ht hc
 have h2 := (termOk_iff.1 hs).whole
 have hA : (t.take c).length = c := by rw [List.length_take]; omega
 have := mGo_loc (A := t.take c) (R := t.drop (endN ar t c)) hs (sub ar p a) 1 0 g h1 (Nat.zero_le _) (by rw [List.drop_zero, Nat.sub_zero]; exact h2)
 rw [← parts ht hc, hA, Nat.add_zero] at this
 exact this
theorem drop_sub (hp : termOk ar p = true) (ha : a < p.length) : p.drop a = sub ar p a ++ p.drop (endN ar p a) := by
 have he := endN_spec hp ha
 have h : p.drop (endN ar p a) = (p.drop a).drop (endN ar p a - a) := by rw [List.drop_drop]; congr 1; omega
 unfold sub
 rw [h, List.take_append_drop]
theorem mGo_argN (hp : termOk ar p = true) (ht : termOk ar t = true) (ha : a < p.length) (hc : c < t.length) (h : (mGo ar (sub ar t c) (sub ar p a) 0 g).isSome = false) : mGo ar t (p.drop a) c g = none := by
 rw [drop_sub hp ha]
 refine mGo_none_app _ _ _ ?_
 rw [mGo_sub hp ht ha hc]
 cases hx : mGo ar (sub ar t c) (sub ar p a) 0 g with
 | none => rfl
 | some v => rw [hx] at h; cases h
theorem mGo_argS (hp : termOk ar p = true) (ht : termOk ar t = true) (ha : a < p.length) (hc : c < t.length) (h : mGo ar (sub ar t c) (sub ar p a) 0 g = some g') : mGo ar t (p.drop a) c g = mGo ar t (p.drop (endN ar p a)) (endN ar t c) g' := by
 have he := endN_spec ht hc
 rw [drop_sub hp ha, mGo_app ht (sub ar p a) 1 c (endN ar t c - c) g g' (termOk_iff.1 (sub_ok hp ha)).whole (endN_go ht hc) (by rw [mGo_sub hp ht ha hc]; exact h)]
 congr 1; omega
def ArgAt (ar p : List Int) (k m q : Nat) : Prop := (∃ os : List Int, os.length = k ∧ argsL ar p 0 = os ++ argsGo ar p m q) ∧ Stand ar p m q p.length
theorem ArgAt.start (hp : termOk ar p = true) : ArgAt ar p 0 (argsL ar p 0).length 1 := by
 have hl := termOk_len hp
 have h := stand_start hp (p := 0) (by omega)
 have hN : endN ar p 0 = p.length := by rw [endN_of (by rw [List.drop_zero]; exact (termOk_iff.1 hp).whole), Nat.zero_add]
 rw [hN] at h
 rw [argsL_len]
 exact ⟨⟨[], rfl, rfl⟩, h⟩
theorem ArgAt.next (hp : termOk ar p = true) (h : ArgAt ar p k (m + 1) q) : (argsL ar p 0).getD k 0 = (q : Int) ∧ q < p.length ∧ ArgAt ar p (k + 1) m (endN ar p q) := by
 obtain ⟨⟨os, h1, h2⟩, h3⟩ := h
 obtain ⟨s1, s2, s3, s4⟩ := stand_step hp h3
 refine ⟨?_, s1, ⟨os ++ [(q : Int)], by simp [h1], by rw [h2, argsGo]; simp⟩, s2⟩
 rw [h2, argsGo, List.getD_eq_getElem?_getD, List.getElem?_append_right (by omega), h1, Nat.sub_self]
 rfl
theorem ArgAt.done (h : ArgAt ar p k 0 q) : q = p.length := by
 have := h.2.1
 simp [endGo] at this
 have := h.2.2
 omega
end
section
variable {ar t u v f : List Int} {rs es : Rules} {g g' b : RowL} {ss : List StepV}
def Under (g b : RowL) : Prop := g.length = 24 ∧ ∀ k, g.getD k [] = [] ∨ g.getD k [] = b.getD k []
theorem Under.refl (h : b.length = 24) : Under b b := ⟨h, fun k => .inr rfl⟩
theorem Under.nil : Under (List.replicate 24 []) b := ⟨by simp, fun k => .inl (by rw [List.getD_eq_getElem?_getD, List.getElem?_replicate]; split <;> simp)⟩
theorem mGo_again {T : List Int} (hT : termOk ar T = true) (hb : RowsOk ar b) : ∀ (P : List Int) (i : Nat) (g : RowL) (R : List Int), T.drop i = FM b P ++ R → (∀ x ∈ P, -24 ≤ x) → (∀ n ∈ P, n < 0 → b.getD (varIx n) [] ≠ []) → Under g b → ∃ g', mGo ar T P i g = some g' ∧ Under g' b
 | [], i, g, R, _, _, _, hg => ⟨g, rfl, hg⟩
 | x :: P, i, g, R, hd, hr, hn, hg => by
  have hr' : ∀ y ∈ P, -24 ≤ y := fun y hy => hr y (List.mem_cons_of_mem _ hy)
  have hn' : ∀ n ∈ P, n < 0 → b.getD (varIx n) [] ≠ [] := fun n hm => hn n (List.mem_cons_of_mem _ hm)
  have hi : i < T.length := by
   have h1 := congrArg List.length hd
   have h2 := fm_pos (s := b) (t := x :: P) (by simp)
   rw [List.length_drop, List.length_append] at h1
   omega
  rw [FM, List.flatMap_cons] at hd
  rw [mGo, if_neg (by omega)]
  by_cases h0 : 0 ≤ x
  ·rw [lk_sym h0] at hd
   have he : T.getD i 0 = x := by rw [getD_zero_drop, hd]; rfl
   rw [if_pos h0, if_pos he]
   refine mGo_again hT hb P (i + 1) g R ?_ hr' hn' hg
   rw [← List.drop_drop, hd]; rfl
  ·have hS := hn x (by simp) (by omega)
   rw [lk_some (by omega) hS, List.append_assoc] at hd
   rw [if_neg h0]
   have hSo : termOk ar (b.getD (varIx x) []) = true := (hb (varIx x)).resolve_left hS
   generalize hSd : b.getD (varIx x) [] = S at hS hd hSo
   have hw := endGo_more (b := P.flatMap (lk b) ++ R) (termOk_iff.1 hSo).whole
   rw [← hd] at hw
   have hN := endN_of hw
   have hsub : sub ar T i = S := by
    unfold sub
    rw [hN, Nat.add_sub_cancel_left, hd, List.take_left]
   rw [hsub]
   have hd2 : T.drop (i + S.length) = FM b P ++ R := by rw [← List.drop_drop, hd, List.drop_left]
   have hv : varIx x < g.length := by rw [hg.1]; have := hr x (by simp); unfold varIx; omega
   rcases hg.2 (varIx x) with h1 | h1
   ·rw [if_pos h1]
    refine mGo_again hT hb P _ _ R hd2 hr' hn' ⟨by rw [List.length_set]; exact hg.1, fun k => ?_⟩
    by_cases hk : varIx x = k
    ·subst hk; right; rw [getD_set_self hv, hSd]
    ·rw [getD_set_other hk]; exact hg.2 k
   ·rw [hSd] at h1
    rw [if_neg (by rw [h1]; exact hS), if_pos h1]
    exact mGo_again hT hb P _ _ R hd2 hr' hn' hg
theorem again_term {p : List Int} (hT : termOk ar t = true) (hb : RowsOk ar b) (hp : termOk ar p = true) (hn : ∀ n ∈ p, n < 0 → b.getD (varIx n) [] ≠ []) (e : FM b p = t) (hg : Under g b) : ∃ g', mGo ar t p 0 g = some g' ∧ Under g' b :=
 mGo_again hT hb p 0 g [] (by rw [List.drop_zero, List.append_nil]; exact e.symm) (termOk_iff.1 hp).ge hn hg
def pairM (ar a c u v : List Int) : Bool := match matchB ar a u with | none => false | some g => (mGo ar v c 0 g).isSome
def sideA (e : List Int × List Int) (b : Bool) : List Int := if b = true then e.2 else e.1
def sideB (e : List Int × List Int) (b : Bool) : List Int := if b = true then e.1 else e.2
def moveIn (es : Rules) (t : List Int) (m : MoveV) : Prop := (0 ≤ m.1 ∧ m.1 < (es.length : Int)) ∧ 0 ≤ m.2.1 ∧ m.2.1 < (t.length : Int)
instance (es : Rules) (t : List Int) (m : MoveV) : Decidable (moveIn es t m) := by unfold moveIn; infer_instance
def moveB (ar : List Int) (es : Rules) (t : List Int) (m : MoveV) : Bool :=
 decide (moveIn es t m) && posOk ar m.2.2.2 m.2.1 && decide (putL ar t m.2.1.toNat (sub ar m.2.2.2 m.2.1.toNat) = some m.2.2.2) &&
  pairM ar (sideA (es.getD m.1.toNat ([], [])) m.2.2.1) (sideB (es.getD m.1.toNat ([], [])) m.2.2.1) (sub ar t m.2.1.toNat) (sub ar m.2.2.2 m.2.1.toNat)
theorem moveB_iff {m : MoveV} : moveB ar es t m = true ↔ moveIn es t m ∧ posOk ar m.2.2.2 m.2.1 = true ∧ putL ar t m.2.1.toNat (sub ar m.2.2.2 m.2.1.toNat) = some m.2.2.2 ∧
  pairM ar (sideA (es.getD m.1.toNat ([], [])) m.2.2.1) (sideB (es.getD m.1.toNat ([], [])) m.2.2.1) (sub ar t m.2.1.toNat) (sub ar m.2.2.2 m.2.1.toNat) = true := by
 simp only [moveB, Bool.and_eq_true, decide_eq_true_eq, and_assoc]
def movesGo (ar : List Int) (es : Rules) : List Int → List MoveV → Bool
 | _, [] => true
 | t, m :: ms => moveB ar es t m && movesGo ar es m.2.2.2 ms
def chainOkL (ar : List Int) (es : Rules) (f : List Int) (ms : List MoveV) : Bool := eqsOkL ar es && termOk ar f && decide (ms.length ≤ 60) && movesGo ar es f ms
theorem pairM_of {a c : List Int} (h : matchB ar a u = some g) (h2 : ∃ g', mGo ar v c 0 g = some g') : pairM ar a c u v = true := by
 obtain ⟨g', h2⟩ := h2
 rw [pairM, h]
 show (mGo ar v c 0 g).isSome = true
 rw [h2]; rfl
theorem step_moves {p r : Int} (h : stepAtL ar rs t p r = some u) : moveB ar rs t (r, p, false, u) = true ∧ moveB ar rs u (r, p, true, t) = true := by
 have huo := (right_iff.1 (stepAtL_ok h).1).2
 obtain ⟨h1, h2⟩ := stepAtL_iff.1 h
 obtain ⟨⟨hs, ht⟩, hp, hr⟩ := stepAtOk_iff.1 h1
 have hp2 : p.toNat < t.length := by omega
 have hR := ruleOk_iff.1 ((sysOk_iff.1 hs).2.2 r.toNat (by omega))
 unfold stepL at h2
 split at h2
 ·cases h2
 ·rename_i b hb
  split at h2
  ·cases h2
  ·rename_i w hw
   have hso := sub_ok ht hp2
   have hbo := matchB_ok hso hb
   have hb24 := (matchB_len hb).1
   have hwo := fill_ok hbo hR.right hw
   have ew := fillL_flat hw
   have el := match_fm hR.left hso hb
   have hbl := matchB_bind hso (fun x hx => (termOk_iff.1 hR.left).ge x hx) hb
   have hbr : ∀ n ∈ (rs.getD r.toNat ([], [])).2, n < 0 → b.getD (varIx n) [] ≠ [] := fun n hn h0 => hbl n (hR.vars n hn h0) h0
   have esub := sub_put hp2 hwo h2
   have eu := putL_eq h2
   have hul := congrArg List.length eu
   have hw1 := termOk_len hwo
   simp only [List.length_append, List.length_take] at hul
   have hpu : p.toNat < u.length := by omega
   have het := endN_spec ht hp2
   refine ⟨moveB_iff.2 ⟨⟨hr, hp⟩, posOk_iff.2 ⟨huo, hp.1, by dsimp only; omega⟩, ?_, ?_⟩, moveB_iff.2 ⟨⟨hr, hp.1, by dsimp only; omega⟩, posOk_iff.2 ⟨ht, hp.1, hp.2⟩, ?_, ?_⟩⟩
   ·dsimp only; rw [esub]; exact h2
   ·dsimp only; rw [esub]
    obtain ⟨g', h3, _⟩ := again_term hwo hbo hR.right hbr ew.symm (Under.refl hb24)
    exact pairM_of hb ⟨g', h3⟩
   ·dsimp only
    have hA : (t.take p.toNat).length = p.toNat := by rw [List.length_take]; omega
    have hE : endN ar u p.toNat = p.toNat + w.length := by
     have h9 := in_end (A := t.take p.toNat) (R := t.drop (endN ar t p.toNat)) hwo (q := 0) (by omega)
     rw [← eu, hA, Nat.add_zero] at h9
     rw [h9, endN_of (by rw [List.drop_zero]; exact (termOk_iff.1 hwo).whole)]
     omega
    have hT : u.take p.toNat = t.take p.toNat := by
     have h9 := List.take_left (l₁ := t.take p.toNat) (l₂ := w ++ t.drop (endN ar t p.toNat))
     rw [hA, ← List.append_assoc, ← eu] at h9
     exact h9
    have hD : u.drop (endN ar u p.toNat) = t.drop (endN ar t p.toNat) := by
     have h9 := List.drop_left (l₁ := t.take p.toNat ++ w) (l₂ := t.drop (endN ar t p.toNat))
     rw [List.length_append, hA, ← eu] at h9
     rw [hE]
     exact h9
    have e := parts ht hp2
    refine putL_some ?_ (by have := (termOk_len ht).2; omega)
    rw [hT, hD]
    exact e
   ·dsimp only; rw [esub]
    obtain ⟨g1, h3, h4⟩ := again_term hwo hbo hR.right hbr ew.symm (Under.nil (b := b))
    obtain ⟨g2, h5, _⟩ := again_term hso hbo hR.left hbl el h4
    exact pairM_of h3 ⟨g2, h5⟩
theorem eqs_of_sys (hs : sysOk ar rs = true) : eqsOkL ar rs = true := by
 obtain ⟨h1, h2, h3⟩ := sysOk_iff.1 hs
 simp only [eqsOkL, Bool.and_eq_true, decide_eq_true_eq]
 refine ⟨⟨h1, h2⟩, List.all_eq_true.2 fun x hx => ?_⟩
 obtain ⟨i, hi, rfl⟩ := List.getElem_of_mem hx
 have h := ruleOk_iff.1 (h3 i hi)
 rw [show rs.getD i ([], []) = rs[i] from by simp [List.getD, hi]] at h
 simp only [eqOkL, Bool.and_eq_true]
 exact ⟨h.left, h.right⟩
theorem moves_of_walk : ∀ (ss : List StepV) (f : List Int), goOk ar rs f ss = true → movesGo ar rs f (chainL ss) = true
 | [], f, _ => rfl
 | s :: ss, f, h => by
  simp only [goOk, Bool.and_eq_true, decide_eq_true_eq] at h
  show (moveB ar rs f (mvOf s) && movesGo ar rs s.2.2 (chainL ss)) = true
  rw [show moveB ar rs f (mvOf s) = true from (step_moves h.1).1, moves_of_walk ss s.2.2 h.2]
  rfl
theorem chain_law (h : walkOkL ar rs f ss = true) : chainOkL ar rs f (chainL ss) = true := by
 obtain ⟨h1, h2, h3⟩ := walkOkL_iff.1 h
 obtain ⟨hs, hf⟩ := right_iff.1 h1
 rw [chainOkL, eqs_of_sys hs, hf, moves_of_walk ss f h3]
 simp [chainL]; exact h2
end
end Go.Proofs.YtenomejgjcpbdaaGreat.M
set_option linter.unusedSimpArgs false
set_option linter.unusedVariables false
namespace Go.Proofs.YtenomejgjcpbdaaGreat.M
section
variable {ar t p f u : List Int} {g g' : RowL} {rs : Rules} {ss : List StepV} {a qa qb k m : Nat} {n : Int}
theorem term_one (hp : termOk ar p = true) (h : p.getD 0 0 < 0) : p = [p.getD 0 0] := by
 have h1 := (termOk_iff.1 hp).whole
 have hl := termOk_len hp
 cases p with
 | nil => simp at hl
 | cons x r =>
  have hx : x < 0 := by simpa using h
  obtain ⟨m, hm, hx2⟩ := Forest.lt (ar := ar) (r := r) (x := x) (n := 1) h1
  obtain rfl : m = 0 := by omega
  have hF := (Forest.cons hx2).1 h1
  rw [arity_var hx] at hF
  cases r with
  | nil => rfl
  | cons y s => simp [Forest, endGo] at hF
theorem mGo_var (hp : termOk ar p = true) (ht : termOk ar t = true) (h : p.getD 0 0 < 0) : mGo ar t p 0 g = if g.getD (varIx (p.getD 0 0)) [] = [] then some (g.set (varIx (p.getD 0 0)) t) else if g.getD (varIx (p.getD 0 0)) [] = t then some g else none := by
 have hl := termOk_len ht
 rw [show mGo ar t p 0 g = mGo ar t [p.getD 0 0] 0 g from by rw [← term_one hp h], mGo, if_neg (by omega), if_neg (by omega), sub_zero' ht]
 rfl
theorem mGo_symN (hp : termOk ar p = true) (h : 0 ≤ p.getD 0 0) (hd : p.getD 0 0 ≠ t.getD 0 0) : mGo ar t p 0 g = none := by
 have hl := termOk_len hp
 rw [show p = p.drop 0 from rfl, drop_get 0 (by omega), mGo]
 split
 ·rfl
 ·first | rw [if_neg (fun e => hd e.symm)] | rw [if_pos h, if_neg (fun e => hd e.symm)]
theorem mGo_symS (hp : termOk ar p = true) (ht : termOk ar t = true) (h : 0 ≤ p.getD 0 0) (hd : p.getD 0 0 = t.getD 0 0) : mGo ar t p 0 g = mGo ar t (p.drop 1) 1 g := by
 have hl := termOk_len hp
 have hl2 := termOk_len ht
 have e : p = p.getD 0 0 :: p.drop 1 := drop_get (l := p) (k := 0) 0 (by omega)
 rw [show mGo ar t p 0 g = mGo ar t (p.getD 0 0 :: p.drop 1) 0 g from congrArg (fun z => mGo ar t z 0 g) e, mGo, if_neg (by omega), if_pos h, if_pos hd.symm]
theorem walkB_small {st : Int} (hn : n ≤ 60) : (walkB ar rs t st n).1.length ≤ 2000 ∧ (walkB ar rs t st n).2.1.length ≤ 60 ∧ smallT (walkB ar rs t st n).2.1 := by
 have h := walkB_bounds (ar := ar) (rs := rs) (t := t) (st := st) (n := n)
 refine ⟨by omega, walkB_len, fun i => ?_⟩
 by_cases hi : i < (walkB ar rs t st n).2.1.length
 ·have := h.2.1 i hi; omega
 ·rw [List.getD_eq_getElem?_getD, List.getElem?_eq_none (by omega)]; simp
theorem goOk_step (h : goOk ar rs f (ss.drop k) = true) (hk : k < ss.length) : stepAtL ar rs f (ss.getD k (0, 0, [])).1 (ss.getD k (0, 0, [])).2.1 = some (ss.getD k (0, 0, [])).2.2 ∧ goOk ar rs (ss.getD k (0, 0, [])).2.2 (ss.drop (k + 1)) = true := by
 rw [drop_get (0, 0, []) hk, goOk] at h
 simpa using h
theorem pairM_none {a c : List Int} (h : (mGo ar u a 0 (List.replicate 24 [])).isSome = false) : pairM ar a c u f = false := by
 unfold pairM matchB
 cases hx : mGo ar u a 0 (List.replicate 24 []) with
 | none => rfl
 | some v => rw [hx] at h; cases h
theorem pairM_some {a c : List Int} (h : mGo ar u a 0 (List.replicate 24 []) = some g) : pairM ar a c u f = (mGo ar f c 0 g).isSome := by
 unfold pairM matchB
 rw [h]
theorem moveB_eq {es : Rules} {mv : MoveV} (h1 : moveIn es t mv) (h2 : posOk ar mv.2.2.2 mv.2.1 = true) (h3 : putL ar t mv.2.1.toNat (sub ar mv.2.2.2 mv.2.1.toNat) = some mv.2.2.2) :
  moveB ar es t mv = pairM ar (sideA (es.getD mv.1.toNat ([], [])) mv.2.2.1) (sideB (es.getD mv.1.toNat ([], [])) mv.2.2.1) (sub ar t mv.2.1.toNat) (sub ar mv.2.2.2 mv.2.1.toNat) := by
 unfold moveB
 rw [decide_eq_true h1, h2, decide_eq_true h3]
 simp
theorem moveB_no1 {es : Rules} {mv : MoveV} (h : ¬ (moveIn es t mv ∧ posOk ar mv.2.2.2 mv.2.1 = true)) : moveB ar es t mv = false := Bool.eq_false_iff.2 fun hb => h ⟨(moveB_iff.1 hb).1, (moveB_iff.1 hb).2.1⟩
theorem moveB_no2 {es : Rules} {mv : MoveV} (h : putL ar t mv.2.1.toNat (sub ar mv.2.2.2 mv.2.1.toNat) ≠ some mv.2.2.2) : moveB ar es t mv = false := Bool.eq_false_iff.2 fun hb => h (moveB_iff.1 hb).2.2.1
theorem put_is {p : Nat} (h1 : (putL ar t p f).isSome = true) (h2 : (putL ar t p f).getD [] = u) : putL ar t p f = some u := by
 cases hx : putL ar t p f with
 | none => rw [hx] at h1; cases h1
 | some v => rw [hx] at h2; exact congrArg some h2
theorem eqsOk_term {es : Rules} (h : eqsOkL ar es = true) {i : Nat} (hi : i < es.length) : termOk ar (es.getD i ([], [])).1 = true ∧ termOk ar (es.getD i ([], [])).2 = true := by
 simp only [eqsOkL, Bool.and_eq_true, decide_eq_true_eq] at h
 have := List.all_eq_true.1 h.2 es[i] (List.getElem_mem hi)
 simp only [eqOkL, Bool.and_eq_true] at this
 rw [show es.getD i ([], []) = es[i] from by simp [List.getD, hi]]
 exact this
theorem movesGo_end {es : Rules} {ms : List MoveV} (h : ms.length ≤ k) : movesGo ar es f (ms.drop k) = true := by rw [List.drop_eq_nil_of_le h]; rfl
theorem movesGo_next {es : Rules} {ms : List MoveV} (hk : k < ms.length) (h : moveB ar es f (ms.getD k (0, 0, false, [])) = true) : movesGo ar es f (ms.drop k) = movesGo ar es (ms.getD k (0, 0, false, [])).2.2.2 (ms.drop (k + 1)) := by
 rw [drop_get (0, 0, false, []) hk, movesGo, h]; rfl
theorem movesGo_fail {es : Rules} {ms : List MoveV} (hk : k < ms.length) (h : moveB ar es f (ms.getD k (0, 0, false, [])) = false) : movesGo ar es f (ms.drop k) = false := by
 rw [drop_get (0, 0, false, []) hk, movesGo, h]; rfl
theorem moveB_to {es : Rules} {mv : MoveV} (h : moveB ar es t mv = true) : termOk ar mv.2.2.2 = true := (posOk_iff.1 (moveB_iff.1 h).2.1).1
def eqsF (ar : List Int) (rs : Rules) : Rules := if sysOk ar rs = true then rs else []
theorem moveB_no1' {es : Rules} {i j : Int} {b : Bool} (h : ¬ (0 ≤ i ∧ i < (es.length : Int) ∧ 0 ≤ j ∧ j < (t.length : Int) ∧ posOk ar u j = true)) : moveB ar es t (i, j, b, u) = false := moveB_no1 fun ⟨⟨⟨q1, q2⟩, q3, q4⟩, q5⟩ => h ⟨q1, q2, q3, q4, q5⟩
theorem moveB_no2' {es : Rules} {i j : Int} {b : Bool} (h : putL ar t j.toNat (sub ar u j.toNat) ≠ some u) : moveB ar es t (i, j, b, u) = false := moveB_no2 h
theorem moveB_eq' {es : Rules} {i j : Int} {b : Bool} {a c : List Int} (h : 0 ≤ i ∧ i < (es.length : Int) ∧ 0 ≤ j ∧ j < (t.length : Int) ∧ posOk ar u j = true) (h3 : putL ar t j.toNat (sub ar u j.toNat) = some u)
  (ha : sideA (es.getD i.toNat ([], [])) b = a) (hc : sideB (es.getD i.toNat ([], [])) b = c) : moveB ar es t (i, j, b, u) = pairM ar a c (sub ar t j.toNat) (sub ar u j.toNat) := by
 rw [← ha, ← hc]
 exact moveB_eq ⟨⟨h.1, h.2.1⟩, h.2.2.1, h.2.2.2.1⟩ h.2.2.2.2 h3
theorem sideA_t {e : List Int × List Int} {b : Bool} (h : b = true) : sideA e b = e.2 := if_pos h
theorem sideB_t {e : List Int × List Int} {b : Bool} (h : b = true) : sideB e b = e.1 := if_pos h
theorem sideA_f {e : List Int × List Int} {b : Bool} (h : b = false) : sideA e b = e.1 := if_neg (by rw [h]; simp)
theorem sideB_f {e : List Int × List Int} {b : Bool} (h : b = false) : sideB e b = e.2 := if_neg (by rw [h]; simp)
theorem opt_is {x : Option RowL} (h : x.isSome = true) (h2 : ∀ r, x = some r → g = r) : x = some g := by
 cases x with
 | none => cases h
 | some v => rw [h2 v rfl]
theorem chainWF_ok : (chainWF ar rs f ss).2.2 = walkOkL ar rs f ss := by
 cases h : walkOkL ar rs f ss with
 | true => rw [chainWF_yes h]
 | false => rw [chainWF_no h]
theorem eqsF_yes (h : sysOk ar rs = true) : eqsF ar rs = rs := if_pos h
theorem eqsF_no (h : sysOk ar rs = false) : eqsF ar rs = [] := if_neg (by rw [h]; simp)
def chainEndF (ar : List Int) (es : Rules) (f : List Int) (ms : List MoveV) : List Int := if chainOkL ar es f ms = true then endM f ms else []
theorem chainEndF_yes {es : Rules} {ms : List MoveV} (h : chainOkL ar es f ms = true) : chainEndF ar es f ms = endM f ms := if_pos h
theorem chainEndF_no {es : Rules} {ms : List MoveV} (h : chainOkL ar es f ms = false) : chainEndF ar es f ms = [] := if_neg (by rw [h]; simp)
theorem chain_law2 (h : walkOkL ar rs f ss = true) : chainOkL ar rs (chainWF ar rs f ss).1 (chainWF ar rs f ss).2.1 = true := by rw [chainWF_yes h]; exact chain_law h
theorem chain_end (h : walkOkL ar rs f ss = true) : chainEndF ar rs (chainWF ar rs f ss).1 (chainWF ar rs f ss).2.1 = endT ar rs f ss := by
 rw [chainEndF_yes (chain_law2 h), chainWF_yes h, endT, if_pos h]
 exact endM_chain
theorem chain_from (h : walkOkL ar rs f ss = false) : (chainWF ar rs f ss).1 = [] := by rw [chainWF_no h]
theorem argAt_less {q : Nat} (hp : termOk ar p = true) (hq : q < p.length) (h1 : 1 ≤ q) : (sub ar p q).length < p.length := by
 have h2 := sub_length hp hq
 have h3 := endN_spec hp hq
 omega
end
end Go.Proofs.YtenomejgjcpbdaaGreat.M
set_option linter.unusedSimpArgs false
set_option linter.unusedVariables false
namespace Go.Proofs.YtenomejgjcpbdaaGreat.X
open Go Go.WideShapes Go.ChangeShapes Go.RowKit
def fhOf (w : World) : FH := ⟨fun b => w.heap[b]?, w.os, w.output, w.tape⟩
theorem holds_fhOf (w : World) : Holds (fhOf w) [] w := ⟨rfl, rfl, rfl, fun _ _ h => h, [], rfl, List.nodup_nil, fun p hp => absurd hp (by simp)⟩
theorem cell_fhOf (w : World) (a : Addr) : (fhOf w).cell? a = w.cell? a := by
 unfold FH.cell? World.cell? fhOf
 rfl
theorem below_of_holds {w w' : World} {F' : FH} {L' : List HP} (le : fhOf w ≤ F') (h : Holds F' L' w') : Below w.heap.size w w' := by
 have key : ∀ k o, w.heap[k]? = some o → w'.heap[k]? = some o := fun k o hk => h.cells k o (le.cells k o hk)
 refine ⟨h.os.trans le.os, h.tape.trans le.tape, h.output.trans le.output, ?_, fun k hk => ?_⟩
 ·rcases Nat.eq_zero_or_pos w.heap.size with h0 | h0
  ·omega
  ·have h1 : w.heap[w.heap.size - 1]? = some (w.heap[w.heap.size - 1]'(by omega)) := Array.getElem?_eq_getElem (by omega)
   have h2 := (Array.getElem?_eq_some_iff.1 (key _ _ h1)).1
   omega
 ·have h1 : w.heap[k]? = some (w.heap[k]'hk) := Array.getElem?_eq_getElem hk
  rw [h1]
  exact key _ _ h1
def Opens (P : Program) (t : TypeId) {α : Type} (R : FH → List Value → α → Prop) (B : α → Prop) : Prop :=
 ∀ (H : Type) (enc : TypeId × Value → H) (w : World) (base : Nat) (spare : Nat → Bool) (held : Bool) (fuel : Nat) (cs : List Value) (x : DataW H × List MemPlace),
  DataW.trod enc P w base spare held fuel t cs = some x → ∃ a, R (fhOf w) cs a ∧ B a
variable {P : Program} {t e : TypeId}
theorem opens_slice {α : Type} {R : FH → List Value → α → Prop} {B : α → Prop} {s : Nat} (d : α) (ht : P.underlying t = some (.slice e)) (hc : P.cellsOf e = s) (ho : Opens P e R B) :
  Opens P t (fun F cs (xs : List α) => ∃ v, cs = [v] ∧ SlOf s R d F v xs) (fun xs => xs.length ≤ 9223372036854775807 ∧ ∀ i, i < xs.length → B (xs.getD i d)) := by
 intro H enc w base spare held fuel cs x h
 rcases Go.Deep.open_slice ht h with ⟨rfl, _⟩ | ⟨a, len, cap, m, n, D, Pl, rfl, hb, hl, hm, hmm, _, hx⟩
 ·exact ⟨[], ⟨_, rfl, [], ⟨by simp, none, 0, rfl, by simp, fun _ => rfl, fun a h => by cases h⟩, fun i hi => by simp at hi⟩, by simp, fun i hi => by simp at hi⟩
 ·have hlm : len ≤ m := by rw [hmm]; split <;> omega
  rw [hc] at hx
  have each : ∀ i, i < len → ∃ q : α, ∃ cs' : List Value, cs'.length = s ∧ (∀ r, r < s → w.cell? (a.add (i * s + r)) = cs'[r]?) ∧ R (fhOf w) cs' q ∧ B q := by
   intro i hi
   obtain ⟨cs', h1, h2⟩ := hx i (by omega)
   obtain ⟨_, hlen, hcell⟩ := World.cells?_some h1
   obtain ⟨q, hq, hbq⟩ := ho H enc w base spare held n cs' _ h2
   exact ⟨q, cs', hlen, fun r hr => by rw [← hcell r hr, add_add], hq, hbq⟩
  have ⟨q, hq⟩ : ∃ q : Nat → α, ∀ i, i < len → ∃ cs' : List Value, cs'.length = s ∧ (∀ r, r < s → w.cell? (a.add (i * s + r)) = cs'[r]?) ∧ R (fhOf w) cs' (q i) ∧ B (q i) := by
   haveI : Inhabited α := ⟨d⟩
   exact Go.Deep.choose_lt each
  let V : Nat → Value := fun j => (w.cell? (a.add j)).getD undef
  have hV : ∀ j, j < len * s → w.cell? (a.add j) = some (V j) := by
   intro j hj
   have hs : 0 < s := by rcases Nat.eq_zero_or_pos s with h0 | h0; subst h0; simp at hj; exact h0
   have hdiv : j / s < len := (Nat.div_lt_iff_lt_mul hs).2 hj
   obtain ⟨cs', hl', hcell, _⟩ := hq (j / s) hdiv
   have hr := hcell (j % s) (Nat.mod_lt _ hs)
   have e1 : j / s * s + j % s = j := by rw [Nat.mul_comm]; exact Nat.div_add_mod j s
   rw [e1] at hr
   have hlt : j % s < cs'.length := by rw [hl']; exact Nat.mod_lt _ hs
   rw [List.getElem?_eq_getElem hlt] at hr
   show w.cell? (a.add j) = some ((w.cell? (a.add j)).getD undef)
   rw [hr]; rfl
  have hxl : ((List.range len).map q).length = len := by simp
  have hgd : ∀ i, i < len → ((List.range len).map q).getD i d = q i := fun i hi => by simp [List.getD, hi]
  refine ⟨(List.range len).map q, ⟨_, rfl, (List.range (len * s)).map V, ⟨by simp, some a, cap, by rw [hxl], by omega, (fun h => by cases h), ?_⟩, ?_⟩, by rw [hxl]; unfold maxLen at hm; omega, fun i hi => ?_⟩
  ·intro a' ha i u hu
   obtain rfl := Option.some.inj ha
   have hi : i < len * s := by have := (List.getElem?_eq_some_iff.1 hu).1; simpa using this
   rw [cell_fhOf, hV i hi]
   rw [List.getElem?_map, List.getElem?_range hi] at hu
   exact hu
  ·intro i hi
   rw [hxl] at hi
   obtain ⟨cs', hl', hcell, hR, _⟩ := hq i hi
   refine ⟨cs', hl', ?_, by rw [hgd i hi]; exact hR⟩
   have hle : i * s + s ≤ len * s := by
    have : (i + 1) * s ≤ len * s := Nat.mul_le_mul_right s hi
    rwa [Nat.succ_mul] at this
   apply List.ext_getElem?
   intro r
   rcases Nat.lt_or_ge r s with hr | hr
   ·rw [List.getElem?_take, if_pos hr, List.getElem?_drop, List.getElem?_map, List.getElem?_range (by omega), ← hcell r hr, hV _ (by omega)]; rfl
   ·rw [List.getElem?_eq_none (by simp; omega), List.getElem?_eq_none (by omega)]
  ·rw [hxl] at hi
   obtain ⟨_, _, _, _, hB⟩ := hq i hi
   rw [hgd i hi]
   exact hB
theorem Opens.mono {α : Type} {R R' : FH → List Value → α → Prop} {B B' : α → Prop} (h : Opens P t R B) (hR : ∀ F cs a, R F cs a → R' F cs a) (hB : ∀ a, B a → B' a) : Opens P t R' B' := fun H enc w base spare held fuel cs x hx =>
 let ⟨a, h1, h2⟩ := h H enc w base spare held fuel cs x hx
 ⟨a, hR _ _ _ h1, hB _ h2⟩
theorem Opens.slv {α : Type} {R : FH → List Value → α → Prop} {B : α → Prop} (h : Opens P t R B) (ht : P.underlying t = some (.slice e)) {H : Type} {enc : TypeId × Value → H} {w : World} {r : Reach} {base b0 : Nat} {spare : Nat → Bool} {held : Bool} {v : Value} {d : DataW H} {ps : List MemPlace}
  (hv : Value.okWide P w r b0 t v) (ht' : DataW.Trod enc P w base spare held t v d ps) : ∃ a, R (fhOf w) [v] a ∧ B a := by
 obtain ⟨a, l, c, rfl⟩ := okWide_slice ht hv
 obtain ⟨n, hn⟩ := ht'
 exact h H enc w base spare held n _ _ hn
theorem Opens.agg {α : Type} {R : FH → List Value → α → Prop} {B : α → Prop} (h : Opens P t R B) {fs : Array Field} (ht : P.underlying t = some (.struct fs)) {H : Type} {enc : TypeId × Value → H} {w : World} {r : Reach} {base b0 : Nat} {spare : Nat → Bool} {held : Bool} {v : Value} {d : DataW H} {ps : List MemPlace}
  (hv : Value.okWide P w r b0 t v) (ht' : DataW.Trod enc P w base spare held t v d ps) : ∃ cs : List Value, v = .agg cs.toArray ∧ ∃ a, R (fhOf w) cs a ∧ B a := by
 obtain ⟨cs, rfl, _⟩ := okWide_struct ht hv
 obtain ⟨n, hn⟩ := ht'
 exact ⟨cs.toList, by simp, h H enc w base spare held n _ _ hn⟩
theorem Opens.int {k : IntKind} (ht : P.underlying t = some (.int k)) {H : Type} {enc : TypeId × Value → H} {w : World} {r : Reach} {base b0 : Nat} {spare : Nat → Bool} {held : Bool} {v : Value} {d : DataW H} {ps : List MemPlace}
  (hv : Value.okWide P w r b0 t v) (ht' : DataW.Trod enc P w base spare held t v d ps) : ∃ n, v = .int k n ∧ (Lit.int k n).wf = true := by
 obtain ⟨n, rfl, _, _, hw⟩ := open_int ht hv ht'
 exact ⟨n, rfl, hw⟩
theorem trodAll_below {H : Type} {enc : TypeId × Value → H} (hl : laidOutB P = true) {W W' : World} (hb : Below W.heap.size W W') {sp : Nat → Bool} :
  ∀ {ts : List TypeId} {vs : List Value} {ds : List (DataW H)} {ps : List MemPlace}, (ts.all fun t => P.readableRec t && decide (t < P.types.size)) = true → DataW.TrodAll enc P W 0 (fun _ => true) true ts vs ds ps →
   (∀ x ∈ ps, x.block < W.heap.size) → (∀ p ∈ ps, sp p.block = true) → DataW.TrodAll enc P W' 0 sp true ts vs ds ps
 | [], [], [], _, _, h, _, _ => h
 | [], _ :: _, _, _, _, h, _, _ => by cases h
 | [], [], _ :: _, _, _, h, _, _ => by cases h
 | _ :: _, [], _, _, _, h, _, _ => by cases h
 | _ :: _, _ :: _, [], _, _, h, _, _ => by cases h
 | t :: ts, v :: vs, d :: ds, ps, hr, h, hlt, hsp => by
  obtain ⟨p, q, h1, h2, rfl⟩ := h
  simp only [List.all_cons, Bool.and_eq_true, decide_eq_true_eq] at hr
  exact ⟨p, q, Go.WideElems.Trod_stays hl hr.1.1 hr.1.2 h1 (fun x hx => hb.same (hlt x (List.mem_append_left _ hx))) (fun x hx => hsp x (List.mem_append_left _ hx)),
   trodAll_below hl hb hr.2 h2 (fun x hx => hlt x (List.mem_append_right _ hx)) (fun x hx => hsp x (List.mem_append_right _ hx)), rfl⟩
theorem post_of_law {H : Type} {enc : TypeId × Value → H} {f : Func} {s : ChangeSpec} {apart fresh handsOn : Bool} {W W' : World} {args : Array Value} {ds gs : List (DataW H)} {before : List MemPlace} {tb : TypeId}
  (hs : s.vars = []) (hfn : s.fn H (ds ++ gs) = { results := [.lit (.bool true)], args := ds }) (hl : laidOutB P = true) (hr : (f.params.toList.all fun t => P.readableRec t && decide (t < P.types.size)) = true)
  (hres : f.resultTypes = #[tb]) (htb : P.underlying tb = some .bool) (hW : DataW.Whole enc P f.params.toList s.vars apart W args.toList ds gs before) (hb : Below W.heap.size W W') : s.post enc P f apart fresh handsOn false W args (.bool true) W' := by
 have hlt := hW.lt
 have hW' := hW
 obtain ⟨p, q, hA, hV, rfl, _, _⟩ := hW
 rw [hs] at hV
 obtain ⟨rfl, rfl⟩ := trodVars_none hV
 refine ⟨ds, [], p ++ [], [], p, [], hW', ?_, ?_, ?_, ?_, fun h => by cases h⟩
 ·rw [hfn, hres]
  exact trodAll_cons_mk (shut_bool htb _) trodAll_mk0
 ·rw [hfn]
  exact trodAll_below hl hb hr hA (fun x hx => hlt x (by simpa using hx)) (fun x hx => by simpa using hlt x (by simpa using hx))
 ·rw [hfn, hs]; rfl
 ·exact World.keptBut_mono (fun x hx => ⟨hx, .inr (.inl (by simpa using hx))⟩) (hb.frame (· ∈ p ++ []))
theorem Does.atTop {f : FuncId} {args : List Value} {W : World} (h : Does P f args (fhOf W) [] fun v _ _ => v = .bool true) : Calls P f args.toArray W fun e W' => e = .returned (.bool true) ∧ Below W.heap.size W W' :=
 (h W (holds_fhOf W)).mono fun _ _ ⟨_, _, _, he, le, H, hv⟩ => ⟨by rw [he, hv], below_of_holds le H⟩
end Go.Proofs.YtenomejgjcpbdaaGreat.X
set_option linter.unusedSimpArgs false
set_option linter.unusedVariables false
namespace Go.Proofs.YtenomejgjcpbdaaGreat.X
open Go Go.WideShapes Go.ChangeShapes Go.RowKit
variable {P : Program} {t e : TypeId}
end Go.Proofs.YtenomejgjcpbdaaGreat.X
set_option linter.unusedSimpArgs false
set_option linter.unusedVariables false
namespace Go.Proofs.YtenomejgjcpbdaaGreat.X
open Go Go.ChangeShapes Go.WideShapes Go.ChangeAt
variable {P : Program} {t e : TypeId}
theorem opens_byte (ht : P.underlying e = some (.int .u8)) : Opens P e ByteE (fun _ => True) := by
 intro H enc w base spare held fuel cs x h
 obtain ⟨n, rfl, _, hw⟩ := DataW.trod_int ht h
 refine ⟨n, ⟨rfl, ?_⟩, trivial⟩
 simp [Lit.wf, IntKind.min, IntKind.max, IntKind.signed, IntKind.bits] at hw
 omega
theorem opens_bytes (ht : P.underlying t = some (.slice e)) (he : P.underlying e = some (.int .u8)) (hc : P.cellsOf e = 1) :
  Opens P t (fun F cs (xs : List Int) => ∃ v, cs = [v] ∧ BytesF F v xs) (fun xs => xs.length ≤ 9223372036854775807) :=
 (opens_slice 0 ht hc (opens_byte he)).mono (fun _ _ _ h => h) (fun _ h => h.1)
end Go.Proofs.YtenomejgjcpbdaaGreat.X
