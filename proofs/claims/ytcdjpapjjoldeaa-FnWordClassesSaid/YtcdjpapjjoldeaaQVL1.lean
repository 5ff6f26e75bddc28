/-
  What the walks rest on (part 2).
-/
import Derived.Orders
import Derived.Tactics
import Derived.Below
import Derived.Laws.CopyRow
import Derived.Laws.AppendOwn
import Derived.IntWalk
import Derived.Lib.AppendZeros
import Derived.OrdersIn
import Derived.TacticsIn
import Derived.RangeFuncSeq
import Derived.RangeFuncRecord
import Derived.RangeFuncLeaves
import Derived.Scope
import Derived.Laws.Append
import Derived.WalkKit
import Derived.ProofKit
import Derived.OpenShut
import Derived.JoinedCond
import Derived.Carry
import Derived.Deep.Slices
import Derived.Test.YtcdjpapjjoldeaaQVL0
set_option linter.unusedSimpArgs false
set_option linter.unusedVariables false
namespace Go.Proofs.Ytcdjpapjjoldeaa.M
def Forest (ar l : List Int) (n : Nat) : Prop := endGo ar l n = some l.length
theorem endGo_more {ar : List Int} : ∀ {a b : List Int} {n e : Nat}, endGo ar a n = some e → endGo ar (a ++ b) n = some e
 | a, b, 0, e, h => by simp [endGo] at h; subst h; simp [endGo]
 | [], b, n + 1, e, h => by simp [endGo] at h
 | x :: a, b, n + 1, e, h => by
  simp only [endGo, List.cons_append] at h ⊢
  split at h
  ·rename_i hx
   rw [if_pos hx]
   cases hr : endGo ar a (n + (arity ar x).toNat) with
   | none => rw [hr] at h; simp at h
   | some q => rw [hr] at h; rw [endGo_more hr]; exact h
  ·cases h
theorem Forest.append {ar a b : List Int} {n m : Nat} (h : Forest ar a n) (k : Forest ar b m) : Forest ar (a ++ b) (n + m) := by
 unfold Forest at *
 have h1 := endGo_more (b := b) h
 have := endGo_join (m := m) (e2 := b.length) h1 (by rw [List.drop_left]; exact k)
 rw [this, List.length_append]
theorem Forest.cons {ar r : List Int} {x : Int} {n : Nat} (hx : x < ar.length) : Forest ar (x :: r) (n + 1) ↔ Forest ar r (n + (arity ar x).toNat) := by
 unfold Forest
 simp only [endGo, if_pos hx, List.length_cons]
 cases endGo ar r (n + (arity ar x).toNat) <;> simp
theorem Forest.lt {ar r : List Int} {x : Int} {n : Nat} (h : Forest ar (x :: r) n) : ∃ m, n = m + 1 ∧ x < ar.length := by
 unfold Forest at h
 cases n with
 | zero => simp [endGo] at h
 | succ m =>
  refine ⟨m, rfl, ?_⟩
  simp only [endGo] at h
  split at h
  ·assumption
  ·cases h
theorem arity_var {ar : List Int} {x : Int} (h : x < 0) : arity ar x = 0 := by simp [arity]; omega
theorem Forest.fill {ar : List Int} {s : RowL} (hs : ∀ x : Int, x < 0 → Forest ar (lk s x) 1) : ∀ (t : List Int) (n : Nat), Forest ar t n → Forest ar (t.flatMap (lk s)) n
 | [], n, h => h
 | x :: t, n, h => by
  obtain ⟨m, rfl, hx⟩ := h.lt
  have h1 := (Forest.cons hx).1 h
  rw [List.flatMap_cons]
  by_cases h0 : x < 0
  ·rw [arity_var h0] at h1
   rw [Nat.add_comm]
   exact (hs x h0).append (Forest.fill hs t m (by simpa using h1))
  ·rw [lk_sym (by omega)]
   exact (Forest.cons hx).2 (Forest.fill hs t _ h1)
theorem fillGo_flat {s : RowL} : ∀ (t acc u : List Int), fillGo s t acc = some u → u = acc ++ t.flatMap (lk s)
 | [], acc, u, h => by simp [fillGo] at h; simp [h]
 | n :: t, acc, u, h => by
  rw [fillGo] at h
  split at h
  ·cases h
  ·rw [fillGo_flat t _ u h, List.flatMap_cons, List.append_assoc]
theorem fillL_flat {s : RowL} {t u : List Int} (h : fillL s t = some u) : u = t.flatMap (lk s) := by
 have := fillGo_flat t [] u h
 simpa using this
def RowsOk (ar : List Int) (s : RowL) : Prop := ∀ i, s.getD i [] = [] ∨ termOk ar (s.getD i []) = true
theorem lk_forest {ar : List Int} {s : RowL} (h : RowsOk ar s) (hs : sigOk ar = true) (x : Int) (hx : x < 0) : Forest ar (lk s x) 1 := by
 unfold lk
 rw [if_neg (by omega)]
 split
 ·have : Forest ar [x] (0 + 1) := (Forest.cons (by have := sigOk_spec hs; omega)).2 (by rw [arity_var hx]; rfl)
  exact this
 ·rename_i e
  exact (termOk_iff.1 ((h (varIx x)).resolve_left e)).whole
theorem lk_ge {ar : List Int} {s : RowL} (h : RowsOk ar s) {x : Int} (hx : -24 ≤ x) : ∀ y ∈ lk s x, -24 ≤ y := by
 intro y hy
 unfold lk at hy
 split at hy
 ·simp at hy; omega
 ·split at hy
  ·simp at hy; omega
  ·rename_i e; exact (termOk_iff.1 ((h (varIx x)).resolve_left e)).ge y hy
theorem fill_ok {ar : List Int} {s : RowL} {t u : List Int} (h : RowsOk ar s) (ht : termOk ar t = true) (hu : fillL s t = some u) : termOk ar u = true := by
 have hT := termOk_iff.1 ht
 have hl := fillL_len hu
 have hf := Forest.fill (lk_forest h hT.sig) t 1 hT.whole
 rw [← fillL_flat hu] at hf
 refine termOk_iff.2 ⟨hT.sig, by have := hT.pos; omega, hl.1, ?_, hf⟩
 rw [fillL_flat hu]
 intro y hy
 obtain ⟨x, hx, hy⟩ := List.mem_flatMap.1 hy
 exact lk_ge h (hT.ge x hx) y hy
theorem mGo_ok {ar t : List Int} (ht : termOk ar t = true) : ∀ (p : List Int) (i : Nat) (b r : RowL), mGo ar t p i b = some r → RowsOk ar b → RowsOk ar r
 | [], i, b, r, h, hb => by simp [mGo] at h; subst h; exact hb
 | n :: p, i, b, r, h, hb => by
  rw [mGo] at h
  split at h
  ·cases h
  ·rename_i hi
   split at h
   ·split at h
    ·exact mGo_ok ht p _ _ _ h hb
    ·cases h
   ·split at h
    ·refine mGo_ok ht p _ _ _ h (fun k => ?_)
     by_cases e : varIx n = k
     ·subst e
      rcases Nat.lt_or_ge (varIx n) b.length with hl | hl
      ·have : (b.set (varIx n) (sub ar t i)).getD (varIx n) [] = sub ar t i := by simp [List.getD_eq_getElem?_getD, hl]
       rw [this]; exact .inr (sub_ok ht (by omega))
      ·rw [List.set_eq_of_length_le hl]; exact hb _
     ·rw [List.getD_eq_getElem?_getD, List.getElem?_set_ne e, ← List.getD_eq_getElem?_getD]; exact hb k
    ·split at h
     ·exact mGo_ok ht p _ _ _ h hb
     ·cases h
theorem matchB_ok {ar p t : List Int} {b : RowL} (ht : termOk ar t = true) (h : matchB ar p t = some b) : RowsOk ar b := by
 refine mGo_ok ht p 0 _ b h (fun k => .inl ?_)
 rw [List.getD_eq_getElem?_getD, List.getElem?_replicate]
 split <;> rfl
theorem Forest.swap {ar S U B : List Int} (hS : Forest ar S 1) (hU : Forest ar U 1) (hp : S ≠ []) : ∀ (A : List Int) (n : Nat), Forest ar (A ++ S ++ B) n → Forest ar (A ++ U ++ B) n
 | [], n, h => by
  simp only [List.nil_append] at h ⊢
  cases S with
  | nil => exact absurd rfl hp
  | cons x S =>
   obtain ⟨m, rfl, _⟩ := Forest.lt h
   unfold Forest at h
   rw [Nat.add_comm] at h
   obtain ⟨e1, e2, h1, h2, h3⟩ := endGo_split h
   have h4 := endGo_more (b := B) hS
   rw [h4] at h1
   cases h1
   rw [List.drop_left] at h2
   have hB : Forest ar B m := by
    unfold Forest
    rw [h2]
    rw [List.length_append] at h3
    congr 1; omega
   rw [Nat.add_comm]
   exact hU.append hB
 | x :: A, n, h => by
  obtain ⟨m, rfl, hx⟩ := Forest.lt h
  exact (Forest.cons hx).2 (Forest.swap hS hU hp A _ ((Forest.cons hx).1 h))
theorem parts {ar t : List Int} {p : Nat} (ht : termOk ar t = true) (hp : p < t.length) : t = t.take p ++ sub ar t p ++ t.drop (endN ar t p) := by
 have he := endN_spec ht hp
 have : sub ar t p ++ t.drop (endN ar t p) = t.drop p := by
  unfold sub
  have e : t.drop (endN ar t p) = (t.drop p).drop (endN ar t p - p) := by rw [List.drop_drop]; congr 1; omega
  rw [e, List.take_append_drop]
 rw [List.append_assoc, this, List.take_append_drop]
theorem put_ok {ar t u v : List Int} {p : Nat} (ht : termOk ar t = true) (hp : p < t.length) (hu : termOk ar u = true) (h : putL ar t p u = some v) : termOk ar v = true := by
 unfold putL at h
 split at h
 ·cases h
 ·rename_i hl
  cases h
  have hT := termOk_iff.1 ht
  have hU := termOk_iff.1 hu
  refine termOk_iff.2 ⟨hT.sig, by have := hU.pos; simp; omega, by omega, ?_, ?_⟩
  ·intro x hx
   simp only [List.mem_append] at hx
   rcases hx with (hx | hx) | hx
   ·exact hT.ge x (List.mem_of_mem_take hx)
   ·exact hU.ge x hx
   ·exact hT.ge x (List.mem_of_mem_drop hx)
  ·have h1 : Forest ar (t.take p ++ sub ar t p ++ t.drop (endN ar t p)) 1 := by rw [← parts ht hp]; exact hT.whole
   exact Forest.swap (termOk_iff.1 (sub_ok ht hp)).whole hU.whole (sub_ne ht hp) _ _ h1
theorem stepL_ok {ar : List Int} {rs : Rules} {t u : List Int} {p r : Nat} (hs : sysOk ar rs = true) (ht : termOk ar t = true) (hp : p < t.length) (hr : r < rs.length) (h : stepL ar rs t p r = some u) : termOk ar u = true := by
 have hR := ruleOk_iff.1 ((sysOk_iff.1 hs).2.2 r hr)
 unfold stepL at h
 split at h
 ·cases h
 ·rename_i b hb
  split at h
  ·cases h
  ·rename_i w hw
   exact put_ok ht hp (fill_ok (matchB_ok (sub_ok ht hp) hb) hR.right hw) h
def walkGo (ar : List Int) (rs : Rules) (st : Int) : Nat → List Int → List (Int × Int × List Int) × Bool
 | 0, t => ([], decide (redL ar rs t = []))
 | n + 1, t => if redL ar rs t = [] then ([], true) else
  match stepL ar rs t (pickL ar rs t st).toNat (ruleAtL ar rs t (pickL ar rs t st).toNat).toNat with
  | none => ([], false)
  | some u => ((pickL ar rs t st, ruleAtL ar rs t (pickL ar rs t st).toNat, u) :: (walkGo ar rs st n u).1, (walkGo ar rs st n u).2)
section
variable {ar : List Int} {rs : Rules} {t u : List Int} {st : Int} {m : Nat}
theorem pick_neg (h : pickL ar rs t st < 0) : redL ar rs t = [] := by
 rcases pick_spec (ar := ar) (rs := rs) (t := t) st with h1 | ⟨q, hq, _⟩
 ·exact h1.2
 ·omega
theorem walk_nil (h : redL ar rs t = []) : walkGo ar rs st m t = ([], true) := by
 cases m with
 | zero => simp [walkGo, h]
 | succ m => rw [walkGo, if_pos h]
theorem walk_zero (hm : m = 0) (h : redL ar rs t ≠ []) : walkGo ar rs st m t = ([], false) := by
 subst hm; simp [walkGo, h]
theorem walk_stuck (hm : 0 < m) (h : redL ar rs t ≠ []) (hu : (stepL ar rs t (pickL ar rs t st).toNat (ruleAtL ar rs t (pickL ar rs t st).toNat).toNat).isSome = false) : walkGo ar rs st m t = ([], false) := by
 obtain ⟨k, rfl⟩ : ∃ k, m = k + 1 := ⟨m - 1, by omega⟩
 rw [walkGo, if_neg h]
 cases hx : stepL ar rs t (pickL ar rs t st).toNat (ruleAtL ar rs t (pickL ar rs t st).toNat).toNat with
 | none => rfl
 | some v => rw [hx] at hu; cases hu
theorem walk_next (hm : 0 < m) (h : redL ar rs t ≠ []) (hu : stepL ar rs t (pickL ar rs t st).toNat (ruleAtL ar rs t (pickL ar rs t st).toNat).toNat = some u) :
  walkGo ar rs st m t = ((pickL ar rs t st, ruleAtL ar rs t (pickL ar rs t st).toNat, u) :: (walkGo ar rs st (m - 1) u).1, (walkGo ar rs st (m - 1) u).2) := by
 obtain ⟨k, rfl⟩ : ∃ k, m = k + 1 := ⟨m - 1, by omega⟩
 rw [walkGo, if_neg h, hu]
 rfl
def wOk (ar : List Int) (rs : Rules) (t : List Int) (st n : Int) : Bool := (rightB ar rs t && decide (1 ≤ st ∧ st ≤ 3)) && decide (0 ≤ n ∧ n ≤ 60)
def walkB (ar : List Int) (rs : Rules) (t : List Int) (st n : Int) : List Int × List (Int × Int × List Int) × Bool :=
 if wOk ar rs t st n = true then (t, walkGo ar rs st n.toNat t) else ([], [], false)
theorem walkB_no {n : Int} (h : wOk ar rs t st n = false) : walkB ar rs t st n = ([], [], false) := by rw [walkB, if_neg (by rw [h]; simp)]
theorem walkB_yes {n : Int} (h : wOk ar rs t st n = true) : walkB ar rs t st n = (t, walkGo ar rs st n.toNat t) := by rw [walkB, if_pos h]
theorem walkGo_len : ∀ (m : Nat) (t : List Int), (walkGo ar rs st m t).1.length ≤ m
 | 0, t => by simp [walkGo]
 | m + 1, t => by
  rw [walkGo]
  split
  ·simp
  ·split
   ·simp
   ·rename_i u _
    have := walkGo_len m u
    simp; omega
theorem walkB_len {n : Int} : (walkB ar rs t st n).2.1.length ≤ 60 := by
 unfold walkB
 split
 ·rename_i h
  have := walkGo_len (ar := ar) (rs := rs) (st := st) n.toNat t
  simp only [wOk, Bool.and_eq_true, decide_eq_true_eq] at h
  simp only
  omega
 ·simp
end
section
variable {ar : List Int} {rs : Rules} {t : List Int} {p k j : Nat}
def cntR (ar : List Int) (rs : Rules) (t : List Int) (p k : Nat) : Nat := ((List.range k).filter (isRedex ar rs t p)).length
def cntP (ar : List Int) (rs : Rules) (t : List Int) (k : Nat) : Nat := ((List.range k).map (fun p => cntR ar rs t p rs.length)).sum
theorem cntR_yes {m : Nat} (h : isRedex ar rs t p k = true) : m + cntR ar rs t p k + 1 = m + cntR ar rs t p (k + 1) := by
 simp [cntR, List.range_succ, h]; omega
theorem cntR_no {m : Nat} (h : isRedex ar rs t p k = false) : m + cntR ar rs t p k = m + cntR ar rs t p (k + 1) := by
 simp [cntR, List.range_succ, h]
theorem cntR_le : cntR ar rs t p k ≤ k := by
 have := List.length_filter_le (isRedex ar rs t p) (List.range k)
 rwa [List.length_range] at this
theorem cntP_succ (h : j = rs.length) : cntP ar rs t k + cntR ar rs t k j = cntP ar rs t (k + 1) := by
 subst h; simp [cntP, List.range_succ]
theorem cntP_le (h : rs.length ≤ 12) : ∀ k, cntP ar rs t k ≤ k * 12
 | 0 => by simp [cntP]
 | k + 1 => by
  rw [← cntP_succ rfl]
  have := cntP_le h k
  have := cntR_le (ar := ar) (rs := rs) (t := t) (p := k) (k := rs.length)
  omega
theorem ruleAtGo_none : ∀ (n r : Nat), ruleAtGo ar rs t p n r = -1 → ∀ k, r ≤ k → k < r + n → isRedex ar rs t p k = false
 | 0, r, _, k, h1, h2 => by omega
 | n + 1, r, h, k, h1, h2 => by
  rw [ruleAtGo] at h
  split at h
  ·omega
  ·rename_i hr
   rcases Nat.lt_or_ge r k with h3 | h3
   ·exact ruleAtGo_none n (r + 1) h k (by omega) (by omega)
   ·obtain rfl : k = r := by omega
    simpa using hr
theorem cntR_zero : cntR ar rs t p rs.length = 0 ↔ ruleAtL ar rs t p < 0 := by
 unfold cntR
 rw [List.length_eq_zero_iff, List.filter_eq_nil_iff]
 simp only [List.mem_range]
 constructor
 ·intro h
  rcases ruleAt_spec (ar := ar) (rs := rs) (t := t) (p := p) with h1 | ⟨k, h1, h2, h3⟩
  ·omega
  ·exact absurd h3 (h k h2)
 ·intro h k hk
  have h1 : ruleAtL ar rs t p = -1 := by
   rcases ruleAt_spec (ar := ar) (rs := rs) (t := t) (p := p) with h1 | ⟨k, h1, _, _⟩
   ·exact h1
   ·omega
  rw [ruleAtGo_none rs.length 0 h1 k (by omega) (by omega)]
  simp
theorem cntP_zero : ∀ k, cntP ar rs t k = 0 ↔ ∀ p, p < k → ruleAtL ar rs t p < 0
 | 0 => by simp [cntP]
 | k + 1 => by
  rw [← cntP_succ rfl]
  have ih := cntP_zero k
  have hz := cntR_zero (ar := ar) (rs := rs) (t := t) (p := k)
  constructor
  ·intro h p hp
   rcases Nat.lt_or_ge p k with h1 | h1
   ·exact ih.1 (by omega) p h1
   ·obtain rfl : p = k := by omega
    exact hz.1 (by omega)
  ·intro h
   have h1 := ih.2 (fun p hp => h p (by omega))
   have h2 := hz.2 (h k (by omega))
   omega
theorem normal_cnt : normalL ar rs t = decide (cntP ar rs t t.length = 0) := by
 unfold normalL
 exact decide_eq_decide.2 (redL_nil.trans (cntP_zero t.length).symm)
end
def flatRow (r : List Int) : List Int := r
def flatStep (s : Int × Int × List Int) : List Int := s.1 :: s.2.1 :: s.2.2
abbrev StepL := Int × Int × List Int
def stepAtOk (ar : List Int) (rs : Rules) (t : List Int) (p r : Int) : Bool := rightB ar rs t && decide (0 ≤ p ∧ p < (t.length : Int)) && decide (0 ≤ r ∧ r < (rs.length : Int))
def stepAtL (ar : List Int) (rs : Rules) (t : List Int) (p r : Int) : Option (List Int) := if stepAtOk ar rs t p r = true then stepL ar rs t p.toNat r.toNat else none
def goOk (ar : List Int) (rs : Rules) : List Int → List StepL → Bool
 | _, [] => true
 | t, s :: ss => decide (stepAtL ar rs t s.1 s.2.1 = some s.2.2) && goOk ar rs s.2.2 ss
def endL (f : List Int) (ss : List StepL) : List Int := if ss.length = 0 then f else (ss.getD (ss.length - 1) (0, 0, [])).2.2
def walkOkL (ar : List Int) (rs : Rules) (f : List Int) (ss : List StepL) : Bool := rightB ar rs f && decide (ss.length ≤ 60) && goOk ar rs f ss
section
variable {ar : List Int} {rs : Rules} {t f : List Int} {ss : List StepL}
theorem walkOkL_iff : walkOkL ar rs f ss = true ↔ rightB ar rs f = true ∧ ss.length ≤ 60 ∧ goOk ar rs f ss = true := by simp [walkOkL, and_assoc]
theorem stepAtL_ok {p r : Int} {u : List Int} (h : stepAtL ar rs t p r = some u) : rightB ar rs u = true ∧ stepAtOk ar rs t p r = true := by
 unfold stepAtL at h
 split at h
 ·rename_i hk
  have hk' := hk
  simp only [stepAtOk, Bool.and_eq_true, decide_eq_true_eq] at hk
  obtain ⟨⟨h1, h2⟩, h3⟩ := hk
  have hs := (right_iff.1 h1).1
  exact ⟨right_iff.2 ⟨hs, stepL_ok hs (right_iff.1 h1).2 (by omega) (by omega) h⟩, hk'⟩
 ·cases h
def nowL (f : List Int) (ss : List StepL) (k : Nat) : List Int := endL f (ss.take k)
theorem nowL_zero : nowL f ss 0 = f := by simp [nowL, endL]
theorem nowL_succ {k : Nat} (h : k < ss.length) : nowL f ss (k + 1) = (ss.getD k (0, 0, [])).2.2 := by
 have hl : (ss.take (k + 1)).length = k + 1 := by rw [List.length_take]; omega
 unfold nowL endL
 rw [hl, if_neg (by omega)]
 congr 2
 simp [List.getD, h]
theorem goOk_drop {k : Nat} (h : k < ss.length) : goOk ar rs t (ss.drop k) = (decide (stepAtL ar rs t (ss.getD k (0, 0, [])).1 (ss.getD k (0, 0, [])).2.1 = some (ss.getD k (0, 0, [])).2.2) && goOk ar rs (ss.getD k (0, 0, [])).2.2 (ss.drop (k + 1))) := by
 rw [drop_get (0, 0, []) h]; rfl
theorem goOk_now (h : goOk ar rs f ss = true) (hr : rightB ar rs f = true) : ∀ k, k ≤ ss.length → rightB ar rs (nowL f ss k) = true ∧ goOk ar rs (nowL f ss k) (ss.drop k) = true
 | 0, _ => by rw [nowL_zero]; exact ⟨hr, h⟩
 | k + 1, hk => by
  obtain ⟨h1, h2⟩ := goOk_now h hr k (by omega)
  rw [goOk_drop (by omega), Bool.and_eq_true, decide_eq_true_eq] at h2
  rw [nowL_succ (by omega)]
  exact ⟨(stepAtL_ok h2.1).1, h2.2⟩
theorem walkOk_step (h : walkOkL ar rs f ss = true) {k : Nat} (hk : k < ss.length) : stepAtL ar rs (nowL f ss k) (ss.getD k (0, 0, [])).1 (ss.getD k (0, 0, [])).2.1 = some (ss.getD k (0, 0, [])).2.2 := by
 obtain ⟨h1, _, h3⟩ := walkOkL_iff.1 h
 have := (goOk_now h3 h1 k (by omega)).2
 rw [goOk_drop hk, Bool.and_eq_true, decide_eq_true_eq] at this
 exact this.1
theorem walkOk_to (h : walkOkL ar rs f ss = true) {k : Nat} (hk : k < ss.length) : termOk ar (ss.getD k (0, 0, [])).2.2 = true := (right_iff.1 (stepAtL_ok (walkOk_step h hk)).1).2
end
section
variable {α : Type} {f : α → Nat} {l : List α} {k : Nat}
def gTo (f : α → Nat) (l : List α) (k : Nat) : Nat := ((l.take k).map f).sum
theorem gTo_succ (d : α) (h : k < l.length) : gTo f l k + f (l.getD k d) = gTo f l (k + 1) := by
 unfold gTo
 rw [take_succ_getD d h]
 simp
end
def lenS (s : StepL) : Nat := s.2.2.length
theorem flatStep_len (ss : List StepL) : (ss.flatMap flatStep).length ≤ 2 * ss.length + gTo lenS ss ss.length := by
 unfold gTo
 rw [List.take_length, List.length_flatMap]
 induction ss with
 | nil => simp
 | cons s ss ih => simp [flatStep, lenS] at ih ⊢; omega
section
variable {ar : List Int} {rs : Rules} {t u f : List Int} {ss : List StepL} {st : Int} {m k : Nat}
theorem stepAt_of {p r : Nat} (hr : rightB ar rs t = true) (hp : p < t.length) (hrl : r < rs.length) : stepAtL ar rs t p r = stepL ar rs t p r := by
 rw [stepAtL, if_pos (by simp [stepAtOk, hr, hp, hrl])]; rfl
theorem walkGo_ok : ∀ (m : Nat) (t : List Int), rightB ar rs t = true → goOk ar rs t (walkGo ar rs st m t).1 = true ∧ rightB ar rs (endL t (walkGo ar rs st m t).1) = true ∧ ((walkGo ar rs st m t).2 = true → redL ar rs (endL t (walkGo ar rs st m t).1) = [])
 | 0, t, hr => ⟨rfl, by simpa [walkGo, endL] using hr, fun h => by simpa [walkGo, endL] using h⟩
 | m + 1, t, hr => by
  by_cases he : redL ar rs t = []
  ·rw [walk_nil he]; exact ⟨rfl, by simpa [endL] using hr, fun _ => by simpa [endL] using he⟩
  ·cases hu : stepL ar rs t (pickL ar rs t st).toNat (ruleAtL ar rs t (pickL ar rs t st).toNat).toNat with
   | none => rw [walk_stuck (by omega) he (by rw [hu]; rfl)]; exact ⟨rfl, by simpa [endL] using hr, fun h => by cases h⟩
   | some u =>
    obtain ⟨q, hq1, hq2, hq3, _⟩ := (pick_spec (ar := ar) (rs := rs) (t := t) st).resolve_left (fun h => he h.2)
    have hqn : (pickL ar rs t st).toNat = q := by omega
    have hrr : 0 ≤ ruleAtL ar rs t (pickL ar rs t st).toNat := by rw [hqn]; simpa [hasR] using hq3
    obtain ⟨j, hj1, hj2, _⟩ := (ruleAt_spec (ar := ar) (rs := rs) (t := t) (p := (pickL ar rs t st).toNat)).resolve_left (by omega)
    have hjn : (ruleAtL ar rs t (pickL ar rs t st).toNat).toNat = j := by omega
    have hs := (right_iff.1 hr).1
    have huo : rightB ar rs u = true := right_iff.2 ⟨hs, stepL_ok hs (right_iff.1 hr).2 (by omega) (by omega) hu⟩
    have e : stepAtL ar rs t (pickL ar rs t st) (ruleAtL ar rs t (pickL ar rs t st).toNat) = some u := by
     rw [hj1, hq1, stepAt_of hr hq2 hj2, ← hu, hjn, hqn]
    obtain ⟨h1, h2, h3⟩ := walkGo_ok m u huo
    rw [walk_next (by omega) he hu, Nat.add_sub_cancel]
    have e2 : endL t ((pickL ar rs t st, ruleAtL ar rs t (pickL ar rs t st).toNat, u) :: (walkGo ar rs st m u).1) = endL u (walkGo ar rs st m u).1 := by
     unfold endL
     cases (walkGo ar rs st m u).1 with
     | nil => rfl
     | cons a l => simp
    refine ⟨?_, by rw [e2]; exact h2, fun h => by rw [e2]; exact h3 h⟩
    show (decide (stepAtL ar rs t _ _ = some u) && goOk ar rs u _) = true
    rw [decide_eq_true e, h1]; rfl
def normB (ar : List Int) (rs : Rules) (t : List Int) (st n : Int) : List Int × Bool := if (walkB ar rs t st n).2.2 = true then (endL (walkB ar rs t st n).1 (walkB ar rs t st n).2.1, true) else ([], false)
theorem walkB_ok {n : Int} (h : (walkB ar rs t st n).2.2 = true) : wOk ar rs t st n = true ∧ (walkB ar rs t st n).1 = t ∧ walkOkL ar rs t (walkB ar rs t st n).2.1 = true ∧ termOk ar (endL t (walkB ar rs t st n).2.1) = true := by
 cases hw : wOk ar rs t st n with
 | false => rw [walkB_no hw] at h; cases h
 | true =>
  have hr : rightB ar rs t = true := by simp only [wOk, Bool.and_eq_true] at hw; exact hw.1.1
  have hl := walkB_len (ar := ar) (rs := rs) (t := t) (st := st) (n := n)
  rw [walkB_yes hw] at h hl ⊢
  obtain ⟨h1, h2, h3⟩ := walkGo_ok (st := st) n.toNat t hr
  exact ⟨rfl, rfl, walkOkL_iff.2 ⟨hr, hl, h1⟩, (right_iff.1 h2).2⟩
theorem normB_len {n : Int} : (normB ar rs t st n).1.length ≤ 60 := by
 unfold normB
 split
 ·rename_i h
  obtain ⟨_, h2, _, h4⟩ := walkB_ok h
  rw [h2]; exact (termOk_len h4).2
 ·simp
theorem gTo_bound {N : Nat} {l : List StepL} (h : ∀ i, i < l.length → (l.getD i (0, 0, [])).2.2.length ≤ N) : ∀ k, k ≤ l.length → gTo lenS l k ≤ k * N
 | 0, _ => by simp [gTo]
 | k + 1, hk => by
  have h1 := gTo_bound h k (by omega)
  have h2 := h k (by omega)
  rw [← gTo_succ ((0, 0, []) : StepL) (by omega), Nat.succ_mul]
  have : lenS (l.getD k (0, 0, [])) = (l.getD k (0, 0, [])).2.2.length := rfl
  omega
end
section
variable {ar : List Int} {rs : Rules} {a b t : List Int} {ts : RowL} {n : Int} {m k : Nat}
def badIx (ar : List Int) (ts : RowL) : Int := match ts.findIdx? (fun t => !termOk ar t) with | some i => i | none => -1
theorem badIx_at (hk : k < ts.length) (h : termOk ar (ts.getD k []) = false) (hall : ∀ i, i < k → termOk ar (ts.getD i []) = true) : badIx ar ts = k := by
 unfold badIx
 have : ts.findIdx? (fun t => !termOk ar t) = some k := by
  rw [List.findIdx?_eq_some_iff_getElem]
  refine ⟨hk, by simpa [List.getD, hk] using h, fun j hj => ?_⟩
  have := hall j hj
  simpa [List.getD, Nat.lt_trans hj hk] using this
 rw [this]
theorem badIx_none (hall : ∀ i, i < ts.length → termOk ar (ts.getD i []) = true) : badIx ar ts = -1 := by
 unfold badIx
 have : ts.findIdx? (fun t => !termOk ar t) = none := by
  rw [List.findIdx?_eq_none_iff]
  intro x hx
  obtain ⟨i, hi, rfl⟩ := List.getElem_of_mem hx
  simpa [List.getD, hi] using hall i hi
 rw [this]
theorem badIx_iff : (badIx ar ts ≥ 0) ↔ ts.all (termOk ar) = false := by
 unfold badIx
 cases h : ts.findIdx? (fun t => !termOk ar t) with
 | none =>
  rw [List.findIdx?_eq_none_iff] at h
  have : ts.all (termOk ar) = true := List.all_eq_true.2 fun x hx => by simpa using h x hx
  simp [this]
 | some i =>
  rw [List.findIdx?_eq_some_iff_getElem] at h
  obtain ⟨hi, h1, _⟩ := h
  have : ts.all (termOk ar) = false := by
   rw [List.all_eq_false]
   exact ⟨_, List.getElem_mem hi, by simpa using h1⟩
  simp [this]
def eqN (ar : List Int) (rs : Rules) (a b : List Int) (m : Nat) : Int :=
 if (walkGo ar rs 1 m a).2 = true ∧ (walkGo ar rs 1 m b).2 = true then (if endL a (walkGo ar rs 1 m a).1 = endL b (walkGo ar rs 1 m b).1 then 1 else 0) else -1
def eqB (ar : List Int) (rs : Rules) (a b : List Int) (n : Int) : Int := if (rightB ar rs a = true ∧ rightB ar rs b = true) ∧ 0 ≤ n ∧ n ≤ 60 then eqN ar rs a b n.toNat else -1
def wordOkL (ar : List Int) (rs : Rules) (n : Int) (ts : RowL) : Bool := sysOk ar rs && decide (0 ≤ n ∧ n ≤ 60) && ts.all (termOk ar)
theorem normB_right (h : rightB ar rs a = true) (hn : 0 ≤ n ∧ n ≤ 60) : normB ar rs a 1 n = if (walkGo ar rs 1 n.toNat a).2 = true then (endL a (walkGo ar rs 1 n.toNat a).1, true) else ([], false) := by
 have hw : wOk ar rs a 1 n = true := by simp [wOk, h, hn]
 rw [normB, walkB_yes hw]
end
end Go.Proofs.Ytcdjpapjjoldeaa.M
namespace Go.Proofs.Ytcdjpapjjoldeaa.X
open Go
theorem FzC.rdN {F : FH} {L : List HP} {b o : Nat} {cs vs : List Value} (h : FzC F b cs) (hv : (cs.drop o).take vs.length = vs) : ∀ i u, vs[i]? = some u → Rd F L ((⟨b, o, none⟩ : Addr).add i) u := by
 intro i u hu
 rw [add_lit]
 refine Rd.fz (h (o + i) u ?_)
 rw [← hv, List.getElem?_take] at hu
 split at hu
 ·rwa [List.getElem?_drop] at hu
 ·cases hu
end Go.Proofs.Ytcdjpapjjoldeaa.X
namespace Go.Proofs.Ytcdjpapjjoldeaa.M
section
variable {α : Type} {q : α → Bool} {l : List α} {d : α} {k : Nat}
def badG (q : α → Bool) (l : List α) : Int := match l.findIdx? (fun t => !q t) with | some i => i | none => -1
theorem badG_at (d : α) (hk : k < l.length) (h : q (l.getD k d) = false) (hall : ∀ i, i < k → q (l.getD i d) = true) : badG q l = k := by
 unfold badG
 have : l.findIdx? (fun t => !q t) = some k := by
  rw [List.findIdx?_eq_some_iff_getElem]
  refine ⟨hk, by simpa [List.getD, hk] using h, fun j hj => ?_⟩
  have := hall j hj
  simpa [List.getD, Nat.lt_trans hj hk] using this
 rw [this]
theorem badG_none (d : α) (hall : ∀ i, i < l.length → q (l.getD i d) = true) : badG q l = -1 := by
 unfold badG
 have : l.findIdx? (fun t => !q t) = none := by
  rw [List.findIdx?_eq_none_iff]
  intro x hx
  obtain ⟨i, hi, rfl⟩ := List.getElem_of_mem hx
  simpa [List.getD, hi] using hall i hi
 rw [this]
theorem badG_iff : (badG q l ≥ 0) ↔ l.all q = false := by
 unfold badG
 cases h : l.findIdx? (fun t => !q t) with
 | none =>
  rw [List.findIdx?_eq_none_iff] at h
  have : l.all q = true := List.all_eq_true.2 fun x hx => by simpa using h x hx
  simp [this]
 | some i =>
  rw [List.findIdx?_eq_some_iff_getElem] at h
  obtain ⟨hi, h1, _⟩ := h
  have : l.all q = false := by
   rw [List.all_eq_false]
   exact ⟨_, List.getElem_mem hi, by simpa using h1⟩
  simp [this]
theorem all_getD_iff (d : α) : l.all q = true ↔ ∀ i, i < l.length → q (l.getD i d) = true := by
 rw [List.all_eq_true]
 refine ⟨fun h i hi => h _ (by simp [List.getD, hi]), fun h x hx => ?_⟩
 obtain ⟨i, hi, rfl⟩ := List.getElem_of_mem hx
 simpa [List.getD, hi] using h i hi
theorem all_fail (d : α) (hk : k < l.length) (h : q (l.getD k d) = false) : l.all q = false := by
 cases hx : l.all q with
 | false => rfl
 | true => have := (all_getD_iff d).1 hx k hk; rw [h] at this; cases this
end
section
variable {ar : List Int} {rs es : Rules} {a b : List Int} {n : Int} {m k : Nat}
end
section
variable {ar : List Int} {rs : Rules} {a b t : List Int} {ts : RowL} {n : Int} {k : Nat}
def allOk (ar : List Int) (rs : Rules) (ts : RowL) (n : Int) : Bool := sysOk ar rs && decide (0 ≤ n ∧ n ≤ 60) && decide (ts.length ≤ 16) && ts.all (termOk ar)
theorem allOk_iff : allOk ar rs ts n = true ↔ sysOk ar rs = true ∧ (0 ≤ n ∧ n ≤ 60) ∧ ts.all (termOk ar) = true ∧ ts.length ≤ 16 := by
 simp only [allOk, Bool.and_eq_true, decide_eq_true_eq]
 exact ⟨fun h => ⟨h.1.1.1, h.1.1.2, h.2, h.1.2⟩, fun h => ⟨⟨⟨h.1, h.2.1⟩, h.2.2.2⟩, h.2.2.1⟩⟩
theorem all_at (h : ts.all (termOk ar) = true) (hk : k < ts.length) : termOk ar (ts.getD k []) = true := (all_getD_iff []).1 h k hk
end
section
variable {ar : List Int} {rs : Rules} {t x : List Int} {ts : RowL} {n : Int} {k : Nat}
def nfE (ar : List Int) (rs : Rules) (n : Int) (t : List Int) : List Int := endL t (walkGo ar rs 1 n.toNat t).1
def nfF (ar : List Int) (rs : Rules) (n : Int) (t : List Int) : Bool := (walkGo ar rs 1 n.toNat t).2
def nfR (ar : List Int) (rs : Rules) (ts : RowL) (n : Int) (k : Nat) : RowL := (List.range k).map fun i => nfE ar rs n (ts.getD i [])
def clsTo (ar : List Int) (rs : Rules) (ts : RowL) (n : Int) (k : Nat) : List Int := (List.range k).map fun i => badG (fun y => !decide (y = nfE ar rs n (ts.getD i []))) (nfR ar rs ts n (i + 1))
def clsL (ar : List Int) (rs : Rules) (ts : RowL) (n : Int) : List Int := if allOk ar rs ts n = true ∧ ts.all (nfF ar rs n) = true then clsTo ar rs ts n ts.length else []
theorem nfR_len : (nfR ar rs ts n k).length = k := by simp [nfR]
theorem clsTo_len : (clsTo ar rs ts n k).length = k := by simp [clsTo]
theorem nfR_next : nfR ar rs ts n k ++ [nfE ar rs n (ts.getD k [])] = nfR ar rs ts n (k + 1) := by
 unfold nfR; rw [List.range_succ, List.map_append]; rfl
theorem clsTo_next : clsTo ar rs ts n k ++ [badG (fun y => !decide (y = nfE ar rs n (ts.getD k []))) (nfR ar rs ts n k ++ [nfE ar rs n (ts.getD k [])])] = clsTo ar rs ts n (k + 1) := by
 rw [nfR_next]; unfold clsTo; rw [List.range_succ, List.map_append]; rfl
theorem clsL_no (h : allOk ar rs ts n = false) : clsL ar rs ts n = [] := by unfold clsL; rw [if_neg (by rw [h]; simp)]
theorem clsL_no1 (h : ¬ ts.length ≤ 16) : clsL ar rs ts n = [] := by unfold clsL; rw [if_neg (fun e => h (allOk_iff.1 e.1).2.2.2)]
theorem clsL_no2 (h : wordOkL ar rs n ts = false) : clsL ar rs ts n = [] := by
 unfold clsL; rw [if_neg]
 intro e
 obtain ⟨h1, h2, h3, h4⟩ := allOk_iff.1 e.1
 rw [wordOkL, h1, h3, decide_eq_true h2] at h; cases h
theorem clsL_no3 (hk : k < ts.length) (h : nfF ar rs n (ts.getD k []) = false) : clsL ar rs ts n = [] := by
 unfold clsL; rw [if_neg]
 intro e
 have := (all_getD_iff []).1 e.2 k hk
 rw [h] at this; cases this
theorem clsL_yes (h : allOk ar rs ts n = true) (hf : ∀ i, i < ts.length → nfF ar rs n (ts.getD i []) = true) : clsL ar rs ts n = clsTo ar rs ts n ts.length := by
 unfold clsL; rw [if_pos ⟨h, (all_getD_iff []).2 hf⟩]
theorem nfE_len (hs : sysOk ar rs = true) (ho : termOk ar t = true) : (endL t (walkGo ar rs 1 n.toNat t).1).length ≤ 60 :=
 (termOk_len (right_iff.1 (walkGo_ok (ar := ar) (rs := rs) (st := 1) n.toNat t (right_iff.2 ⟨hs, ho⟩)).2.1).2).2
theorem normB_nf (hs : sysOk ar rs = true) (ho : termOk ar t = true) (hn : 0 ≤ n ∧ n ≤ 60) : (normB ar rs t 1 n).2 = nfF ar rs n t ∧ (nfF ar rs n t = true → (normB ar rs t 1 n).1 = nfE ar rs n t) := by
 rw [normB_right (right_iff.2 ⟨hs, ho⟩) hn]; unfold nfF nfE; split <;> simp_all
theorem nfR_bound (hs : sysOk ar rs = true) (hall : ts.all (termOk ar) = true) (hk : k ≤ ts.length) (i : Nat) (hi : i < (nfR ar rs ts n k).length) : ((nfR ar rs ts n k).getD i []).length ≤ 60 := by
 have hik : i < k := by rw [nfR_len] at hi; exact hi
 have e : (nfR ar rs ts n k).getD i [] = nfE ar rs n (ts.getD i []) := by
  unfold nfR; simp [List.getD_eq_getElem?_getD, List.getElem?_map, List.getElem?_range hik]
 rw [e]; exact nfE_len hs (all_at hall (by omega))
end
section
variable {ar : List Int} {rs : Rules} {t f u : List Int} {ss acc : List StepL} {p : Nat} {k : Nat}
end
section
variable {ar : List Int} {rs : Rules} {t f : List Int} {ss : List StepL} {s : RowL} {p : Int}
def substOk (ar : List Int) (s : RowL) : Bool := sigOk ar && decide (s.length ≤ 24) && s.all (fun t => decide (t = []) || termOk ar t)
def loopOkL (ar : List Int) (rs : Rules) (f : List Int) (ss : List StepL) (p : Int) (s : RowL) : Bool :=
 decide (ss.length ≠ 0) && walkOkL ar rs f ss && posOk ar (endL f ss) p && substOk ar s && decide (fillL s f = some (sub ar (endL f ss) p.toNat))
theorem fill_eq {v : List Int} (h : (fillL s f).isSome = true) : fillL s f = some v ↔ (fillL s f).getD [] = v := by
 obtain ⟨x, hx⟩ := Option.isSome_iff_exists.1 h
 rw [hx]; simp
end
end Go.Proofs.Ytcdjpapjjoldeaa.M
namespace Go.Proofs.Ytcdjpapjjoldeaa.X
open Go
def FR (r : Option Nat) : Fence := { Fence.wide with round := r }
theorem callsIn_FR {r : Option Nat} {n : Nat} {P : Program} {f : FuncId} {args : Array Value} {w : World} {R : Ending → World → Prop} (h : Calls P f args w R) : CallsIn (FR r) n P f args w R := by
 have h1 : CallsIn Fence.wide n P f args w R := callsIn_wide.2 h
 exact h1
structure RepD (n : Nat) (d : List Deferred) (a : Act) (ρ : Env) : Prop where
 size : a.tmps.size = n
 defers : a.defers = d
 get : ∀ i, a.tmps.getD i undef = ρ i
theorem RepD.eval {n : Nat} {d : List Deferred} {a : Act} {ρ : Env} (h : RepD n d a ρ) : a.eval = evO ρ := by
 funext x
 cases x <;> first | rfl | exact h.get _
theorem RepD.of {n : Nat} {a : Act} {ρ : Env} (h : RepD n [] a ρ) : Rep n a ρ := ⟨h.size, h.defers, h.get⟩
theorem RepD.put {n : Nat} {ds : List Deferred} {a : Act} {ρ : Env} (h : RepD n ds a ρ) {d : Option Tmp} (hd : dOk n d = true) (v : Value) : RepD n ds (a.put d v) (putE ρ d v) := by
 have h' : Rep n { a with defers := [] } ρ := ⟨h.size, rfl, h.get⟩
 have := h'.put hd v
 refine ⟨?_, ?_, ?_⟩
 ·have := this.size; cases d <;> exact this
 ·cases d <;> exact h.defers
 ·have := this.get; cases d <;> exact this
section
variable {P : Program} {n : Nat} {r0 : Option Nat} {d0 : List Deferred} {ops : Array Oper} {l : List Oper} {Q : QX} {ρ : Env} {F : FH} {L : List HP}
theorem wpIn_of_XOp {o : Oper} {K : Post} {a : Act} {w : World} {Q : Exit → Act → World → Prop} {N : Act → World → Prop}
  (h : XOp P o ρ F L K) (r : RepD n d0 a ρ) (H : Holds F L w) (hd : dOk n o.dst = true) (hn : ∀ c, o.op ≠ .defer c)
  (hN : ∀ v F' L' w', F ≤ F' → Holds F' L' w' → K v F' L' → RepD n d0 (a.put o.dst v) (putE ρ o.dst v) → N (a.put o.dst v) w') : o.wpIn (FR r0) 9 P a w N Q := by
 refine ⟨fun _ _ => trivial, ?_⟩
 rw [Oper.semAt_eq _ _ _ hn, r.eval]
 rcases h w H with ⟨v, w', F', L', h1, h2, h3, h4⟩ | ⟨w', F', L', h1, h2, h3, h4⟩ | ⟨f, args, w', h1, h2⟩
 ·rw [h1]; exact hN v F' L' w' h2 h3 h4 (r.put hd v)
 ·rw [h1]; exact hN undef F' L' w' h2 h3 h4 (r.put hd undef)
 ·rw [h1]
  refine ⟨fun _ => by decide, callsIn_FR (h2.mono fun e w'' ⟨v, F', L', he, hle, hH, hk⟩ => ?_)⟩
  subst he
  exact hN v F' L' w'' hle hH hk (r.put hd v)
def Yld (P : Program) (l : Nat) (args : List Value) (F : FH) (L : List HP) (K : Post) : Prop :=
 ∀ w, Holds F L w → YieldAt Fence.wide 9 P l args.toArray w fun e w' => ∃ v F' L', e = .returned v ∧ F ≤ F' ∧ Holds F' L' w' ∧ K v F' L'
theorem Yld.mono {k : Nat} {args : List Value} {K K' : Post} (h : Yld P k args F L K) (hk : ∀ v F' L', F ≤ F' → K v F' L' → K' v F' L') : Yld P k args F L K' := by
 intro w H
 obtain ⟨fn, tmps, assign, body, hy, hr⟩ := h w H
 exact ⟨fn, tmps, assign, body, hy, hr.mono fun e w' ⟨v, F', L', a, b, c, d⟩ => ⟨v, F', L', a, b, c, hk _ _ _ b d⟩⟩
end
section
variable {P : Program} {n : Nat} {r0 : Option Nat} {d0 : List Deferred} {Q : QX} {ρ : Env} {F : FH} {L : List HP}
end
def fin (P : Program) (F0 : FH) (Q : Post) : Ending → World → Prop := fun e w' => ∃ v F' L', e = .returned v ∧ F0 ≤ F' ∧ Holds F' L' w' ∧ Q v F' L'
section
variable {P : Program} {fn : Func} {Q : Post} {ρ : Env} {F F0 : FH} {L : List HP}
end
theorem Rd.all {F : FH} {L : List HP} {v : Value} {k : Nat} {es : List Value} (h : ∀ j u, es[j]? = some u → Rd F L (elemA v (k + j)) u) : ∀ i u, es[i]? = some u → Rd F L ((elemA v k).add i) u := by
 intro i u hu
 rw [elemA_add]
 exact h i u hu
abbrev FoundT := List Int × Int × StepT × Int
def FoundF (F : FH) (es : List Value) (x : FoundT) : Prop := ∃ a0 a4, es = [a0, .int .i64 x.2.1, .int .i64 x.2.2.1.1, .int .i64 x.2.2.1.2.1, a4, .int .i64 x.2.2.2] ∧ IntsF F a0 x.1 ∧ IntsF F a4 x.2.2.1.2.2
theorem FoundF.mono {F F' : FH} (le : F ≤ F') (es : List Value) (x : FoundT) (h : FoundF F es x) : FoundF F' es x := by
 obtain ⟨a0, a4, e, h0, h4⟩ := h
 exact ⟨a0, a4, e, h0.mono le, h4.mono le⟩
def FoundsF (F : FH) (v : Value) (xs : List FoundT) (cs : List Value) : Prop := ArrF F 6 v xs.length cs ∧ CO 6 FoundF ([], 0, (0, 0, []), 0) F cs xs
theorem FoundsF.mono {F F' : FH} {v : Value} {xs : List FoundT} {cs : List Value} (h : FoundsF F v xs cs) (le : F ≤ F') : FoundsF F' v xs cs := ⟨h.1.mono le, CO.mono (FoundF.mono le) h.2⟩
theorem FoundsF.slv {F : FH} {L : List HP} {v : Value} {xs : List FoundT} {cs : List Value} (h : FoundsF F v xs cs) : SlV F L v xs.length := SlV.arr h.1
theorem FoundsF.isSl {F : FH} {v : Value} {xs : List FoundT} {cs : List Value} (h : FoundsF F v xs cs) : IsSl v := h.1.isSl
theorem FoundsF.rd {F : FH} {v : Value} {xs : List FoundT} {cs : List Value} (h : FoundsF F v xs cs) {i : Nat} (hi : i < xs.length) : ∃ a0 a4, IntsF F a0 (xs.getD i ([], 0, (0, 0, []), 0)).1 ∧ IntsF F a4 (xs.getD i ([], 0, (0, 0, []), 0)).2.2.1.2.2 ∧ (∀ L j u, ([a0, .int .i64 (xs.getD i ([], 0, (0, 0, []), 0)).2.1, .int .i64 (xs.getD i ([], 0, (0, 0, []), 0)).2.2.1.1, .int .i64 (xs.getD i ([], 0, (0, 0, []), 0)).2.2.1.2.1, a4, .int .i64 (xs.getD i ([], 0, (0, 0, []), 0)).2.2.2] : List Value)[j]? = some u → Rd F L (elemA v (i * 6 + j)) u) ∧ (∀ j u, ([a0, .int .i64 (xs.getD i ([], 0, (0, 0, []), 0)).2.1, .int .i64 (xs.getD i ([], 0, (0, 0, []), 0)).2.2.1.1, .int .i64 (xs.getD i ([], 0, (0, 0, []), 0)).2.2.1.2.1, a4, .int .i64 (xs.getD i ([], 0, (0, 0, []), 0)).2.2.2] : List Value)[j]? = some u → cs[i * 6 + j]? = some u) := by
 obtain ⟨es, h1, h2, a0, a4, rfl, h0, h4⟩ := h.2.2 i hi
 refine ⟨a0, a4, h0, h4, fun L j u hu => ?_, fun j u hu => ?_⟩
 ·have := Rd.arrN (L := L) (k := i * 6) (vs := [a0, .int .i64 (xs.getD i ([], 0, (0, 0, []), 0)).2.1, .int .i64 (xs.getD i ([], 0, (0, 0, []), 0)).2.2.1.1, .int .i64 (xs.getD i ([], 0, (0, 0, []), 0)).2.2.1.2.1, a4, .int .i64 (xs.getD i ([], 0, (0, 0, []), 0)).2.2.2]) h.1 (by rw [h1]; exact h2) j u hu
  rwa [elemA_add] at this
 ·rw [← h2, List.getElem?_take] at hu
  split at hu
  ·rwa [List.getElem?_drop] at hu
  ·cases hu
def FoundsC (F : FH) (cs : List Value) (xs : List FoundT) : Prop := CO 6 FoundF ([], 0, (0, 0, []), 0) F cs xs
theorem FoundsC.mono {F F' : FH} {cs : List Value} {xs : List FoundT} (h : FoundsC F cs xs) (le : F ≤ F') : FoundsC F' cs xs := CO.mono (FoundF.mono le) h
theorem FoundsC.snoc {F : FH} {cs : List Value} {xs : List FoundT} {a0 a4 : Value} {y0 : List Int} {y1 : Int} {y2 : Int} {y3 : Int} {y4 : List Int} {y5 : Int} (h : FoundsC F cs xs) (h0 : IntsF F a0 y0) (h4 : IntsF F a4 y4) : FoundsC F (cs ++ [a0, .int .i64 y1, .int .i64 y2, .int .i64 y3, a4, .int .i64 y5]) (xs ++ [(y0, y1, (y2, y3, y4), y5)]) := CO.snoc h rfl ⟨a0, a4, rfl, h0, h4⟩
theorem FoundsC.get {F : FH} {cs : List Value} {xs : List FoundT} (h : FoundsC F cs xs) {i : Nat} (hi : i < xs.length) : ∃ a0 a4, IntsF F a0 (xs.getD i ([], 0, (0, 0, []), 0)).1 ∧ IntsF F a4 (xs.getD i ([], 0, (0, 0, []), 0)).2.2.1.2.2 ∧ (∀ j u, ([a0, .int .i64 (xs.getD i ([], 0, (0, 0, []), 0)).2.1, .int .i64 (xs.getD i ([], 0, (0, 0, []), 0)).2.2.1.1, .int .i64 (xs.getD i ([], 0, (0, 0, []), 0)).2.2.1.2.1, a4, .int .i64 (xs.getD i ([], 0, (0, 0, []), 0)).2.2.2] : List Value)[j]? = some u → cs[i * 6 + j]? = some u) := by
 obtain ⟨es, hl, ⟨a0, a4, rfl, h0, h4⟩, hr⟩ := CO.get h hi
 exact ⟨a0, a4, h0, h4, hr⟩
theorem FoundsC.fz {F : FH} {cs : List Value} {xs : List FoundT} {E : TypeId} {v : Value} {n : Nat} (h : FoundsC F cs xs) (hn : n = xs.length) (hf : Fz (slH E 6 v n cs) F) : FoundsF F v xs cs := by
 subst hn
 exact ⟨hf.sl, h⟩
abbrev MoveT := Int × Int × Bool × List Int
def MoveF (F : FH) (es : List Value) (x : MoveT) : Prop := ∃ a3, es = [.int .i64 x.1, .int .i64 x.2.1, .bool x.2.2.1, a3] ∧ IntsF F a3 x.2.2.2
theorem MoveF.mono {F F' : FH} (le : F ≤ F') (es : List Value) (x : MoveT) (h : MoveF F es x) : MoveF F' es x := by
 obtain ⟨a3, e, h3⟩ := h
 exact ⟨a3, e, h3.mono le⟩
def MovesF : FH → Value → List MoveT → Prop := SlOf 4 MoveF (0, 0, false, [])
theorem MovesF.mono {F F' : FH} {v : Value} {xs : List MoveT} (h : MovesF F v xs) (le : F ≤ F') : MovesF F' v xs := SlOf.mono (MoveF.mono le) h le
theorem MovesF.slv {F : FH} {L : List HP} {v : Value} {xs : List MoveT} (h : MovesF F v xs) : SlV F L v xs.length := SlOf.slv h
theorem MovesF.isSl {F : FH} {v : Value} {xs : List MoveT} (h : MovesF F v xs) : IsSl v := by obtain ⟨_, h, _⟩ := h; exact h.isSl
theorem MovesF.rd {F : FH} {v : Value} {xs : List MoveT} (h : MovesF F v xs) {i : Nat} (hi : i < xs.length) : ∃ a3, IntsF F a3 (xs.getD i (0, 0, false, [])).2.2.2 ∧ (∀ L j u, ([.int .i64 (xs.getD i (0, 0, false, [])).1, .int .i64 (xs.getD i (0, 0, false, [])).2.1, .bool (xs.getD i (0, 0, false, [])).2.2.1, a3] : List Value)[j]? = some u → Rd F L (elemA v (i * 4 + j)) u) ∧ True := by
 obtain ⟨es, hl, ⟨a3, rfl, h3⟩, hr⟩ := SlOf.get h hi
 exact ⟨a3, h3, hr, trivial⟩
def MovesC (F : FH) (cs : List Value) (xs : List MoveT) : Prop := CO 4 MoveF (0, 0, false, []) F cs xs
theorem MovesC.mono {F F' : FH} {cs : List Value} {xs : List MoveT} (h : MovesC F cs xs) (le : F ≤ F') : MovesC F' cs xs := CO.mono (MoveF.mono le) h
theorem MovesC.snoc {F : FH} {cs : List Value} {xs : List MoveT} {a3 : Value} {y0 : Int} {y1 : Int} {y2 : Bool} {y3 : List Int} (h : MovesC F cs xs) (h3 : IntsF F a3 y3) : MovesC F (cs ++ [.int .i64 y0, .int .i64 y1, .bool y2, a3]) (xs ++ [(y0, y1, y2, y3)]) := CO.snoc h rfl ⟨a3, rfl, h3⟩
theorem MovesC.get {F : FH} {cs : List Value} {xs : List MoveT} (h : MovesC F cs xs) {i : Nat} (hi : i < xs.length) : ∃ a3, IntsF F a3 (xs.getD i (0, 0, false, [])).2.2.2 ∧ (∀ j u, ([.int .i64 (xs.getD i (0, 0, false, [])).1, .int .i64 (xs.getD i (0, 0, false, [])).2.1, .bool (xs.getD i (0, 0, false, [])).2.2.1, a3] : List Value)[j]? = some u → cs[i * 4 + j]? = some u) := by
 obtain ⟨es, hl, ⟨a3, rfl, h3⟩, hr⟩ := CO.get h hi
 exact ⟨a3, h3, hr⟩
abbrev PolyT := Int × List Int
def PolyF (F : FH) (es : List Value) (x : PolyT) : Prop := ∃ a1, es = [.int .i64 x.1, a1] ∧ IntsF F a1 x.2
theorem PolyF.mono {F F' : FH} (le : F ≤ F') (es : List Value) (x : PolyT) (h : PolyF F es x) : PolyF F' es x := by
 obtain ⟨a1, e, h1⟩ := h
 exact ⟨a1, e, h1.mono le⟩
def PolysF : FH → Value → List PolyT → Prop := SlOf 2 PolyF (0, [])
theorem PolysF.mono {F F' : FH} {v : Value} {xs : List PolyT} (h : PolysF F v xs) (le : F ≤ F') : PolysF F' v xs := SlOf.mono (PolyF.mono le) h le
theorem PolysF.slv {F : FH} {L : List HP} {v : Value} {xs : List PolyT} (h : PolysF F v xs) : SlV F L v xs.length := SlOf.slv h
theorem PolysF.isSl {F : FH} {v : Value} {xs : List PolyT} (h : PolysF F v xs) : IsSl v := by obtain ⟨_, h, _⟩ := h; exact h.isSl
theorem PolysF.rd {F : FH} {v : Value} {xs : List PolyT} (h : PolysF F v xs) {i : Nat} (hi : i < xs.length) : ∃ a1, IntsF F a1 (xs.getD i (0, [])).2 ∧ (∀ L j u, ([.int .i64 (xs.getD i (0, [])).1, a1] : List Value)[j]? = some u → Rd F L (elemA v (i * 2 + j)) u) ∧ True := by
 obtain ⟨es, hl, ⟨a1, rfl, h1⟩, hr⟩ := SlOf.get h hi
 exact ⟨a1, h1, hr, trivial⟩
def PolysC (F : FH) (cs : List Value) (xs : List PolyT) : Prop := CO 2 PolyF (0, []) F cs xs
theorem PolysC.mono {F F' : FH} {cs : List Value} {xs : List PolyT} (h : PolysC F cs xs) (le : F ≤ F') : PolysC F' cs xs := CO.mono (PolyF.mono le) h
theorem PolysC.snoc {F : FH} {cs : List Value} {xs : List PolyT} {a1 : Value} {y0 : Int} {y1 : List Int} (h : PolysC F cs xs) (h1 : IntsF F a1 y1) : PolysC F (cs ++ [.int .i64 y0, a1]) (xs ++ [(y0, y1)]) := CO.snoc h rfl ⟨a1, rfl, h1⟩
theorem PolysC.get {F : FH} {cs : List Value} {xs : List PolyT} (h : PolysC F cs xs) {i : Nat} (hi : i < xs.length) : ∃ a1, IntsF F a1 (xs.getD i (0, [])).2 ∧ (∀ j u, ([.int .i64 (xs.getD i (0, [])).1, a1] : List Value)[j]? = some u → cs[i * 2 + j]? = some u) := by
 obtain ⟨es, hl, ⟨a1, rfl, h1⟩, hr⟩ := CO.get h hi
 exact ⟨a1, h1, hr⟩
abbrev LineT := Int × List (List Int) × List Int
def LineF (F : FH) (es : List Value) (x : LineT) : Prop := ∃ a1 a2, es = [.int .i64 x.1, a1, a2] ∧ RowsF F a1 x.2.1 ∧ IntsF F a2 x.2.2
theorem LineF.mono {F F' : FH} (le : F ≤ F') (es : List Value) (x : LineT) (h : LineF F es x) : LineF F' es x := by
 obtain ⟨a1, a2, e, h1, h2⟩ := h
 exact ⟨a1, a2, e, h1.mono le, h2.mono le⟩
def LinesF : FH → Value → List LineT → Prop := SlOf 3 LineF (0, [], [])
theorem LinesF.mono {F F' : FH} {v : Value} {xs : List LineT} (h : LinesF F v xs) (le : F ≤ F') : LinesF F' v xs := SlOf.mono (LineF.mono le) h le
theorem LinesF.slv {F : FH} {L : List HP} {v : Value} {xs : List LineT} (h : LinesF F v xs) : SlV F L v xs.length := SlOf.slv h
theorem LinesF.isSl {F : FH} {v : Value} {xs : List LineT} (h : LinesF F v xs) : IsSl v := by obtain ⟨_, h, _⟩ := h; exact h.isSl
theorem LinesF.rd {F : FH} {v : Value} {xs : List LineT} (h : LinesF F v xs) {i : Nat} (hi : i < xs.length) : ∃ a1 a2, RowsF F a1 (xs.getD i (0, [], [])).2.1 ∧ IntsF F a2 (xs.getD i (0, [], [])).2.2 ∧ (∀ L j u, ([.int .i64 (xs.getD i (0, [], [])).1, a1, a2] : List Value)[j]? = some u → Rd F L (elemA v (i * 3 + j)) u) ∧ True := by
 obtain ⟨es, hl, ⟨a1, a2, rfl, h1, h2⟩, hr⟩ := SlOf.get h hi
 exact ⟨a1, a2, h1, h2, hr, trivial⟩
def LinesC (F : FH) (cs : List Value) (xs : List LineT) : Prop := CO 3 LineF (0, [], []) F cs xs
theorem LinesC.mono {F F' : FH} {cs : List Value} {xs : List LineT} (h : LinesC F cs xs) (le : F ≤ F') : LinesC F' cs xs := CO.mono (LineF.mono le) h
theorem LinesC.snoc {F : FH} {cs : List Value} {xs : List LineT} {a1 a2 : Value} {y0 : Int} {y1 : List (List Int)} {y2 : List Int} (h : LinesC F cs xs) (h1 : RowsF F a1 y1) (h2 : IntsF F a2 y2) : LinesC F (cs ++ [.int .i64 y0, a1, a2]) (xs ++ [(y0, y1, y2)]) := CO.snoc h rfl ⟨a1, a2, rfl, h1, h2⟩
theorem LinesC.get {F : FH} {cs : List Value} {xs : List LineT} (h : LinesC F cs xs) {i : Nat} (hi : i < xs.length) : ∃ a1 a2, RowsF F a1 (xs.getD i (0, [], [])).2.1 ∧ IntsF F a2 (xs.getD i (0, [], [])).2.2 ∧ (∀ j u, ([.int .i64 (xs.getD i (0, [], [])).1, a1, a2] : List Value)[j]? = some u → cs[i * 3 + j]? = some u) := by
 obtain ⟨es, hl, ⟨a1, a2, rfl, h1, h2⟩, hr⟩ := CO.get h hi
 exact ⟨a1, a2, h1, h2, hr⟩
abbrev CRuleT := List Int × List Int × List (List Int × List Int)
def CRuleF (F : FH) (es : List Value) (x : CRuleT) : Prop := ∃ a0 a1 a2, es = [a0, a1, a2] ∧ IntsF F a0 x.1 ∧ IntsF F a1 x.2.1 ∧ PairsF F a2 x.2.2
theorem CRuleF.mono {F F' : FH} (le : F ≤ F') (es : List Value) (x : CRuleT) (h : CRuleF F es x) : CRuleF F' es x := by
 obtain ⟨a0, a1, a2, e, h0, h1, h2⟩ := h
 exact ⟨a0, a1, a2, e, h0.mono le, h1.mono le, h2.mono le⟩
def CRulesF : FH → Value → List CRuleT → Prop := SlOf 3 CRuleF ([], [], [])
theorem CRulesF.mono {F F' : FH} {v : Value} {xs : List CRuleT} (h : CRulesF F v xs) (le : F ≤ F') : CRulesF F' v xs := SlOf.mono (CRuleF.mono le) h le
theorem CRulesF.slv {F : FH} {L : List HP} {v : Value} {xs : List CRuleT} (h : CRulesF F v xs) : SlV F L v xs.length := SlOf.slv h
theorem CRulesF.isSl {F : FH} {v : Value} {xs : List CRuleT} (h : CRulesF F v xs) : IsSl v := by obtain ⟨_, h, _⟩ := h; exact h.isSl
theorem CRulesF.rd {F : FH} {v : Value} {xs : List CRuleT} (h : CRulesF F v xs) {i : Nat} (hi : i < xs.length) : ∃ a0 a1 a2, IntsF F a0 (xs.getD i ([], [], [])).1 ∧ IntsF F a1 (xs.getD i ([], [], [])).2.1 ∧ PairsF F a2 (xs.getD i ([], [], [])).2.2 ∧ (∀ L j u, ([a0, a1, a2] : List Value)[j]? = some u → Rd F L (elemA v (i * 3 + j)) u) ∧ True := by
 obtain ⟨es, hl, ⟨a0, a1, a2, rfl, h0, h1, h2⟩, hr⟩ := SlOf.get h hi
 exact ⟨a0, a1, a2, h0, h1, h2, hr, trivial⟩
def CRulesC (F : FH) (cs : List Value) (xs : List CRuleT) : Prop := CO 3 CRuleF ([], [], []) F cs xs
theorem CRulesC.mono {F F' : FH} {cs : List Value} {xs : List CRuleT} (h : CRulesC F cs xs) (le : F ≤ F') : CRulesC F' cs xs := CO.mono (CRuleF.mono le) h
theorem CRulesC.snoc {F : FH} {cs : List Value} {xs : List CRuleT} {a0 a1 a2 : Value} {y0 : List Int} {y1 : List Int} {y2 : List (List Int × List Int)} (h : CRulesC F cs xs) (h0 : IntsF F a0 y0) (h1 : IntsF F a1 y1) (h2 : PairsF F a2 y2) : CRulesC F (cs ++ [a0, a1, a2]) (xs ++ [(y0, y1, y2)]) := CO.snoc h rfl ⟨a0, a1, a2, rfl, h0, h1, h2⟩
theorem CRulesC.get {F : FH} {cs : List Value} {xs : List CRuleT} (h : CRulesC F cs xs) {i : Nat} (hi : i < xs.length) : ∃ a0 a1 a2, IntsF F a0 (xs.getD i ([], [], [])).1 ∧ IntsF F a1 (xs.getD i ([], [], [])).2.1 ∧ PairsF F a2 (xs.getD i ([], [], [])).2.2 ∧ (∀ j u, ([a0, a1, a2] : List Value)[j]? = some u → cs[i * 3 + j]? = some u) := by
 obtain ⟨es, hl, ⟨a0, a1, a2, rfl, h0, h1, h2⟩, hr⟩ := CO.get h hi
 exact ⟨a0, a1, a2, h0, h1, h2, hr⟩
def XStepsF (F : FH) (v : Value) (xs : List StepT) (cs : List Value) : Prop := ArrF F 3 v xs.length cs ∧ StepsC F cs xs
theorem XStepsF.mono {F F' : FH} {v : Value} {xs : List StepT} {cs : List Value} (h : XStepsF F v xs cs) (le : F ≤ F') : XStepsF F' v xs cs := ⟨h.1.mono le, h.2.mono le⟩
theorem XStepsF.slv {F : FH} {L : List HP} {v : Value} {xs : List StepT} {cs : List Value} (h : XStepsF F v xs cs) : SlV F L v xs.length := SlV.arr h.1
theorem XStepsF.isSl {F : FH} {v : Value} {xs : List StepT} {cs : List Value} (h : XStepsF F v xs cs) : IsSl v := h.1.isSl
theorem XStepsF.rd {F : FH} {v : Value} {xs : List StepT} {cs : List Value} (h : XStepsF F v xs cs) {i : Nat} (hi : i < xs.length) : ∃ c, IntsF F c (xs.getD i (0, 0, [])).2.2 ∧ (∀ L, Rd F L (elemA v (i * 3)) (.int .i64 (xs.getD i (0, 0, [])).1)) ∧ (∀ L, Rd F L (elemA v (i * 3 + 1)) (.int .i64 (xs.getD i (0, 0, [])).2.1)) ∧ (∀ L, Rd F L (elemA v (i * 3 + 2)) c) ∧ cs[i * 3 + 2]? = some c := by
 obtain ⟨es, h1, h2, c, rfl, hc⟩ := h.2.2 i hi
 have hq : ∀ j u, ([.int .i64 (xs.getD i (0, 0, [])).1, .int .i64 (xs.getD i (0, 0, [])).2.1, c] : List Value)[j]? = some u → cs[i * 3 + j]? = some u := by
  intro j u hu
  rw [← h2, List.getElem?_take] at hu
  split at hu
  ·rwa [List.getElem?_drop] at hu
  ·cases hu
 have hr : ∀ L j u, ([.int .i64 (xs.getD i (0, 0, [])).1, .int .i64 (xs.getD i (0, 0, [])).2.1, c] : List Value)[j]? = some u → Rd F L (elemA v (i * 3 + j)) u := by
  intro L j u hu
  have := Rd.arrN (L := L) (k := i * 3) (vs := [.int .i64 (xs.getD i (0, 0, [])).1, .int .i64 (xs.getD i (0, 0, [])).2.1, c]) h.1 (by rw [h1]; exact h2) j u hu
  rwa [elemA_add] at this
 exact ⟨c, hc, fun L => by simpa using hr L 0 _ rfl, fun L => hr L 1 _ rfl, fun L => hr L 2 _ rfl, hq 2 _ rfl⟩
section
variable {F F' : FH} {A B M : List HP} {h : HP}
theorem Fresh.none (k : Fresh F F' (star (A ++ B))) : Fresh F F' (star A) := by
 obtain ⟨m, hm, nd, hp⟩ := k
 obtain ⟨a, b, ha, hb, rfl⟩ := star_append.1 hm
 refine ⟨a, ha, ?_, fun p h' => hp p (List.mem_append_left _ h')⟩
 rw [List.map_append] at nd
 exact (List.nodup_append.1 nd).1
end
def FrStepsF (F0 F : FH) (e : TypeId) (v : Value) (xs : List StepT) : Prop := ∃ acs Ls, XStepsF F v xs acs ∧ DeepL 3 (StepO e) acs xs Ls ∧ Fresh F0 F (star Ls)
theorem FrStepsF.mono {F0 F F' : FH} {e : TypeId} {v : Value} {xs : List StepT} (h : FrStepsF F0 F e v xs) (le : F ≤ F') : FrStepsF F0 F' e v xs := by
 obtain ⟨acs, Ls, h1, h2, h3⟩ := h
 exact ⟨acs, Ls, h1.mono le, h2, h3.mono le⟩
theorem FrStepsF.base {F0 F F1 : FH} {e : TypeId} {v : Value} {xs : List StepT} (h : FrStepsF F1 F e v xs) (le : F0 ≤ F1) : FrStepsF F0 F e v xs := by
 obtain ⟨acs, Ls, h1, h2, h3⟩ := h
 exact ⟨acs, Ls, h1, h2, h3.base le⟩
theorem FrStepsF.isSl {F0 F : FH} {e : TypeId} {v : Value} {xs : List StepT} (h : FrStepsF F0 F e v xs) : IsSl v := by
 obtain ⟨acs, Ls, h1, _, _⟩ := h
 exact h1.isSl
def FrIntsF (F0 F : FH) (e : TypeId) (v : Value) (xs : List Int) : Prop := Fresh F0 F (intsH e v xs)
theorem FrIntsF.mono {F0 F F' : FH} {e : TypeId} {v : Value} {xs : List Int} (h : FrIntsF F0 F e v xs) (le : F ≤ F') : FrIntsF F0 F' e v xs := Fresh.mono h le
theorem FrIntsF.base {F0 F F1 : FH} {e : TypeId} {v : Value} {xs : List Int} (h : FrIntsF F1 F e v xs) (le : F0 ≤ F1) : FrIntsF F0 F e v xs := Fresh.base h le
section
variable {F F' G F1 F2 : FH} {D D' : HP} {L M : List HP} {P : Program} {o : Oper} {ρ : Env} {K : Post} {e E : TypeId}
theorem Fresh.perm {A B : List HP} (h : Fresh F F' (star A)) (p : A.Perm B) : Fresh F F' (star B) := by
 obtain ⟨m, hm, nd, hp⟩ := h
 obtain ⟨l, hl, pl⟩ := star_perm p m hm
 exact ⟨l, hl, ((pl.map Prod.fst).nodup_iff).2 nd, fun q hq => hp q (pl.mem_iff.1 hq)⟩
theorem Fresh.left {A B : List HP} (h : Fresh F F' (star (A ++ B))) : Fresh F F' (star A) := h.none
theorem Fresh.right {A B : List HP} (h : Fresh F F' (star (A ++ B))) : Fresh F F' (star B) := (h.perm List.perm_append_comm).none
theorem StepsC.get {F : FH} {cs : List Value} {xs : List StepT} (h : StepsC F cs xs) {i : Nat} (hi : i < xs.length) :
  ∃ a, IntsF F a (xs.getD i (0, 0, [])).2.2 ∧ cs[i * 3]? = some (.int .i64 (xs.getD i (0, 0, [])).1) ∧ cs[i * 3 + 1]? = some (.int .i64 (xs.getD i (0, 0, [])).2.1) ∧ cs[i * 3 + 2]? = some a := by
 obtain ⟨es, _, ⟨a, rfl, ha⟩, hg⟩ := CO.get h hi
 exact ⟨a, ha, by simpa using hg 0 _ rfl, hg 1 _ rfl, hg 2 _ rfl⟩
def FreshsF (F0 F : FH) (D : HP) : Prop := Fresh F0 F D
theorem FreshsF.mono {F0 F F' : FH} {D : HP} (h : FreshsF F0 F D) (le : F ≤ F') : FreshsF F0 F' D := Fresh.mono h le
theorem slH.isSl {s n : Nat} {v : Value} {cs : List Value} {l : OH} (h : slH E s v n cs l) : IsSl v := by
 rcases h.2 with ⟨b, rfl, _⟩ | ⟨b, c, sp, rfl, _⟩
 ·exact ⟨_, _, _, rfl⟩
 ·exact ⟨_, _, _, rfl⟩
end
section
variable {F F' G : FH} {e E : TypeId} {v : Value}
def MoveO (e : TypeId) (es : List Value) (x : MoveT) (K : List HP) : Prop := ∃ c, es = [.int .i64 x.1, .int .i64 x.2.1, .bool x.2.2.1, c] ∧ K = [intsH e c x.2.2.2]
abbrev movesD (e E : TypeId) (v : Value) (xs : List MoveT) : HP := deepH 4 (MoveO e) E v xs
theorem MoveO.fz (es : List Value) (x : MoveT) (K : List HP) (h : MoveO e es x K) (hz : ∃ l, star K l ∧ ∀ p ∈ l, F.cells p.1 = some p.2) : MoveF F es x := by
 obtain ⟨c, rfl, rfl⟩ := h
 exact ⟨c, rfl, intsH.fz (E := e) (frozen_star hz _ (by simp))⟩
theorem movesD.fz {xs : List MoveT} (h : Fz (movesD e E v xs) F) : MovesF F v xs := deepH.fz MoveO.fz h
end
section
variable {P : Program} {ρ : Env} {F : FH} {L : List HP} {K : Post} {d : Option Tmp} {ty : TypeId} {pos : String} {af : Array Edge} {g : Option (Nat × Bool)}
theorem XOp.remC {x y : Operand} {t u : TypeId} {k : IntKind} {a b : Int} (hx : evO ρ x = .int k a) (hy : evO ρ y = .int k b) (h0 : 0 ≤ a) (hb : b ≠ 0) (kk : K (.int k (a % b)) F L) : XOp P ⟨d, .binOp .rem t x y u, ty, pos, af, g⟩ ρ F L K :=
 XOp.value (fun w _ => by simp [execOp, hx, hy, eqGuard, binOp, Op.intDiv, hb, IntWalk.rem_in _ _ h0]) kk
end
theorem StepsC.ones {F : FH} {cs : List Value} {xs : List StepT} (h : StepsC F cs xs) : ∀ u ∈ cs, u.oneCell' = true := by
 intro u hu
 obtain ⟨q, hq, rfl⟩ := List.getElem_of_mem hu
 have hl := h.1
 obtain ⟨es, h1, ⟨c, rfl, hc⟩, hg⟩ := CO.get h (i := q / 3) (by omega)
 have hj : q % 3 < 3 := Nat.mod_lt _ (by decide)
 have e : q / 3 * 3 + q % 3 = q := by omega
 have hx : ∀ v, [Value.int .i64 (xs.getD (q / 3) (0, 0, [])).1, .int .i64 (xs.getD (q / 3) (0, 0, [])).2.1, c][q % 3]? = some v → cs[q] = v := fun v hv => by
  have := hg (q % 3) v hv
  rw [e, List.getElem?_eq_getElem hq] at this
  exact Option.some.inj this
 obtain ⟨b, n, k, rfl⟩ := IntsF.isSl hc
 match hm : q % 3, hj with
 | 0, _ => rw [hx _ (by rw [hm]; rfl)]; rfl
 | 1, _ => rw [hx _ (by rw [hm]; rfl)]; rfl
 | 2, _ => rw [hx _ (by rw [hm]; rfl)]; rfl
def WKJ (F0 : FH) (e ES T : TypeId) (bw : Nat) (fv : Value) (tl : List HP) (I : Nat → List StepT → Prop) (k : Nat) (Fy : FH) (Ly : List HP) : Prop :=
 ∃ (sv : Value) (ss : List StepT) (cs : List Value) (Ls : List HP) (m : Nat), IsSl sv ∧ StepsC Fy cs ss ∧ m = ss.length ∧ DeepL 3 (StepO e) cs ss Ls ∧ Fresh F0 Fy (star Ls) ∧ I k ss ∧ Ly = cellsH bw [fv, sv] T :: slH ES 3 sv m cs :: tl
theorem WKJ.mono {F0 F F' : FH} {e ES T : TypeId} {bw k : Nat} {fv : Value} {tl L : List HP} {I : Nat → List StepT → Prop} (h : WKJ F0 e ES T bw fv tl I k F L) (le : F ≤ F') : WKJ F0 e ES T bw fv tl I k F' L :=
 let ⟨sv, ss, cs, Ls, m, h1, h2, h3, h4, h5, h6, h7⟩ := h
 ⟨sv, ss, cs, Ls, m, h1, h2.mono le, h3, h4, h5.mono le, h6, h7⟩
section
variable {P : Program} {fn : Func} {Q : Post} {ρ : Env} {F F0 : FH} {L : List HP}
theorem Does.at {f : FuncId} {args : List Value} {Q : Value → FH → Prop} {h : HP} (A : List HP) {B : List HP} (H : Does P f args F (h :: (A ++ B)) fun v F' L' => Q v F' ∧ h :: (A ++ B) = L') : Does P f args F (A ++ h :: B) fun v F' L' => Q v F' ∧ A ++ h :: B = L' := fun w Hw =>
 (H w (Sub.front.holds Hw)).mono fun _ _ ⟨v, F', L', he, le, H', hq, hl⟩ => ⟨v, F', _, he, le, Sub.back.holds (hl ▸ H'), hq, rfl⟩
end
section
variable {P : Program} {ρ : Env} {F : FH} {L : List HP} {K : Post} {d : Option Tmp} {ty : TypeId} {pos : String} {af : Array Edge} {g : Option (Nat × Bool)}
end
section
variable {P : Program} {ρ : Env} {F : FH} {L : List HP} {K : Post} {d : Option Tmp} {ty : TypeId} {pos : String} {af : Array Edge} {g : Option (Nat × Bool)}
theorem XOp.addW {x y : Operand} {t u : TypeId} {k : IntKind} {a b : Int} (hx : evO ρ x = .int k a) (hy : evO ρ y = .int k b) (kk : ∀ r, K (.int k r) F L) : XOp P ⟨d, .binOp .add t x y u, ty, pos, af, g⟩ ρ F L K :=
 XOp.value (v := .int k (k.wrap (a + b))) (fun w _ => by simp [execOp, hx, hy, eqGuard, binOp, Op.intArith]) (kk _)
theorem XOp.mulW {x y : Operand} {t u : TypeId} {k : IntKind} {a b : Int} (hx : evO ρ x = .int k a) (hy : evO ρ y = .int k b) (kk : ∀ r, K (.int k r) F L) : XOp P ⟨d, .binOp .mul t x y u, ty, pos, af, g⟩ ρ F L K :=
 XOp.value (v := .int k (k.wrap (a * b))) (fun w _ => by simp [execOp, hx, hy, eqGuard, binOp, Op.intArith]) (kk _)
theorem XOp.shrW {x y : Operand} {t u : TypeId} {k k' : IntKind} {a b : Int} (hx : evO ρ x = .int k a) (hy : evO ρ y = .int k' b) (hb : 0 ≤ b) (kk : ∀ r, K (.int k r) F L) : XOp P ⟨d, .binOp .shr t x y u, ty, pos, af, g⟩ ρ F L K :=
 XOp.value (v := .int k (a.fdiv (2 ^ min b.toNat k.bits))) (fun w _ => by simp [execOp, hx, hy, eqGuard, binOp, Op.shift, show ¬ b < 0 by omega]) (kk _)
theorem and_range {k : IntKind} (hk : k.bits = 64) {a b : Int} (hb : 0 ≤ b ∧ b < 4611686018427387904) : 0 ≤ k.wrap (BitVec.ofInt k.bits a &&& BitVec.ofInt k.bits b).toNat ∧ k.wrap (BitVec.ofInt k.bits a &&& BitVec.ofInt k.bits b).toNat ≤ b := by
 have h1 : ((BitVec.ofInt k.bits a &&& BitVec.ofInt k.bits b).toNat : Int) ≤ b := by
  rw [BitVec.toNat_and]
  have h2 : (BitVec.ofInt k.bits a).toNat &&& (BitVec.ofInt k.bits b).toNat ≤ (BitVec.ofInt k.bits b).toNat := Nat.and_le_right
  have h3 : ((BitVec.ofInt k.bits b).toNat : Int) = b := by
   rw [BitVec.toNat_ofInt, hk]
   have : b % ((2 ^ 64 : Nat) : Int) = b := Int.emod_eq_of_lt hb.1 (by omega)
   rw [this]; omega
  omega
 have h0 : (0 : Int) ≤ ((BitVec.ofInt k.bits a &&& BitVec.ofInt k.bits b).toNat : Int) := Int.natCast_nonneg _
 generalize ((BitVec.ofInt k.bits a &&& BitVec.ofInt k.bits b).toNat : Int) = r at h0 h1
 have e : k.wrap r = r := by
  cases k <;> first | exact IntWalk.i64_in _ ⟨by omega, by omega⟩ | exact IntWalk.u64_in _ ⟨by omega, by omega⟩ | (exfalso; revert hk; decide)
 rw [e]
 exact ⟨h0, h1⟩
theorem XOp.andW {x y : Operand} {t u : TypeId} {k : IntKind} {a b : Int} (hk : k.bits = 64) (hx : evO ρ x = .int k a) (hy : evO ρ y = .int k b) (hb : 0 ≤ b ∧ b < 4611686018427387904) (kk : ∀ r, 0 ≤ r ∧ r ≤ b → K (.int k r) F L) : XOp P ⟨d, .binOp .and t x y u, ty, pos, af, g⟩ ρ F L K :=
 XOp.value (v := .int k (k.wrap (BitVec.ofInt k.bits a &&& BitVec.ofInt k.bits b).toNat)) (fun w _ => by simp [execOp, hx, hy, eqGuard, binOp, Op.intBits]) (kk _ (and_range hk hb))
theorem XOp.remV {x y : Operand} {t u : TypeId} {k : IntKind} {a b : Int} (hx : evO ρ x = .int k a) (hy : evO ρ y = .int k b) (h0 : 0 ≤ a) (hb : 0 < b) (kk : ∀ r, 0 ≤ r ∧ r < b → K (.int k r) F L) : XOp P ⟨d, .binOp .rem t x y u, ty, pos, af, g⟩ ρ F L K :=
 XOp.remC hx hy h0 (by omega) (kk _ ⟨Int.emod_nonneg a (by omega), Int.emod_lt_of_pos a hb⟩)
theorem XOp.convW {x : Operand} {s t : TypeId} {k k' : IntKind} {a : Int} {ds : TypeDesc} (hs : ∀ w, (underlying s).run P w = .ok ds w) (ht : ∀ w, (underlying t).run P w = .ok (.int k) w)
  (hx : evO ρ x = .int k' a) (kk : ∀ r, K (.int k r) F L) : XOp P ⟨d, .convert s t x, ty, pos, af, g⟩ ρ F L K := XOp.convI (k.wrap a) hs ht hx rfl (kk _)
end
def ByteE (F : FH) (es : List Value) (x : Int) : Prop := es = [.int .u8 x] ∧ 0 ≤ x ∧ x ≤ 255
theorem ByteE.mono {F F' : FH} (es : List Value) (x : Int) (h : ByteE F es x) : ByteE F' es x := h
def BytesF : FH → Value → List Int → Prop := SlOf 1 ByteE 0
theorem BytesF.mono {F F' : FH} {v : Value} {xs : List Int} (h : BytesF F v xs) (le : F ≤ F') : BytesF F' v xs := SlOf.mono ByteE.mono h le
theorem BytesF.slv {F : FH} {L : List HP} {v : Value} {xs : List Int} (h : BytesF F v xs) : SlV F L v xs.length := SlOf.slv h
theorem BytesF.isSl {F : FH} {v : Value} {xs : List Int} (h : BytesF F v xs) : IsSl v := by obtain ⟨_, h, _⟩ := h; exact h.isSl
theorem BytesF.rd {F : FH} {v : Value} {xs : List Int} (h : BytesF F v xs) {i : Nat} (hi : i < xs.length) : ∀ L, Rd F L (elemA v i) (.int .u8 (xs.getD i 0)) := by
 obtain ⟨es, hl, ⟨rfl, _⟩, hr⟩ := SlOf.get h hi
 intro L
 have := hr L 0 _ rfl
 simpa using this
theorem BytesF.range {F : FH} {v : Value} {xs : List Int} (h : BytesF F v xs) {i : Nat} (hi : i < xs.length) : 0 ≤ xs.getD i 0 ∧ xs.getD i 0 ≤ 255 := by
 obtain ⟨es, hl, ⟨rfl, h2⟩, hr⟩ := SlOf.get h hi
 exact h2
def curH (k : IntKind) (E : TypeId) (b : Nat) (bv : Value) (n : Nat) : HP := fun l => ∃ i h : Int, 0 ≤ i ∧ i ≤ n ∧ cellsH b [bv, .int .i64 i, .int k h] E l
theorem curH.of {k : IntKind} {E : TypeId} {b : Nat} {bv : Value} {n : Nat} {i h : Int} (h0 : 0 ≤ i) (h1 : i ≤ n) : ∀ l, cellsH b [bv, .int .i64 i, .int k h] E l → curH k E b bv n l := fun l hl => ⟨i, h, h0, h1, hl⟩
theorem Holds.uncur {k : IntKind} {E : TypeId} {b : Nat} {bv : Value} {n : Nat} {F : FH} {L : List HP} {w : World} (H : Holds F (curH k E b bv n :: L) w) : ∃ i h : Int, 0 ≤ i ∧ i ≤ n ∧ Holds F (cellsH b [bv, .int .i64 i, .int k h] E :: L) w := by
 obtain ⟨h1, h2, h3, h4, l, hl, nd, hp⟩ := H
 obtain ⟨a, c, ⟨i, h, q1, q2, hm⟩, hc, rfl⟩ := hl
 exact ⟨i, h, q1, q2, h1, h2, h3, h4, _, ⟨a, c, hm, hc, rfl⟩, nd, hp⟩
theorem Does.cur {P : Program} {f : FuncId} {args : List Value} {k : IntKind} {E : TypeId} {b : Nat} {bv : Value} {n : Nat} {F : FH} {L : List HP} {Q : Value → FH → Prop}
  (H : ∀ i h : Int, 0 ≤ i → i ≤ n → Does P f args F (cellsH b [bv, .int .i64 i, .int k h] E :: L) fun v F' L' => Q v F' ∧ ∃ i' h' : Int, 0 ≤ i' ∧ i' ≤ n ∧ cellsH b [bv, .int .i64 i', .int k h'] E :: L = L') :
  Does P f args F (curH k E b bv n :: L) fun v F' L' => Q v F' ∧ curH k E b bv n :: L = L' := by
 intro w Hw
 obtain ⟨i, h, q1, q2, Hw'⟩ := Hw.uncur
 refine (H i h q1 q2 w Hw').mono ?_
 rintro e w' ⟨v, F', L', he, le, H', hq, i', h', q3, q4, rfl⟩
 exact ⟨v, F', _, he, le, (Sub.keep (curH.of q3 q4) (Sub.refl _)).holds H', hq, rfl⟩
def intAt : Value → Int
 | .int _ n => n
 | _ => 0
end Go.Proofs.Ytcdjpapjjoldeaa.X
namespace Go.Proofs.Ytcdjpapjjoldeaa.M
section
variable {ar t u : List Int} {n : Nat} {f : Int}
def goodN (ar t : List Int) (n : Nat) : Prop := (∀ x ∈ t, -24 ≤ x) ∧ ∀ r, endGo ar (t ++ r) n = some t.length
def goodT (ar t : List Int) : Prop := goodN ar t 1
theorem goodN.nil : goodN ar [] 0 := ⟨fun x hx => (List.not_mem_nil hx).elim, fun r => by cases r <;> rfl⟩
theorem goodN.snoc (h : goodN ar t n) (k : goodT ar u) : goodN ar (t ++ u) (n + 1) := by
 refine ⟨fun x hx => (List.mem_append.1 hx).elim (h.1 x) (k.1 x), fun r => ?_⟩
 have h1 := h.2 (u ++ r)
 have h2 : endGo ar ((t ++ (u ++ r)).drop t.length) 1 = some u.length := by rw [List.drop_left]; exact k.2 r
 rw [List.append_assoc, endGo_join h1 h2, List.length_append]
theorem goodT.one (hf : -24 ≤ f) (hl : f < ar.length) (ha : arity ar f = 0) : goodT ar [f] := by
 refine ⟨fun x hx => by obtain rfl := List.mem_singleton.1 hx; exact hf, fun r => ?_⟩
 show endGo ar (f :: r) (0 + 1) = some 1
 unfold endGo
 rw [if_pos hl, ha]
 cases r <;> rfl
theorem goodT.var (hf : -24 ≤ f) (h0 : f < 0) : goodT ar [f] := goodT.one hf (by omega) (by rw [arity, if_pos h0])
theorem goodT.node (h0 : 0 ≤ f) (hl : f < ar.length) (ha : arity ar f = (n : Int)) (h : goodN ar t n) : goodT ar (f :: t) := by
 refine ⟨fun x hx => (List.mem_cons.1 hx).elim (fun e => by omega) (h.1 x), fun r => ?_⟩
 show endGo ar (f :: (t ++ r)) (0 + 1) = some (t.length + 1)
 unfold endGo
 rw [if_pos hl, ha, show 0 + (n : Int).toNat = n from by omega, h.2 r]
 rfl
theorem goodT.ok (hs : sigOk ar = true) (hl : 1 ≤ t.length ∧ t.length ≤ 60) (h : goodT ar t) : termOk ar t = true := by
 have e := h.2 []
 rw [List.append_nil] at e
 exact termOk_iff.2 ⟨hs, hl.1, hl.2, h.1, e⟩
def szB : Nat → Nat
 | 0 => 1
 | d + 1 => 1 + 2 * szB d
theorem szB_pos : ∀ d, 1 ≤ szB d
 | 0 => by simp [szB]
 | d + 1 => by simp only [szB]; omega
theorem szB_next {d : Nat} (h : 1 ≤ d) : szB d = 1 + 2 * szB (d - 1) := by
 obtain ⟨e, rfl⟩ : ∃ e, d = e + 1 := ⟨d - 1, by omega⟩
 rfl
theorem szB_le : ∀ {d e : Nat}, d ≤ e → szB d ≤ szB e
 | 0, e, _ => szB_pos e
 | d + 1, 0, h => by omega
 | d + 1, e + 1, h => by have := szB_le (d := d) (e := e) (by omega); simp only [szB]; omega
def smallR (rs : Rules) : Prop := ∀ i, i < rs.length → (rs.getD i ([], [])).1.length ≤ 2000 ∧ (rs.getD i ([], [])).2.length ≤ 2000
theorem smallR.nil : smallR [] := fun i hi => by simp at hi
theorem smallR.snoc {l r : List Int} {rs : Rules} (h : smallR rs) (hl : l.length ≤ 2000) (hr : r.length ≤ 2000) : smallR (rs ++ [(l, r)]) := fun i hi => by
 rcases Nat.lt_or_ge i rs.length with h' | h'
 ·have := h i h'
  simpa [List.getD, List.getElem?_append_left h'] using this
 ·have e : i = rs.length := by simp at hi; omega
  subst e
  simpa [List.getD] using And.intro hl hr
variable {rs : Rules} {a b : List Int} {ts : RowL} {m : Int} {i k : Nat}
end
abbrev StepV := Int × Int × List Int
def stepOne (ar : List Int) (rs : Rules) (t : List Int) (p r : Nat) : List StepV := match stepL ar rs t p r with | some u => [((p : Int), (r : Int), u)] | none => []
def stepsRow (ar : List Int) (rs : Rules) (t : List Int) (p k : Nat) : List StepV := (List.range k).flatMap (stepOne ar rs t p)
def stepsTo (ar : List Int) (rs : Rules) (t : List Int) (p : Nat) : List StepV := (List.range p).flatMap fun q => stepsRow ar rs t q rs.length
def stepsL (ar : List Int) (rs : Rules) (t : List Int) : List StepV := stepsTo ar rs t t.length
def longOne (ar : List Int) (rs : Rules) (t : List Int) (p r : Nat) : Bool := isRedex ar rs t p r && !(stepL ar rs t p r).isSome
section
variable {ar t : List Int} {rs : Rules} {p r k : Nat} {u : List Int}
theorem stepsRow_succ : stepsRow ar rs t p (k + 1) = stepsRow ar rs t p k ++ stepOne ar rs t p k := by simp [stepsRow, List.range_succ]
theorem stepsTo_succ : stepsTo ar rs t (p + 1) = stepsTo ar rs t p ++ stepsRow ar rs t p rs.length := by simp [stepsTo, List.range_succ]
theorem redex_step (h : isRedex ar rs t p r = false) : stepL ar rs t p r = none := stepL_nomatch (by unfold isRedex at h; exact h)
theorem step_redex (h : (stepL ar rs t p r).isSome = true) : isRedex ar rs t p r = true := by
 cases hx : isRedex ar rs t p r with
 | true => rfl
 | false => rw [redex_step hx] at h; cases h
theorem one_some (h : (stepL ar rs t p r).isSome = true) : stepOne ar rs t p r = [((p : Int), (r : Int), (stepL ar rs t p r).getD [])] ∧ longOne ar rs t p r = false := by
 obtain ⟨u, hu⟩ := Option.isSome_iff_exists.1 h
 refine ⟨by unfold stepOne; rw [hu]; rfl, by unfold longOne; rw [h]; simp⟩
theorem stepOne_no (h : (stepL ar rs t p r).isSome = false) : stepOne ar rs t p r = [] := by
 unfold stepOne
 cases hx : stepL ar rs t p r with
 | none => rfl
 | some u => rw [hx] at h; cases h
theorem stepOne_len : (stepOne ar rs t p r).length ≤ 1 := by unfold stepOne; split <;> simp
theorem stepsRow_len : ∀ k, (stepsRow ar rs t p k).length ≤ k
 | 0 => by simp [stepsRow]
 | k + 1 => by have := stepsRow_len k; have := stepOne_len (ar := ar) (rs := rs) (t := t) (p := p) (r := k); rw [stepsRow_succ, List.length_append]; omega
theorem stepsTo_len (h : rs.length ≤ 12) : ∀ p, (stepsTo ar rs t p).length ≤ 12 * p
 | 0 => by simp [stepsTo]
 | p + 1 => by have := stepsTo_len h p; have := stepsRow_len (ar := ar) (rs := rs) (t := t) (p := p) rs.length; rw [stepsTo_succ, List.length_append]; omega
end
abbrev FoundV := List Int × Int × StepV × Int
def isIn (all : List FoundV) (t : List Int) : Bool := all.any fun x => decide (x.1 = t)
section
variable {ar t : List Int} {rs : Rules} {n d : Int} {k f : Nat} {all : List FoundV} {ss : List StepV}
abbrev EL (all : List FoundV) (k : Nat) : FoundV := all.getD k ([], 0, (0, 0, []), 0)
def AllOk (ar : List Int) (all : List FoundV) : Prop := ∀ i, i < all.length → termOk ar (EL all i).1 = true
theorem AllOk.snoc {x : FoundV} (h : AllOk ar all) (hx : termOk ar x.1 = true) : AllOk ar (all ++ [x]) := by
 intro i hi
 rw [List.length_append, List.length_singleton] at hi
 rcases Nat.lt_or_ge i all.length with h1 | h1
 ·have := h i h1; unfold EL at *; rwa [List.getD_eq_getElem?_getD, List.getElem?_append_left h1, ← List.getD_eq_getElem?_getD]
 ·obtain rfl : i = all.length := by omega
  unfold EL; simp [List.getD]; exact hx
def DeepOk (n : Int) (all : List FoundV) : Prop := ∀ i, i < all.length → 0 ≤ (EL all i).2.2.2 ∧ (EL all i).2.2.2 ≤ n
theorem DeepOk.snoc {x : FoundV} (h : DeepOk n all) (hx : 0 ≤ x.2.2.2 ∧ x.2.2.2 ≤ n) : DeepOk n (all ++ [x]) := by
 intro i hi
 rw [List.length_append, List.length_singleton] at hi
 rcases Nat.lt_or_ge i all.length with h1 | h1
 ·have := h i h1; unfold EL at *; rwa [List.getD_eq_getElem?_getD, List.getElem?_append_left h1, ← List.getD_eq_getElem?_getD]
 ·obtain rfl : i = all.length := by omega
  unfold EL; simp [List.getD]; exact hx
theorem isIn_some {i : Nat} {u : List Int} (hi : i < all.length) (h : (EL all i).1 = u) : isIn all u = true := by
 unfold isIn
 rw [List.any_eq_true]
 refine ⟨EL all i, ?_, by simpa using h⟩
 unfold EL; simp [List.getD, hi]
end
section
variable {all : List FoundV} {x : FoundV} {i : Nat}
theorem EL_snoc {k : Nat} (hk : k < all.length) : EL (all ++ [x]) k = EL all k := by unfold EL; rw [List.getD_eq_getElem?_getD, List.getElem?_append_left hk, ← List.getD_eq_getElem?_getD]
end
section
variable {ar t : List Int} {rs : Rules} {p r : Int} {k : Nat}
def stepsS (ar : List Int) (rs : Rules) (t : List Int) : List StepV := if rightB ar rs t = true then stepsL ar rs t else []
def redAtL (ar : List Int) (rs : Rules) (t : List Int) (p r : Int) : Bool := stepAtOk ar rs t p r && isRedex ar rs t p.toNat r.toNat
theorem stepsS_yes (h : rightB ar rs t = true) : stepsS ar rs t = stepsL ar rs t := if_pos h
theorem stepsS_no (h : rightB ar rs t = false) : stepsS ar rs t = [] := if_neg (by rw [h]; simp)
theorem mem_steps2 {s : StepV} (h : s ∈ stepsL ar rs t) : ∃ q k : Nat, q < t.length ∧ k < rs.length ∧ s.1 = q ∧ s.2.1 = k ∧ stepL ar rs t q k = some s.2.2 := by
 unfold stepsL stepsTo at h
 obtain ⟨q, hq, h⟩ := List.mem_flatMap.1 h
 unfold stepsRow at h
 obtain ⟨k, hk, h⟩ := List.mem_flatMap.1 h
 refine ⟨q, k, List.mem_range.1 hq, List.mem_range.1 hk, ?_⟩
 unfold stepOne at h
 cases hx : stepL ar rs t q k with
 | none => rw [hx] at h; cases h
 | some u => rw [hx] at h; obtain rfl := List.mem_singleton.1 h; exact ⟨rfl, rfl, rfl⟩
theorem steps_law (hk : k < (stepsS ar rs t).length) : stepAtL ar rs t ((stepsS ar rs t).getD k (0, 0, [])).1 ((stepsS ar rs t).getD k (0, 0, [])).2.1 = some ((stepsS ar rs t).getD k (0, 0, [])).2.2 ∧
  redAtL ar rs t ((stepsS ar rs t).getD k (0, 0, [])).1 ((stepsS ar rs t).getD k (0, 0, [])).2.1 = true := by
 cases hr : rightB ar rs t with
 | false => rw [stepsS_no hr] at hk; simp at hk
 | true =>
  rw [stepsS_yes hr] at hk ⊢
  generalize hs : (stepsL ar rs t).getD k (0, 0, []) = s
  have hm : s ∈ stepsL ar rs t := by rw [← hs]; simp [List.getD, hk]
  obtain ⟨q, j, hq, hj, e1, e2, hu⟩ := mem_steps2 hm
  have hok : stepAtOk ar rs t s.1 s.2.1 = true := by
   unfold stepAtOk
   rw [hr, e1, e2]
   simp; omega
  have hn1 : s.1.toNat = q := by omega
  have hn2 : s.2.1.toNat = j := by omega
  refine ⟨by rw [stepAtL, if_pos hok, hn1, hn2]; exact hu, ?_⟩
  unfold redAtL
  rw [hok, hn1, hn2, step_redex (by rw [hu]; rfl)]
  rfl
end
def Link (all : List FoundV) : Prop := (0 < all.length ∧ (EL all 0).2.1 = -1 ∧ (EL all 0).2.2.2 = 0) ∧ ∀ i, 0 < i → i < all.length → 0 ≤ (EL all i).2.1 ∧ (EL all i).2.1 < (i : Int) ∧ (EL all i).2.2.2 = (EL all (EL all i).2.1.toNat).2.2.2 + 1 ∧ (EL all i).2.2.1.2.2 = (EL all i).1
def Dist (all : List FoundV) : Prop := ∀ i j, i < j → j < all.length → (EL all i).1 ≠ (EL all j).1
section
variable {ar t : List Int} {rs : Rules} {n : Int} {all : List FoundV}
theorem EL_last {x : FoundV} : EL (all ++ [x]) all.length = x := by unfold EL; simp [List.getD]
theorem Link.snoc {k : Nat} {s : StepV} {d : Int} (h : Link all) (hk : k < all.length) (hd : d = (EL all k).2.2.2) : Link (all ++ [(s.2.2, (k : Int), s, d + 1)]) := by
 obtain ⟨⟨h0, h2, h3⟩, h4⟩ := h
 refine ⟨⟨by simp, by rw [EL_snoc h0]; exact h2, by rw [EL_snoc h0]; exact h3⟩, fun i hi hl => ?_⟩
 rw [List.length_append, List.length_singleton] at hl
 rcases Nat.lt_or_ge i all.length with h | h
 ·obtain ⟨a, b, c, d⟩ := h4 i hi h
  rw [EL_snoc h]
  exact ⟨a, b, by rw [EL_snoc (by omega)]; exact c, d⟩
 ·obtain rfl : i = all.length := by omega
  rw [EL_last]
  refine ⟨by dsimp only; omega, by dsimp only; omega, ?_, rfl⟩
  dsimp only
  rw [show ((k : Int)).toNat = k from by omega, EL_snoc hk, hd]
theorem Dist.snoc {x : FoundV} (h : Dist all) (hx : isIn all x.1 = false) : Dist (all ++ [x]) := by
 intro i j hij hj
 rw [List.length_append, List.length_singleton] at hj
 rcases Nat.lt_or_ge j all.length with h1 | h1
 ·rw [EL_snoc h1, EL_snoc (by omega)]; exact h i j hij h1
 ·obtain rfl : j = all.length := by omega
  rw [EL_last, EL_snoc hij]
  intro he
  rw [isIn_some hij he] at hx
  cases hx
end
def WalkB (f : List Int) (ss : List StepV) : Prop := f.length ≤ 60 ∧ ss.length ≤ 60 ∧ (∀ i, i < ss.length → (ss.getD i (0, 0, [])).2.2.length ≤ 60) ∧ (ss.flatMap flatStep).length ≤ 4000
theorem WalkB.nil : WalkB [] [] := ⟨by simp, by simp, fun i hi => by simp at hi, by simp⟩
theorem WalkB.mk {f : List Int} {ss : List StepV} (hf : f.length ≤ 60) (hs : ss.length ≤ 60) (h : ∀ s ∈ ss, s.2.2.length ≤ 60) : WalkB f ss := by
 have h0 : ∀ i, i < ss.length → (ss.getD i (0, 0, [])).2.2.length ≤ 60 := fun i hi => h _ (by simp [List.getD, hi])
 refine ⟨hf, hs, h0, ?_⟩
 have h1 := flatStep_len ss
 have h2 := gTo_bound h0 _ (Nat.le_refl _)
 have h4 : ss.length * 60 ≤ 60 * 60 := Nat.mul_le_mul_right 60 hs
 omega
section
variable {ar t u a b : List Int} {rs : Rules} {n : Int} {all : List FoundV} {k : Nat}
end
section
variable {ar t u : List Int} {rs : Rules} {n : Int} {all : List FoundV} {k : Nat} {ss : List StepV}
abbrev LoopV := List Int × List StepV × Int × RowL × Bool
abbrev noLoop : LoopV := ([], [], 0, [], false)
def LoopB (v : LoopV) : Prop := WalkB v.1 v.2.1 ∧ v.2.2.2.1.length ≤ 24 ∧ (∀ i, (v.2.2.2.1.getD i []).length ≤ 60) ∧ (v.2.2.2.1.flatMap flatRow).length ≤ 4000
theorem LoopB.no : LoopB noLoop := ⟨.nil, by simp, fun i => by simp, by simp⟩
end
section
variable {ar t u a b : List Int} {rs : Rules} {n : Int} {all : List FoundV} {ss xs : List StepV} {s : StepV} {k m : Nat}
def StepIn (ar : List Int) (rs : Rules) (all : List FoundV) : Prop := ∀ i, 0 < i → i < all.length → (EL all i).2.2.1 ∈ stepsL ar rs (EL all (EL all i).2.1.toNat).1
theorem StepIn.snoc {d : Int} (h : StepIn ar rs all) (hl : Link all) (hk : k < all.length) (hs : s ∈ stepsL ar rs (EL all k).1) : StepIn ar rs (all ++ [(s.2.2, (k : Int), s, d)]) := by
 intro i h0 hi
 rw [List.length_append, List.length_singleton] at hi
 rcases Nat.lt_or_ge i all.length with g | g
 ·have := hl.2 i h0 g
  rw [EL_snoc g, EL_snoc (by omega)]
  exact h i h0 g
 ·obtain rfl : i = all.length := by omega
  rw [EL_last]
  dsimp only
  rw [show ((k : Int)).toNat = k from by omega, EL_snoc hk]
  exact hs
end
section
variable {ar : List Int} {rs : Rules} {t f now : List Int} {ss acc : List StepL} {s : RowL} {k : Nat}
end
section
variable {ar f g : List Int} {rs : Rules} {xs ys : List StepV}
end
section
variable {ar t u f : List Int} {rs : Rules} {ss : List StepL} {st n : Int}
end
section
variable {ar t f u v w g A R : List Int} {rs : Rules} {p q r : Nat} {ss xs : List StepL}
theorem endN_of {e : Nat} (h : endGo ar (t.drop p) 1 = some e) : endN ar t p = p + e := by simp [endN, endAt, h]
theorem stepAtL_iff {p r : Int} : stepAtL ar rs t p r = some u ↔ stepAtOk ar rs t p r = true ∧ stepL ar rs t p.toNat r.toNat = some u := by
 unfold stepAtL
 split
 ·rename_i h; exact ⟨fun e => ⟨h, e⟩, fun e => e.2⟩
 ·rename_i h; exact ⟨fun e => (by cases e), fun e => absurd e.1 h⟩
theorem stepAtOk_iff {p r : Int} : stepAtOk ar rs t p r = true ↔ (sysOk ar rs = true ∧ termOk ar t = true) ∧ (0 ≤ p ∧ p < (t.length : Int)) ∧ 0 ≤ r ∧ r < (rs.length : Int) := by
 simp only [stepAtOk, Bool.and_eq_true, decide_eq_true_eq, right_iff, and_assoc]
end
section
variable {ar t f u v w g : List Int} {rs : Rules} {p q r k n : Nat} {ss xs : List StepL} {s b b' : RowL}
abbrev FM (s : RowL) (t : List Int) : List Int := t.flatMap (lk s)
theorem fillGo_of : ∀ (t acc : List Int), (acc ++ FM s t).length ≤ 60 → fillGo s t acc = some (acc ++ FM s t)
 | [], acc, h => by simp [fillGo]
 | n :: t, acc, h => by
  have e : acc ++ FM s (n :: t) = (acc ++ lk s n) ++ FM s t := by simp [FM]
  rw [e] at h ⊢
  rw [fillGo, if_neg (by rw [List.length_append] at h; omega)]
  exact fillGo_of t _ h
theorem fillL_of (h : (FM s t).length ≤ 60) : fillL s t = some (FM s t) := fillGo_of t [] h
end
section
variable {ar t f : List Int} {rs : Rules} {ss xs : List StepL} {k : Nat}
end
theorem stepsS_len2 {ar t : List Int} {rs : Rules} : (stepsS ar rs t).length ≤ 720 := by
 unfold stepsS
 split
 ·rename_i h
  have h1 := right_iff.1 h
  have h2 := stepsTo_len (ar := ar) (t := t) (rs := rs) (sysOk_iff.1 h1.1).2.1 t.length
  have h3 := termOk_len h1.2
  unfold stepsL; omega
 ·simp
section
variable {f : List Int} {ss : List StepL} {s : StepL} {k : Nat}
def smallT (ss : List StepL) : Prop := ∀ i, (ss.getD i (0, 0, [])).2.2.length ≤ 2000
theorem smallT.nil : smallT [] := fun i => by simp
theorem smallT.snoc (h : smallT ss) (hs : s.2.2.length ≤ 2000) : smallT (ss ++ [s]) := fun i => by
 rcases Nat.lt_trichotomy i ss.length with g | g | g
 ·rw [List.getD_eq_getElem?_getD, List.getElem?_append_left g, ← List.getD_eq_getElem?_getD]; exact h i
 ·subst g; simpa [List.getD_eq_getElem?_getD] using hs
 ·rw [List.getD_eq_getElem?_getD, List.getElem?_eq_none (by simp; omega)]; simp
theorem smallT.set (h : smallT ss) (hs : s.2.2.length ≤ 2000) (k : Nat) : smallT (ss.set k s) := fun i => by
 by_cases e : k = i
 ·subst e
  rcases Nat.lt_or_ge k ss.length with g | g
  ·simpa [List.getD_eq_getElem?_getD, g] using hs
  ·rw [List.set_eq_of_length_le g]; exact h k
 ·rw [List.getD_eq_getElem?_getD, List.getElem?_set_ne e, ← List.getD_eq_getElem?_getD]; exact h i
theorem smallT.take (h : smallT ss) (k : Nat) : smallT (ss.take k) := fun i => by
 rcases Nat.lt_or_ge i k with g | g
 ·rw [List.getD_eq_getElem?_getD, List.getElem?_take, if_pos g, ← List.getD_eq_getElem?_getD]; exact h i
 ·rw [List.getD_eq_getElem?_getD, List.getElem?_take, if_neg (by omega)]; simp
theorem smallT.drop (h : smallT ss) (k : Nat) : smallT (ss.drop k) := fun i => by
 rw [List.getD_eq_getElem?_getD, List.getElem?_drop, ← List.getD_eq_getElem?_getD]; exact h _
end
section
variable {ar t p : List Int} {g g' b : RowL}
theorem getD_set_self {b : RowL} {k : Nat} {x : List Int} (h : k < b.length) : (b.set k x).getD k [] = x := by
 rw [List.getD_eq_getElem?_getD, List.getElem?_set_self h]; rfl
theorem getD_set_other {b : RowL} {k j : Nat} {x : List Int} (h : k ≠ j) : (b.set k x).getD j [] = b.getD j [] := by
 rw [List.getD_eq_getElem?_getD, List.getElem?_set_ne h, ← List.getD_eq_getElem?_getD]
theorem mGo_sound (ht : termOk ar t = true) : ∀ (P : List Int) (n i e : Nat) (g g' : RowL), endGo ar P n = some P.length → endGo ar (t.drop i) n = some e → (∀ x ∈ P, -24 ≤ x) → g.length = 24 → mGo ar t P i g = some g' →
  FM g' P = (t.drop i).take e ∧ ∀ k, g.getD k [] ≠ [] → g'.getD k [] = g.getD k []
 | [], n, i, e, g, g', hP, hE, hr, hl, h => by
  simp [mGo] at h; subst h
  cases n with
  | zero => simp [endGo] at hE; subst hE; exact ⟨by simp [FM], fun k _ => rfl⟩
  | succ n => simp [endGo] at hP
 | x :: P, n, i, e, g, g', hP, hE, hr, hl, h => by
  obtain ⟨m, rfl, hx⟩ := Forest.lt (ar := ar) (r := P) (x := x) hP
  have hF := (Forest.cons hx).1 hP
  have hr' : ∀ y ∈ P, -24 ≤ y := fun y hy => hr y (List.mem_cons_of_mem _ hy)
  rw [mGo] at h
  split at h
  ·cases h
  ·rename_i hi
   have hi2 : i < t.length := by omega
   split at h
   ·rename_i h0
    split at h
    ·rename_i he
     rw [endGo_step (show 0 < m + 1 by omega) hi2 (by rw [he]; exact hx), he, show m + 1 - 1 = m from rfl] at hE
     cases hq : endGo ar (t.drop (i + 1)) (m + (arity ar x).toNat) with
     | none => rw [hq] at hE; simp at hE
     | some e1 =>
      rw [hq] at hE; simp at hE; subst hE
      obtain ⟨h1, h2⟩ := mGo_sound ht P _ (i + 1) e1 g g' hF hq hr' hl h
      refine ⟨?_, h2⟩
      rw [drop_get 0 hi2, List.take_succ_cons, he, ← h1, FM, List.flatMap_cons, lk_sym h0]
      rfl
    ·cases h
   ·rename_i h0
    rw [arity_var (by omega), show m + (0 : Int).toNat = m from rfl] at hF
    rw [Nat.add_comm m 1] at hE
    obtain ⟨e1, e2, h1, h2, rfl⟩ := endGo_split hE
    have hN : endN ar t i = i + e1 := endN_of h1
    have hS : sub ar t i = (t.drop i).take e1 := by unfold sub; rw [hN, Nat.add_sub_cancel_left]
    have hSl : (sub ar t i).length = e1 := by rw [sub_length ht hi2, hN, Nat.add_sub_cancel_left]
    have hne := sub_ne ht hi2
    have hv : varIx x < 24 := by have := hr x (by simp); unfold varIx; omega
    rw [List.drop_drop] at h2
    have fin : ∀ (g' : RowL), g'.getD (varIx x) [] = sub ar t i → FM g' P = (t.drop (i + e1)).take e2 → FM g' (x :: P) = (t.drop i).take (e1 + e2) := by
     intro g' h3 h4
     rw [FM, List.flatMap_cons, lk_some (by omega) (by rw [h3]; exact hne), h3, hS, List.take_add, List.drop_drop, ← h4]
    split at h
    ·rename_i he
     rw [hSl] at h
     obtain ⟨h3, h4⟩ := mGo_sound ht P m (i + e1) e2 _ g' hF h2 hr' (by rw [List.length_set]; exact hl) h
     refine ⟨fin g' ?_ h3, fun k hk => ?_⟩
     ·have := h4 (varIx x) (by rw [getD_set_self (by omega)]; exact hne)
      rw [this, getD_set_self (by omega)]
     ·have hkx : varIx x ≠ k := fun e => hk (e ▸ he)
      have := h4 k (by rw [getD_set_other hkx]; exact hk)
      rw [this, getD_set_other hkx]
    ·rename_i he
     split at h
     ·rename_i hq
      rw [hSl] at h
      obtain ⟨h3, h4⟩ := mGo_sound ht P m (i + e1) e2 g g' hF h2 hr' hl h
      exact ⟨fin g' (by rw [h4 _ he, hq]) h3, h4⟩
     ·cases h
theorem match_fm (hp : termOk ar p = true) (ht : termOk ar t = true) (h : matchB ar p t = some b) : FM b p = t := by
 have hT := termOk_iff.1 ht
 have hP := termOk_iff.1 hp
 have := (mGo_sound ht p 1 0 t.length _ b hP.whole (by rw [List.drop_zero]; exact hT.whole) hP.ge (by simp) h).1
 rwa [List.drop_zero, List.take_length] at this
end
section
variable {ar t f : List Int} {rs : Rules} {n : Int} {all : List FoundV} {ss ys : List StepV} {p many : Int} {s : RowL}
def againOk (ar : List Int) (rs : Rules) (f : List Int) (ss : List StepV) (p : Int) (s : RowL) (many : Int) : Prop := (sysOk ar rs && loopOkL ar rs f ss p s) = true ∧ 1 ≤ many ∧ many ≤ 60 ∧ many * (ss.length : Int) ≤ 60
instance : Decidable (againOk ar rs f ss p s many) := by unfold againOk; infer_instance
section
variable {m : Nat}
end
end
def argsGo (ar t : List Int) : Nat → Nat → List Int
 | 0, _ => []
 | n + 1, q => (q : Int) :: argsGo ar t n (endN ar t q)
def argsL (ar t : List Int) (p : Nat) : List Int := argsGo ar t (arity ar (t.getD p 0)).toNat (p + 1)
def Stand (ar t : List Int) (n q e : Nat) : Prop := endGo ar (t.drop q) n = some (e - q) ∧ q ≤ e ∧ e ≤ t.length
theorem stand_start {ar t : List Int} (h : termOk ar t = true) {p : Nat} (hp : p < t.length) : Stand ar t (arity ar (t.getD p 0)).toNat (p + 1) (endN ar t p) := by
 have he := endN_spec h hp
 obtain ⟨e, h1, h2, h3⟩ := endAt_some h hp
 have hN : endN ar t p = e := by simp [endN, h1]
 unfold endAt at h1
 rw [endGo_step (by omega) hp (termOk_lt h hp)] at h1
 rw [Nat.sub_self, Nat.zero_add] at h1
 refine ⟨?_, by omega, by omega⟩
 cases hg : endGo ar (t.drop (p + 1)) (arity ar (t.getD p 0)).toNat with
 | none => rw [hg] at h1; cases h1
 | some q => rw [hg] at h1; simp only [Option.map_some, Option.some.injEq] at h1; rw [Option.some.injEq]; omega
theorem stand_step {ar t : List Int} (h : termOk ar t = true) {n q e : Nat} (hs : Stand ar t (n + 1) q e) : q < t.length ∧ Stand ar t n (endN ar t q) e ∧ q < endN ar t q ∧ endN ar t q ≤ e := by
 obtain ⟨h1, h2, h3⟩ := hs
 have hpos := endGo_pos h1
 have hq : q < t.length := by omega
 have h1' := h1
 rw [Nat.add_comm] at h1
 obtain ⟨e1, e2, g1, g2, g3⟩ := endGo_split h1
 have hN : endN ar t q = q + e1 := by simp [endN, endAt, g1]
 have hE := endN_spec h hq
 rw [List.drop_drop] at g2
 refine ⟨hq, ⟨?_, by omega, h3⟩, by omega, by omega⟩
 rw [hN, g2]; congr 1; omega
theorem argsGo_len (ar t : List Int) : ∀ n q, (argsGo ar t n q).length = n
 | 0, _ => rfl
 | n + 1, q => by simp [argsGo, argsGo_len ar t n]
theorem argsGo_in {ar t : List Int} (h : termOk ar t = true) : ∀ {n q e : Nat}, Stand ar t n q e → ∀ k, k < n → (q : Int) ≤ (argsGo ar t n q).getD k 0 ∧ (argsGo ar t n q).getD k 0 < (e : Int)
 | 0, _, _, _, k, hk => absurd hk (by omega)
 | n + 1, q, e, hs, k, hk => by
  obtain ⟨h1, h2, h3, h4⟩ := stand_step h hs
  cases k with
  | zero => simp only [argsGo, List.getD_cons_zero]; omega
  | succ k =>
   have := argsGo_in h h2 k (by omega)
   simp only [argsGo, List.getD_cons_succ]; omega
theorem argsL_len {ar t : List Int} {p : Nat} : (argsL ar t p).length = (arity ar (t.getD p 0)).toNat := argsGo_len ..
theorem argsL_in {ar t : List Int} (h : termOk ar t = true) {p : Nat} (hp : p < t.length) {k : Nat} (hk : k < (argsL ar t p).length) : (p : Int) < (argsL ar t p).getD k 0 ∧ (argsL ar t p).getD k 0 < (endN ar t p : Int) ∧ (argsL ar t p).getD k 0 < (t.length : Int) := by
 rw [argsL_len] at hk
 have h1 := stand_start h hp
 have := argsGo_in h h1 k hk
 have := endN_spec h hp
 unfold argsL; omega
def nm (t : List Int) : List Int := t.map fun x => if x < 0 then -1 else x
section
variable {ar t : List Int} {p n q e : Nat}
theorem nm_len : (nm t).length = t.length := by simp [nm]
theorem nm_drop : (nm t).drop p = nm (t.drop p) := by simp [nm, List.map_drop]
theorem nm_take : (nm t).take p = nm (t.take p) := by simp [nm, List.map_take]
theorem nm_get (hp : p < t.length) : (nm t).getD p 0 = if t.getD p 0 < 0 then -1 else t.getD p 0 := by simp [nm, List.getD, hp]
theorem arity_nm {x : Int} : arity ar (if x < 0 then -1 else x) = arity ar x := by
 by_cases hx : x < 0
 ·rw [if_pos hx]; unfold arity; rw [if_pos (by omega), if_pos hx]
 ·rw [if_neg hx]
theorem endGo_nm : ∀ (r : List Int) (n : Nat), endGo ar (nm r) n = endGo ar r n
 | r, 0 => by simp [endGo]
 | [], n + 1 => rfl
 | x :: r, n + 1 => by
  show endGo ar ((if x < 0 then -1 else x) :: nm r) (n + 1) = _
  simp only [endGo, arity_nm, endGo_nm r]
  by_cases hx : x < 0
  ·rw [if_pos hx, if_pos (by omega), if_pos (by omega)]
  ·rw [if_neg hx]
theorem endAt_nm : endAt ar (nm t) p = endAt ar t p := by unfold endAt; rw [nm_drop, endGo_nm]
theorem endN_nm : endN ar (nm t) p = endN ar t p := by unfold endN; rw [endAt_nm]
theorem sub_nm : sub ar (nm t) p = nm (sub ar t p) := by unfold sub; rw [nm_drop, endN_nm, nm_take]
structure TermW (ar t : List Int) : Prop where
 sig : sigOk ar = true
 len : 1 ≤ t.length ∧ t.length ≤ 60
 whole : endGo ar t 1 = some t.length
 ge : ∀ x ∈ t, -48 ≤ x
theorem TermW.nm (h : TermW ar t) : termOk ar (nm t) = true := termOk_iff.2 (by
 have := h.len
 refine ⟨h.sig, by rw [nm_len]; omega, by rw [nm_len]; omega, ?_, by rw [endGo_nm, nm_len]; exact h.whole⟩
 intro x hx
 obtain ⟨y, _, rfl⟩ := List.mem_map.1 hx
 split <;> omega)
theorem termW_of (h : termOk ar t = true) : TermW ar t := by
 have h1 := termOk_iff.1 h
 exact ⟨h1.sig, ⟨h1.pos, h1.len⟩, h1.whole, fun x hx => by have := h1.ge x hx; omega⟩
theorem mem_sub {x : Int} (h : x ∈ sub ar t p) : x ∈ t := List.mem_of_mem_drop (List.mem_of_mem_take h)
theorem TermW.sub (h : TermW ar t) (hp : p < t.length) : TermW ar (sub ar t p) := by
 have := termOk_iff.1 (sub_ok h.nm (p := p) (by rw [nm_len]; exact hp))
 rw [sub_nm] at this
 have h1 := this.pos
 have h2 := this.len
 have h3 := this.whole
 rw [nm_len] at h1 h2 h3
 rw [endGo_nm] at h3
 exact ⟨h.sig, ⟨h1, h2⟩, h3, fun x hx => h.ge x (mem_sub hx)⟩
theorem Stand_nm : Stand ar (nm t) n q e ↔ Stand ar t n q e := by unfold Stand; rw [nm_drop, endGo_nm, nm_len]
theorem arityD_nm : arity ar ((nm t).getD p 0) = arity ar (t.getD p 0) := by
 by_cases hp : p < t.length
 ·rw [nm_get hp, arity_nm]
 ·simp [List.getD, nm, List.getElem?_eq_none (Nat.le_of_not_lt hp)]
theorem argsGo_nm : ∀ n q, argsGo ar (nm t) n q = argsGo ar t n q
 | 0, _ => rfl
 | n + 1, q => by rw [argsGo, argsGo, endN_nm, argsGo_nm]
theorem argsL_nm : argsL ar (nm t) p = argsL ar t p := by unfold argsL; rw [arityD_nm, argsGo_nm]
theorem TermW.stand0 (h : TermW ar t) (hp : p < t.length) : Stand ar t (arity ar (t.getD p 0)).toNat (p + 1) (M.endN ar t p) := by
 have := stand_start h.nm (p := p) (by rw [nm_len]; exact hp)
 rwa [Stand_nm, arityD_nm, endN_nm] at this
theorem TermW.stand (h : TermW ar t) (hs : Stand ar t (n + 1) q e) : q < t.length ∧ Stand ar t n (M.endN ar t q) e ∧ q < M.endN ar t q ∧ M.endN ar t q ≤ e := by
 have := stand_step h.nm (Stand_nm.2 hs)
 rwa [Stand_nm, nm_len, endN_nm] at this
theorem TermW.args_in (h : TermW ar t) (hp : p < t.length) {k : Nat} (hk : k < (argsL ar t p).length) : (p : Int) < (argsL ar t p).getD k 0 ∧ (argsL ar t p).getD k 0 < (M.endN ar t p : Int) := by
 have := argsL_in h.nm (p := p) (by rw [nm_len]; exact hp) (k := k) (by rw [argsL_nm]; exact hk)
 rw [argsL_nm, endN_nm] at this
 exact ⟨this.1, this.2.1⟩
theorem TermW.end0 (h : TermW ar t) : M.endN ar t 0 = t.length := by
 unfold M.endN endAt
 rw [List.drop_zero, h.whole]; simp
theorem TermW.ne (h : TermW ar t) : t ≠ [] := fun e => by have := h.len.1; rw [e] at this; simp at this
def WF (ar r : List Int) (n : Nat) : Prop := endGo ar r n = some r.length
theorem WF_nil : WF ar [] 0 := rfl
theorem WF_cons {x : Int} {r : List Int} : WF ar (x :: r) (n + 1) ↔ x < ar.length ∧ WF ar r (n + (arity ar x).toNat) := by
 unfold WF
 simp only [endGo, List.length_cons]
 by_cases hx : x < ar.length
 ·rw [if_pos hx]
  cases hr : endGo ar r (n + (arity ar x).toNat) with
  | none => simp
  | some k => simp [hx]
 ·rw [if_neg hx]; simp [hx]
theorem WF_app {a b : List Int} {m : Nat} (h : WF ar a n) (k : WF ar b m) : WF ar (a ++ b) (n + m) := by
 have := endGo_join (endGo_more (b := b) h) (m := m) (e2 := b.length) (by rw [List.drop_left]; exact k)
 unfold WF
 rw [List.length_append]; exact this
theorem WF.zero {r : List Int} (h : WF ar r 0) : r = [] := by
 unfold WF at h
 simp only [endGo, Option.some.injEq] at h
 exact List.eq_nil_of_length_eq_zero h.symm
theorem WF.pos {r : List Int} (h : WF ar r (n + 1)) : r ≠ [] := fun e => by subst e; simp [WF, endGo] at h
theorem TermW.wf (h : TermW ar t) : WF ar t 1 := h.whole
theorem WF.var {x : Int} (hx : x < 0) : WF ar [x] 1 := WF_cons.2 ⟨by omega, by rw [show arity ar x = 0 from by unfold arity; rw [if_pos hx]]; exact WF_nil⟩
theorem WF.one {x : Int} {r : List Int} (h : WF ar (x :: r) 1) (hx : x < 0) : r = [] := by
 have := (WF_cons.1 h).2
 rw [show arity ar x = 0 from by unfold arity; rw [if_pos hx]] at this
 exact this.zero
theorem TermW.isvar (h : TermW ar t) (hx : t.getD 0 0 < 0) : t = [t.getD 0 0] := by
 cases t with
 | nil => exact absurd rfl h.ne
 | cons x r => simp only [List.getD_cons_zero] at hx ⊢; rw [h.wf.one hx]
end
abbrev Sbs := Int → List Int
def ap (θ : Sbs) (t : List Int) : List Int := t.flatMap θ
structure GoodS (ar : List Int) (θ : Sbs) : Prop where
 sym : ∀ n, 0 ≤ n → θ n = [n]
 var : ∀ n, n < 0 → WF ar (θ n) 1
section
variable {ar t s r : List Int} {θ σ : Sbs} {n : Nat} {x : Int}
@[simp] theorem ap_nil : ap θ [] = [] := rfl
theorem ap_cons : ap θ (x :: t) = θ x ++ ap θ t := by simp [ap]
theorem ap_app : ap θ (t ++ s) = ap θ t ++ ap θ s := by simp [ap]
theorem ap_one : ap θ [x] = θ x := by simp [ap]
theorem ap_ap : ap θ (ap σ t) = ap (fun n => ap θ (σ n)) t := by
 induction t with
 | nil => rfl
 | cons x t ih => rw [ap_cons, ap_app, ih, ap_cons]
theorem ap_congr (h : ∀ x ∈ t, θ x = σ x) : ap θ t = ap σ t := by
 induction t with
 | nil => rfl
 | cons x t ih => rw [ap_cons, ap_cons, h x (by simp), ih (fun y hy => h y (by simp [hy]))]
theorem GoodS.pos (h : GoodS ar θ) : 1 ≤ (θ x).length := by
 rcases Int.lt_or_le x 0 with hx | hx
 ·have := (h.var x hx).pos
  cases hl : θ x with
  | nil => exact absurd hl this
  | cons => simp
 ·rw [h.sym x hx]; simp
theorem GoodS.len (h : GoodS ar θ) : t.length ≤ (ap θ t).length := by
 induction t with
 | nil => simp
 | cons x t ih => rw [ap_cons, List.length_append, List.length_cons]; have := h.pos (x := x); omega
theorem GoodS.len_mem (h : GoodS ar θ) (hx : x ∈ t) : (θ x).length + t.length ≤ (ap θ t).length + 1 := by
 induction t with
 | nil => cases hx
 | cons y t ih =>
  rw [ap_cons, List.length_append, List.length_cons]
  rcases List.mem_cons.1 hx with rfl | hx
  ·have := h.len (t := t); omega
  ·have := ih hx; have := h.pos (x := y); omega
theorem ap_wf (h : GoodS ar θ) : ∀ {r : List Int} {n : Nat}, WF ar r n → WF ar (ap θ r) n
 | [], 0, _ => WF_nil
 | [], n + 1, k => absurd rfl k.pos
 | x :: r, 0, k => by have := k.zero; cases this
 | x :: r, n + 1, k => by
  obtain ⟨h1, h2⟩ := WF_cons.1 k
  rw [ap_cons]
  rcases Int.lt_or_le x 0 with hx | hx
  ·rw [show arity ar x = 0 from by unfold arity; rw [if_pos hx]] at h2
   rw [Nat.add_comm]
   exact WF_app (h.var x hx) (ap_wf h h2)
  ·rw [h.sym x hx]
   exact WF_cons.2 ⟨h1, ap_wf h h2⟩
def partsL (ar t : List Int) : RowL := (argsL ar t 0).map fun q => sub ar t q.toNat
theorem parts_go (h : TermW ar t) : ∀ {n q e : Nat}, Stand ar t n q e → ((argsGo ar t n q).map fun q => sub ar t q.toNat).flatten = (t.drop q).take (e - q)
 | 0, q, e, hs => by
  have := hs.1
  simp only [endGo, Option.some.injEq] at this
  have := hs.2
  simp [argsGo, show e - q = 0 by omega]
 | n + 1, q, e, hs => by
  obtain ⟨h1, h2, h3, h4⟩ := h.stand hs
  rw [argsGo, List.map_cons, List.flatten_cons, parts_go h h2, Int.toNat_natCast]
  unfold sub
  rw [show e - q = (M.endN ar t q - q) + (e - M.endN ar t q) from by omega, List.take_add, List.drop_drop, show q + (M.endN ar t q - q) = M.endN ar t q from by omega]
theorem parts_flat (h : TermW ar t) : t = t.getD 0 0 :: (partsL ar t).flatten := by
 have hl := h.len
 unfold partsL argsL
 rw [parts_go h (h.stand0 (p := 0) (by omega)), h.end0, List.take_of_length_le (by rw [List.length_drop]; omega)]
 cases t with
 | nil => exact absurd rfl h.ne
 | cons x r => simp
theorem parts_wf (h : TermW ar t) : ∀ s ∈ partsL ar t, TermW ar s := by
 intro s hs
 unfold partsL at hs
 obtain ⟨q, hq, rfl⟩ := List.mem_map.1 hs
 obtain ⟨k, hk, rfl⟩ := List.getElem_of_mem hq
 have hl := h.len
 have := h.args_in (p := 0) (by omega) hk
 rw [h.end0] at this
 have e : (argsL ar t 0)[k] = (argsL ar t 0).getD k 0 := by simp [List.getD, hk]
 rw [e]
 exact h.sub (by omega)
theorem parts_len : (partsL ar t).length = (arity ar (t.getD 0 0)).toNat := by unfold partsL; rw [List.length_map, argsL_len]
end
def SatB (b : RowL) (θ : Sbs) : Prop := ∀ n, n < 0 → lkN b n ≠ [] → θ n = ap θ (lkN b n)
def Sol (b : RowL) (σ : Sbs) : Prop := ∀ n, σ n = if lkN b n = [] then [n] else ap σ (lkN b n)
def Acyc (b : RowL) (ρ : Int → Nat) : Prop := ∀ n, n < 0 → ∀ m ∈ lkN b n, m < 0 → ρ m < ρ n
structure BOk (ar : List Int) (b : RowL) : Prop where
 len : b.length = 48
 wt : ∀ n, n < 0 → lkN b n ≠ [] → TermW ar (lkN b n)
 acyc : ∃ ρ, Acyc b ρ
section
variable {ar t s : List Int} {b : RowL} {θ σ : Sbs} {ρ : Int → Nat} {x n : Int}
theorem Sol.sym (h : Sol b σ) (hn : 0 ≤ n) : σ n = [n] := by rw [h n, if_pos (lkN_pos hn)]
theorem Sol.free (h : Sol b σ) (hn : lkN b n = []) : σ n = [n] := by rw [h n, if_pos hn]
theorem Sol.bound (h : Sol b σ) (hn : lkN b n ≠ []) : σ n = ap σ (lkN b n) := by rw [h n, if_neg hn]
theorem Sol.sat (h : Sol b σ) : SatB b σ := fun n _ hn => h.bound hn
theorem Sol.good (hb : BOk ar b) (h : Sol b σ) : GoodS ar σ := by
 obtain ⟨ρ, ha⟩ := hb.acyc
 refine ⟨fun n hn => h.sym hn, ?_⟩
 have key : ∀ (r : Nat) (n : Int), n < 0 → ρ n = r → WF ar (σ n) 1 := by
  intro r
  induction r using Nat.strongRecOn with
  | _ r ih =>
   intro n hn hr
   by_cases hl : lkN b n = []
   ·rw [h.free hl]; exact WF.var hn
   ·rw [h.bound hl]
    have g : GoodS ar (fun m => if m ∈ lkN b n then σ m else [m]) := by
     refine ⟨fun m hm => ?_, fun m hm => ?_⟩
     ·split
      ·exact h.sym hm
      ·rfl
     ·split
      ·rename_i hmem
       exact ih (ρ m) (by have := ha n hn m hmem hm; omega) m hm rfl
      ·exact WF.var hm
    rw [ap_congr (σ := fun m => if m ∈ lkN b n then σ m else [m]) (fun m hm => by simp [hm])]
    exact ap_wf g (hb.wt n hn hl).wf
 exact fun n hn => key _ n hn rfl
theorem Sol.most (ha : Acyc b ρ) (h : Sol b σ) (hs : ∀ n, 0 ≤ n → θ n = [n]) (hθ : SatB b θ) : ∀ n, ap θ (σ n) = θ n := by
 have key : ∀ (r : Nat) (n : Int), n < 0 → ρ n = r → ap θ (σ n) = θ n := by
  intro r
  induction r using Nat.strongRecOn with
  | _ r ih =>
   intro n hn hr
   by_cases hl : lkN b n = []
   ·rw [h.free hl, ap_one]
   ·rw [h.bound hl, ap_ap, hθ n hn hl]
    refine ap_congr fun m hm => ?_
    rcases Int.lt_or_le m 0 with h0 | h0
    ·exact ih (ρ m) (by have := ha n hn m hm h0; omega) m h0 rfl
    ·rw [h.sym h0, ap_one]
 intro n
 rcases Int.lt_or_le n 0 with h0 | h0
 ·exact key _ n h0 rfl
 ·rw [h.sym h0, ap_one]
theorem Sol.most_t (hb : BOk ar b) (h : Sol b σ) (g : GoodS ar θ) (hθ : SatB b θ) : ap θ (ap σ t) = ap θ t := by
 obtain ⟨ρ, ha⟩ := hb.acyc
 rw [ap_ap]
 exact ap_congr fun m _ => h.most ha g.sym hθ m
theorem lkN_nils : lkN (List.replicate 48 []) n = [] := by
 unfold lkN
 split
 ·rfl
 ·simp only [List.getD, List.getElem?_replicate]
  split <;> rfl
theorem BOk.nils : BOk ar (List.replicate 48 []) := ⟨by simp, fun n _ h => absurd lkN_nils h, ⟨fun _ => 0, fun n _ m hm => by rw [lkN_nils] at hm; cases hm⟩⟩
theorem SatB.nils : SatB (List.replicate 48 []) θ := fun n _ h => absurd lkN_nils h
theorem varIx_inj {x y : Int} (hx : x < 0) (hy : y < 0) (h : varIx x = varIx y) : x = y := by unfold varIx at h; omega
inductive RootOf (b : RowL) : List Int → List Int → Prop
 | here {t : List Int} (h : 0 ≤ t.getD 0 0 ∨ lkN b (t.getD 0 0) = []) : RootOf b t t
 | step {t u : List Int} (h0 : t.getD 0 0 < 0) (hl : lkN b (t.getD 0 0) ≠ []) (h : RootOf b (lkN b (t.getD 0 0)) u) : RootOf b t u
end
section
variable {ar t a c u w x y A C : List Int} {b b1 b2 : RowL} {θ σ : Sbs} {ρ : Int → Nat} {n m : Int} {k j N : Nat} {sn s1 s2 : List Bool} {E E1 E2 : Sbs → Prop}
def ClearM (σ : Sbs) (ρ : Int → Nat) (n : Int) (k : Nat) (sn : List Bool) : Prop := ∀ m : Int, m < 0 → sn.getD (varIx m) false = true → ρ m < k → n ∉ σ m
def MarkR (σ : Sbs) (n : Int) (sn s1 : List Bool) : Prop := ∀ m : Int, m < 0 → s1.getD (varIx m) false = true → sn.getD (varIx m) false = true ∨ n ∉ σ m
theorem MarkR.refl : MarkR σ n sn sn := fun _ _ h => .inl h
theorem set_mark (hl : s1.length = 48) (hm : m < 0) (hg : -48 ≤ m) (hy : n < 0) : (s1.set (varIx m) true).getD (varIx n) false = true ↔ n = m ∨ s1.getD (varIx n) false = true := by
 by_cases e : n = m
 ·subst e
  simp only [List.getD, List.getElem?_set_self (show varIx n < s1.length by rw [hl]; unfold varIx; omega), Option.getD_some, true_or]
 ·have : varIx m ≠ varIx n := fun h => e (varIx_inj hy hm h.symm)
  simp only [List.getD, List.getElem?_set_ne this, e, false_or]
theorem MarkR.step (h : MarkR σ n sn s1) (hl : s1.length = 48) (hm : m < 0) (hg : -48 ≤ m) (h2 : MarkR σ n (s1.set (varIx m) true) s2) (hno : n ∉ σ m) : MarkR σ n sn s2 := by
 intro y hy hs
 rcases h2 y hy hs with h3 | h3
 ·rcases (set_mark hl hm hg hy).1 h3 with rfl | h4
  ·exact .inr hno
  ·exact h y hy h4
 ·exact .inr h3
theorem MarkR.set (h : MarkR σ n sn s1) (hl : s1.length = 48) (hm : m < 0) (hg : -48 ≤ m) (hno : n ∉ σ m) : MarkR σ n sn (s1.set (varIx m) true) := h.step hl hm hg .refl hno
theorem ClearM.nils : ClearM σ ρ n k (List.replicate N false) := by
 intro m hm h
 simp only [List.getD, List.getElem?_replicate] at h
 split at h <;> simp at h
theorem lkN_get (hm : m < 0) : lkN b m = b.getD (varIx m) [] := lkN_neg hm
structure Root (ar : List Int) (b : RowL) (t u : List Int) : Prop where
 w : TermW ar u
 top : 0 ≤ u.getD 0 0 ∨ lkN b (u.getD 0 0) = []
 same : ∀ θ : Sbs, SatB b θ → ap θ t = ap θ u
def RootTo (ar : List Int) (b : RowL) (t u : List Int) : Prop := TermW ar u ∧ ∀ θ : Sbs, SatB b θ → ap θ t = ap θ u
theorem RootTo.refl (h : TermW ar t) : RootTo ar b t t := ⟨h, fun _ _ => rfl⟩
theorem RootTo.next (hb : BOk ar b) (h : RootTo ar b t u) (h0 : u.getD 0 0 < 0) (hl : b.getD (varIx (u.getD 0 0)) [] ≠ []) : RootTo ar b t (b.getD (varIx (u.getD 0 0)) []) := by
 rw [← lkN_get h0] at hl ⊢
 refine ⟨hb.wt _ h0 hl, fun θ hθ => ?_⟩
 rw [h.2 θ hθ, h.1.isvar h0, ap_one, hθ _ h0 hl]
 rw [show [u.getD 0 0].getD 0 0 = u.getD 0 0 from rfl]
def unb (b : RowL) : Nat := b.countP fun x => decide (x = [])
structure Solves (ar : List Int) (b b1 : RowL) (E : Sbs → Prop) : Prop where
 ok : BOk ar b1
 iff : ∀ θ, GoodS ar θ → (SatB b1 θ ↔ SatB b θ ∧ E θ)
 less : unb b1 < unb b ∨ b1 = b
theorem Solves.refl (hb : BOk ar b) (h : ∀ θ, GoodS ar θ → SatB b θ → E θ) : Solves ar b b E := ⟨hb, fun θ g => ⟨fun hs => ⟨hs, h θ g hs⟩, fun hs => hs.1⟩, .inr rfl⟩
theorem Solves.trans (h1 : Solves ar b b1 E1) (h2 : Solves ar b1 b2 E2) : Solves ar b b2 (fun θ => E1 θ ∧ E2 θ) := by
 refine ⟨h2.ok, fun θ g => ?_, ?_⟩
 ·rw [h2.iff θ g, h1.iff θ g, and_assoc]
 ·rcases h1.less with e1 | e1 <;> rcases h2.less with e2 | e2
  ·left; omega
  ·left; rw [e2]; exact e1
  ·left; rw [e1] at e2; exact e2
  ·right; rw [e2, e1]
theorem Solves.congr (h : Solves ar b b1 E) (hc : ∀ θ, GoodS ar θ → SatB b θ → (E θ ↔ E1 θ)) : Solves ar b b1 E1 := by
 refine ⟨h.ok, fun θ g => ?_, h.less⟩
 rw [h.iff θ g]
 exact ⟨fun ⟨p, q⟩ => ⟨p, (hc θ g p).1 q⟩, fun ⟨p, q⟩ => ⟨p, (hc θ g p).2 q⟩⟩
theorem same_eq (hb : BOk ar b) (hx : Root ar b A x) (hy : Root ar b C y) (hn : x.getD 0 0 < 0) (he : x.getD 0 0 = y.getD 0 0) : Solves ar b b (fun θ => ap θ A = ap θ C) := by
 refine Solves.refl hb fun θ g hs => ?_
 rw [hx.same θ hs, hy.same θ hs, hx.w.isvar hn, hy.w.isvar (by omega), he]
def EqTo (ar x y : List Int) (j : Nat) (θ : Sbs) : Prop := ∀ i, i < j → ap θ ((partsL ar x).getD i []) = ap θ ((partsL ar y).getD i [])
theorem EqTo.next (h : Solves ar b b1 (EqTo ar x y j)) (h2 : Solves ar b1 b2 (fun θ => ap θ ((partsL ar x).getD j []) = ap θ ((partsL ar y).getD j []))) : Solves ar b b2 (EqTo ar x y (j + 1)) :=
 (h.trans h2).congr fun θ _ _ => ⟨fun ⟨p, q⟩ i hi => (Nat.lt_or_ge i j).elim (fun h => p i h) (fun h => by obtain rfl : i = j := (by omega); exact q), fun h => ⟨fun i hi => h i (by omega), h j (by omega)⟩⟩
end
section
variable {ar t os : List Int} {b : RowL} {σ : Sbs} {ρ : Int → Nat} {m : Int} {j : Nat}
end
def awayL (t : List Int) : List Int := t.map fun n => if n < 0 then n - 24 else n
structure Mgu (ar A C : List Int) (b : RowL) : Prop where
 ok : BOk ar b
 iff : ∀ θ, GoodS ar θ → (SatB b θ ↔ ap θ A = ap θ C)
theorem Mgu.of {ar A C : List Int} {b : RowL} (h : Solves ar (List.replicate 48 []) b (fun θ => ap θ A = ap θ C)) : Mgu ar A C b :=
 ⟨h.ok, fun θ g => by rw [h.iff θ g]; exact ⟨fun x => x.2, fun x => ⟨SatB.nils, x⟩⟩⟩
section
variable {ar A C t s : List Int} {b1 b2 : RowL} {σ1 σ2 : Sbs} {n m : Int}
theorem Mgu.into (h1 : Mgu ar A C b1) (s1 : Sol b1 σ1) (h2 : Mgu ar A C b2) (s2 : Sol b2 σ2) : ap σ2 (ap σ1 t) = ap σ2 t := by
 have g2 := s2.good h2.ok
 exact s1.most_t h1.ok g2 ((h1.iff σ2 g2).2 ((h2.iff σ2 g2).1 s2.sat))
def hd1 (σ : Sbs) (n : Int) : Int := (σ n).getD 0 0
theorem Mgu.one (h1 : Mgu ar A C b1) (s1 : Sol b1 σ1) (h2 : Mgu ar A C b2) (s2 : Sol b2 σ2) (hn : n ∈ ap σ1 t) : σ2 n = [hd1 σ2 n] := by
 have g1 := s1.good h1.ok
 have g2 := s2.good h2.ok
 have e1 : (ap σ2 (ap σ1 t)).length = (ap σ2 t).length := congrArg _ (h1.into s1 h2 s2)
 have e2 : (ap σ1 (ap σ2 t)).length = (ap σ1 t).length := congrArg _ (h2.into s2 h1 s1)
 have l1 := g1.len (t := ap σ2 t)
 have l2 := g2.len_mem hn
 have l3 := g2.pos (x := n)
 have h : (σ2 n).length = 1 := by omega
 unfold hd1
 match hs : σ2 n, h with
 | [y], _ => rfl
theorem ap_map (h : ∀ n ∈ t, σ1 n = [hd1 σ1 n]) : ap σ1 t = t.map (hd1 σ1) := by
 induction t with
 | nil => rfl
 | cons x t ih => rw [ap_cons, h x (by simp), ih (fun n hn => h n (by simp [hn]))]; rfl
theorem Mgu.map (h1 : Mgu ar A C b1) (s1 : Sol b1 σ1) (h2 : Mgu ar A C b2) (s2 : Sol b2 σ2) : ap σ2 t = (ap σ1 t).map (hd1 σ2) := by
 rw [← h1.into s1 h2 s2, ap_map fun n hn => h1.one s1 h2 s2 hn]
end
def orderGo : List Int → List Int → List Int
 | s, [] => s
 | s, n :: t => orderGo (if n < 0 ∧ n ∉ s then s ++ [n] else s) t
def orderL (t : List Int) : List Int := orderGo [] t
def byL (o t : List Int) : List Int := t.map fun n => if n < 0 ∧ n ∈ o then -1 - indexZ o n else n
section
variable {o s t : List Int} {f g : Int → Int} {n : Int} {k : Nat}
end
abbrev PkT := List Int × List Int × List Int × Int × Int × Int
def P0 : PkT := ([], [], [], 0, 0, 0)
abbrev RulesT := List (List Int × List Int)
abbrev Lr (rs : RulesT) (o : Nat) : List Int := (rs.getD o ([], [])).1
abbrev Rr (rs : RulesT) (o : Nat) : List Int := (rs.getD o ([], [])).2
def leftT (ar : List Int) (rs : RulesT) (o p u : Nat) : List Int := (Lr rs o).take p ++ awayL (Rr rs u) ++ (Lr rs o).drop (endN ar (Lr rs o) p)
open Classical in
noncomputable def meetB (ar : List Int) (rs : RulesT) (o p u : Nat) : Bool := decide (¬ (o = u ∧ p = 0) ∧ ∃ θ, GoodS ar θ ∧ ap θ (sub ar (Lr rs o) p) = ap θ (awayL (Lr rs u)))
def peakOf (ar : List Int) (rs : RulesT) (o p u : Nat) (σ : Sbs) : Option PkT :=
 let top := ap σ (Lr rs o); let left := ap σ (leftT ar rs o p u); let right := ap σ (Rr rs o); let od := orderL top
 if top.length ≤ 60 ∧ left.length ≤ 60 ∧ right.length ≤ 60 ∧ od.length ≤ 24 then some (byL od top, byL od left, byL od right, (p : Int), (u : Int), (o : Int)) else none
abbrev MguP (ar : List Int) (rs : RulesT) (o p u : Nat) (b : RowL) : Prop := Mgu ar (sub ar (Lr rs o) p) (awayL (Lr rs u)) b
open Classical in
noncomputable def peakF (ar : List Int) (rs : RulesT) (o p u : Nat) : Option PkT :=
 if h : ∃ σ b, MguP ar rs o p u b ∧ Sol b σ then peakOf ar rs o p u (Classical.choose h) else none
section
variable {ar : List Int} {rs : RulesT} {o p u : Nat} {b b1 b2 : RowL} {σ σ1 σ2 : Sbs} {n : Int}
end
section
variable {s t w ss S : List Int} {ts os : RowL} {n : Int} {j k : Nat}
def RnAt (s t ss w : List Int) (j : Nat) : Prop := ss = orderGo s (t.take j) ∧ w = byL (orderGo s t) (t.take j) ++ t.drop j
theorem RnAt.len (h : RnAt s t ss w j) : w.length = t.length := by rw [h.2]; simp [byL]; omega
theorem RnAt.at (h : RnAt s t ss w j) (hj : j < t.length) : w.getD j 0 = t.getD j 0 := by
 have hl : (byL (orderGo s t) (t.take j)).length = j := by simp [byL]; omega
 rw [h.2, List.getD_eq_getElem?_getD, List.getElem?_append_right (by omega), hl, Nat.sub_self, List.getElem?_drop, List.getD_eq_getElem?_getD, Nat.add_zero]
theorem RnAt.put (h : RnAt s t ss w j) (hj : j < t.length) (x : Int) (hx : x = if t.getD j 0 < 0 ∧ t.getD j 0 ∈ orderGo s t then -1 - indexZ (orderGo s t) (t.getD j 0) else t.getD j 0) : w.set j x = byL (orderGo s t) (t.take (j + 1)) ++ t.drop (j + 1) := by
 have hl : (byL (orderGo s t) (t.take j)).length = j := by simp [byL]; omega
 have e : byL (orderGo s t) (t.take (j + 1)) = byL (orderGo s t) (t.take j) ++ [x] := by
  unfold byL; rw [take_succ_getD 0 hj, List.map_append, hx]; rfl
 rw [e, List.append_assoc, h.2, List.set_append_right _ _ (by omega), hl, Nat.sub_self, drop_cons hj]; rfl
end
section
variable {ar t : List Int} {σ : Sbs} {p : Nat}
end
noncomputable def pkF (ar : List Int) (rs : RulesT) (o p u : Nat) : Option PkT := if meetB ar rs o p u = true then peakF ar rs o p u else none
section
variable {ar : List Int} {rs : RulesT} {o p u : Nat} {b : RowL} {σ : Sbs}
end
abbrev Tr := Nat × Nat × Nat
section
variable (ar : List Int) (rs : RulesT)
noncomputable def pkD (m : Tr) : PkT := (pkF ar rs m.1 m.2.1 m.2.2).getD P0
open Classical in
end
section
variable {ar : List Int} {rs : RulesT} {o p u k n : Nat} {ms : List Tr} {os : List PkT} {m : Tr}
def PkI (ar : List Int) (rs : RulesT) (ms : List Tr) (os : List PkT) : Prop := (∀ m ∈ ms, (pkF ar rs m.1 m.2.1 m.2.2).isSome = true) ∧ ms.length ≤ 64 ∧ os = ms.map (pkD ar rs)
theorem PkI.len (h : PkI ar rs ms os) : os.length = ms.length ∧ os.length ≤ 64 := by
 have := h.2.1
 rw [h.2.2, List.length_map]; omega
theorem PkI.next (h : PkI ar rs ms os) (h1 : (pkF ar rs o p u).isSome = true) (h2 : os.length ≠ 64) : PkI ar rs (ms ++ [(o, p, u)]) (os ++ [(pkF ar rs o p u).getD P0]) := by
 obtain ⟨a, b, c⟩ := h
 have hl : os.length = ms.length := by rw [c, List.length_map]
 refine ⟨fun m hm => ?_, by rw [List.length_append, List.length_singleton]; omega, by rw [List.map_append, c]; rfl⟩
 rcases List.mem_append.1 hm with hm | hm
 ·exact a m hm
 ·rw [List.mem_singleton.1 hm]; exact h1
end
section
variable {t u x : List Int} {b : RowL} {σ : Sbs} {ρ : Int → Nat} {n m : Int} {i : Nat} {sn : List Bool} {td : RowL}
def Mk (sn : List Bool) (m : Int) : Prop := sn.getD (varIx m) false = true
def Hd1 (b : RowL) (n : Int) (sn : List Bool) (y : Int) : Prop := y ≠ n ∧ (y < 0 → lkN b y ≠ [] → Mk sn y)
def Hd (b : RowL) (n : Int) (sn : List Bool) (x : List Int) : Prop := ∀ y ∈ x, Hd1 b n sn y
structure OccI (b : RowL) (σ : Sbs) (n : Int) (t : List Int) (sn : List Bool) (td : RowL) : Prop where
 len : sn.length = 48
 sound : ∀ x ∈ td, n ∈ ap σ x → n ∈ ap σ t
 all : ∀ x, (x = t ∨ ∃ m, m < 0 ∧ Mk sn m ∧ lkN b m ≠ [] ∧ x = lkN b m) → x ∈ td ∨ Hd b n sn x
structure OccJ (b : RowL) (σ : Sbs) (n : Int) (t u : List Int) (i : Nat) (sn : List Bool) (td : RowL) : Prop where
 len : sn.length = 48
 sound : ∀ x ∈ td, n ∈ ap σ x → n ∈ ap σ t
 us : n ∈ ap σ u → n ∈ ap σ t
 all : ∀ x, (x = t ∨ ∃ m, m < 0 ∧ Mk sn m ∧ lkN b m ≠ [] ∧ x = lkN b m) → x ∈ td ∨ Hd b n sn x ∨ x = u
 done : ∀ k, k < i → Hd1 b n sn (u.getD k 0)
theorem Mk.set (hl : sn.length = 48) (hm : m < 0) (hg : -48 ≤ m) (hy : n < 0) : Mk (sn.set (varIx m) true) n ↔ n = m ∨ Mk sn n := set_mark hl hm hg hy
theorem Hd1.mono (h : Hd1 b n sn m) (hl : sn.length = 48) {k : Int} (hk : k < 0) (hg : -48 ≤ k) : Hd1 b n (sn.set (varIx k) true) m := ⟨h.1, fun h0 hb => (Mk.set hl hk hg h0).2 (.inr (h.2 h0 hb))⟩
theorem OccI.pop (h : OccI b σ n t sn td) (hp : 0 < td.length) : OccJ b σ n t (td.getD (td.length - 1) []) 0 sn (td.take (td.length - 1)) := by
 have e : td = td.take (td.length - 1) ++ [td.getD (td.length - 1) []] := by
  have := take_succ_getD (l := td) (k := td.length - 1) ([] : List Int) (by omega)
  rw [Nat.sub_add_cancel hp, List.take_length] at this
  exact this
 have hmem : td.getD (td.length - 1) [] ∈ td := by
  have hlt : td.length - 1 < td.length := by omega
  simp only [List.getD, List.getElem?_eq_getElem hlt, Option.getD_some]
  exact List.getElem_mem hlt
 refine ⟨h.len, fun x hx => h.sound x (List.mem_of_mem_take hx), h.sound _ hmem, fun x hx => ?_, fun k hk => absurd hk (by omega)⟩
 rcases h.all x hx with h1 | h1
 ·rw [e] at h1
  rcases List.mem_append.1 h1 with h1 | h1
  ·exact .inl h1
  ·exact .inr (.inr (List.mem_singleton.1 h1))
 ·exact .inr (.inl h1)
theorem OccJ.skip (h : OccJ b σ n t u i sn td) (hne : u.getD i 0 ≠ n) (hs : 0 ≤ u.getD i 0 ∨ Mk sn (u.getD i 0) ∨ lkN b (u.getD i 0) = []) : OccJ b σ n t u (i + 1) sn td :=
 ⟨h.len, h.sound, h.us, h.all, fun k hk => (Nat.lt_or_ge k i).elim (fun hlt => h.done k hlt) (fun hge => by
  obtain rfl : k = i := by omega
  exact ⟨hne, fun h0 hb => by
   rcases hs with h1 | h1 | h1
   ·omega
   ·exact h1
   ·exact absurd h1 hb⟩)⟩
end
section
variable {ar A C t w : List Int} {b b1 : RowL} {σ σ1 θ : Sbs} {n z : Int} {l r : RowL}
structure MeetI (ar A C : List Int) (b l r : RowL) : Prop where
 ok : BOk ar b
 same : l.length = r.length
 lw : ∀ x ∈ l, TermW ar x
 rw' : ∀ x ∈ r, TermW ar x
 iff : ∀ θ, GoodS ar θ → (ap θ A = ap θ C ↔ SatB b θ ∧ ∀ i, i < l.length → ap θ (l.getD i []) = ap θ (r.getD i []))
theorem MeetI.last (h : MeetI ar A C b l r) (hp : 0 < l.length) : TermW ar (l.getD (l.length - 1) []) ∧ TermW ar (r.getD (l.length - 1) []) ∧
  ∀ θ, GoodS ar θ → (ap θ A = ap θ C ↔ (SatB b θ ∧ ∀ i, i < (l.take (l.length - 1)).length → ap θ ((l.take (l.length - 1)).getD i []) = ap θ ((r.take (l.length - 1)).getD i [])) ∧ ap θ (l.getD (l.length - 1) []) = ap θ (r.getD (l.length - 1) [])) := by
 have hlt : l.length - 1 < l.length := by omega
 have hrt : l.length - 1 < r.length := by have := h.same; omega
 have hg : ∀ {x : RowL} {k : Nat}, k < l.length - 1 → (x.take (l.length - 1)).getD k [] = x.getD k [] := fun {x k} hk => by
  rw [List.getD_eq_getElem?_getD, List.getD_eq_getElem?_getD, List.getElem?_take, if_pos hk]
 refine ⟨h.lw _ ?_, h.rw' _ ?_, fun θ g => ?_⟩
 ·simp only [List.getD, List.getElem?_eq_getElem hlt, Option.getD_some]; exact List.getElem_mem hlt
 ·simp only [List.getD, List.getElem?_eq_getElem hrt, Option.getD_some]; exact List.getElem_mem hrt
 ·rw [h.iff θ g, List.length_take, Nat.min_eq_left (by omega)]
  constructor
  ·rintro ⟨h1, h2⟩
   exact ⟨⟨h1, fun i hi => by rw [hg hi, hg hi]; exact h2 i (by omega)⟩, h2 _ hlt⟩
  ·rintro ⟨⟨h1, h2⟩, h3⟩
   refine ⟨h1, fun i hi => ?_⟩
   rcases Nat.lt_or_ge i (l.length - 1) with hk | hk
   ·have := h2 i hk; rwa [hg hk, hg hk] at this
   ·obtain rfl : i = l.length - 1 := by omega
    exact h3
abbrev lst (l : RowL) : List Int := l.getD (l.length - 1) []
abbrev cut1 (l : RowL) : RowL := l.take (l.length - 1)
section
variable {u v : List Int} {k : Nat}
theorem mem_cut {l : RowL} {x : List Int} (h : x ∈ cut1 l) : x ∈ l := List.mem_of_mem_take h
theorem cut_len {l : RowL} : (cut1 l).length = l.length - 1 := by simp [cut1]
theorem MeetI.rlast (h : MeetI ar A C b l r) : r.getD (l.length - 1) [] = lst r ∧ r.take (l.length - 1) = cut1 r := by rw [h.same]; exact ⟨rfl, rfl⟩
theorem MeetI.rest (h : MeetI ar A C b l r) (hp : 0 < l.length) {b1 : RowL} (hok : BOk ar b1) (hiff : ∀ θ, GoodS ar θ → ((SatB b θ ∧ ap θ (lst l) = ap θ (lst r)) ↔ SatB b1 θ)) : MeetI ar A C b1 (cut1 l) (cut1 r) := by
 obtain ⟨_, _, h3⟩ := h.last hp
 refine ⟨hok, by rw [cut_len, cut_len, h.same], fun x hx => h.lw x (mem_cut hx), fun x hx => h.rw' x (mem_cut hx), fun θ g => ?_⟩
 rw [h3 θ g, h.rlast.1, h.rlast.2, ← hiff θ g]
 constructor
 ·rintro ⟨⟨a1, a2⟩, a3⟩; exact ⟨⟨a1, a3⟩, a2⟩
 ·rintro ⟨⟨a1, a3⟩, a2⟩; exact ⟨⟨a1, a2⟩, a3⟩
theorem MeetI.keep (h : MeetI ar A C b l r) (hp : 0 < l.length) (hu : Root ar b (lst l) u) (hv : Root ar b (lst r) v) (h0 : u.getD 0 0 < 0) (he : u.getD 0 0 = v.getD 0 0) : MeetI ar A C b (cut1 l) (cut1 r) :=
 h.rest hp h.ok fun θ g => ⟨fun x => x.1, fun x => ⟨x, ((same_eq h.ok hu hv h0 he).iff θ g).1 x |>.2⟩⟩
end
end
section
variable {ar t : List Int} {p k e m q : Nat} {os : RowL}
def PartI (ar t : List Int) (os : RowL) (m q : Nat) : Prop := partsL ar t = os ++ (argsGo ar t m q).map (fun q => sub ar t q.toNat) ∧ Stand ar t m q t.length
theorem PartI.next (ho : TermW ar t) (h : PartI ar t os m q) (hm : 1 ≤ m) : q < t.length ∧ PartI ar t (os ++ [(t.drop q).take (endN ar t q - q)]) (m - 1) (endN ar t q) ∧ q < endN ar t q ∧ endN ar t q ≤ t.length := by
 obtain ⟨m, rfl⟩ : ∃ j, m = j + 1 := ⟨m - 1, by omega⟩
 obtain ⟨h1, h2, h3, h4⟩ := ho.stand h.2
 refine ⟨h1, ⟨?_, h2⟩, h3, h4⟩
 have e := h.1
 rw [argsGo, List.map_cons, Int.toNat_natCast] at e
 rw [e, Nat.add_sub_cancel, List.append_assoc]
 rfl
theorem PartI.len (h : PartI ar t os m q) : (partsL ar t).length = os.length + m := by
 have := congrArg List.length h.1
 rwa [List.length_append, List.length_map, argsGo_len] at this
end
section
variable {ar : List Int} {rs : RulesT} {o p u : Nat} {b : RowL} {σ : Sbs} {t : List Int}
end
section
variable {ar t u A C : List Int} {b b1 l r : RowL} {σ : Sbs} {ρ : Int → Nat} {n : Int} {k : Nat}
def maxR (ρ : Int → Nat) : List Int → Nat
 | [] => 0
 | m :: t => max (if m < 0 then ρ m + 1 else 0) (maxR ρ t)
theorem maxR_le : ∀ {t : List Int} {k : Nat}, (∀ m ∈ t, m < 0 → ρ m + 1 ≤ k) → maxR ρ t ≤ k
 | [], _, _ => Nat.zero_le _
 | m :: t, k, h => by
  have h1 := maxR_le (t := t) (k := k) fun x hx => h x (by simp [hx])
  unfold maxR
  refine Nat.max_le.2 ⟨?_, h1⟩
  split
  ·rename_i h0; exact h m (by simp) h0
  ·omega
theorem le_maxR : ∀ {t : List Int}, n ∈ t → n < 0 → ρ n + 1 ≤ maxR ρ t
 | [], h, _ => by cases h
 | m :: t, h, h0 => by
  unfold maxR
  rcases List.mem_cons.1 h with rfl | h1
  ·rw [if_pos h0]; exact Nat.le_max_left _ _
  ·exact Nat.le_trans (le_maxR h1 h0) (Nat.le_max_right _ _)
def wtR (ρ : Int → Nat) (t : List Int) : Nat := 61 * maxR ρ t + t.length
def WtLe (b : RowL) (t u : List Int) : Prop := ∀ ρ, Acyc b ρ → wtR ρ u ≤ wtR ρ t
theorem WtLe.refl : WtLe b t t := fun _ _ => Nat.le_refl _
theorem WtLe.next (h : WtLe b t u) (hb : BOk ar b) (hu : TermW ar u) (h0 : u.getD 0 0 < 0) (hn : b.getD (varIx (u.getD 0 0)) [] ≠ []) : WtLe b t (b.getD (varIx (u.getD 0 0)) []) := by
 rw [← lkN_get h0] at hn ⊢
 intro ρ hρ
 refine Nat.le_trans ?_ (h ρ hρ)
 have hl := (hb.wt _ h0 hn).len
 have hul := hu.len
 have h1 : maxR ρ (lkN b (u.getD 0 0)) ≤ ρ (u.getD 0 0) := maxR_le fun m hm hm0 => by have := hρ _ h0 m hm hm0; omega
 have h2 : ρ (u.getD 0 0) + 1 ≤ maxR ρ u := le_maxR (mem_of_getD (k := 0) (by omega) rfl) h0
 unfold wtR
 omega
def StkI (b : RowL) (A : List Int) (l : RowL) : Prop := ∀ ρ, Acyc b ρ → ∀ i, i < l.length → i + 2 * wtR ρ (l.getD i []) ≤ 2 * wtR ρ A
def rkB (ρ : Int → Nat) (n : Int) : Nat := ((List.range 48).filter fun (i : Nat) => decide (ρ (-1 - (i : Int)) < ρ n)).length
theorem rk_le : rkB ρ n ≤ 48 := by unfold rkB; exact Nat.le_trans (List.length_filter_le _ _) (by simp)
theorem filter_lt {p q : Nat → Bool} {x : Nat} : ∀ {l : List Nat}, (∀ y, p y = true → q y = true) → x ∈ l → p x = false → q x = true → (l.filter p).length < (l.filter q).length
 | [], _, h, _, _ => by cases h
 | y :: l, h1, h2, h3, h4 => by
  have mono : ∀ l : List Nat, (l.filter p).length ≤ (l.filter q).length := fun l => by
   rw [← List.countP_eq_length_filter, ← List.countP_eq_length_filter]; exact List.countP_mono_left fun y _ => h1 y
  rcases List.mem_cons.1 h2 with rfl | h5
  ·rw [List.filter_cons_of_neg (by rw [h3]; simp), List.filter_cons_of_pos h4, List.length_cons]
   have := mono l; omega
  ·have ih := filter_lt h1 h5 h3 h4
   simp only [List.filter_cons]
   cases hp : p y with
   | true => rw [h1 y hp]; simp only [if_true, List.length_cons]; omega
   | false => cases q y <;> simp <;> omega
theorem Acyc.rk (hb : BOk ar b) (h : Acyc b ρ) : Acyc b (rkB ρ) := fun n hn m hm hm0 => by
 have hne : lkN b n ≠ [] := fun e => by rw [e] at hm; cases hm
 have hg := (hb.wt n hn hne).ge m hm
 have hlt := h n hn m hm hm0
 refine filter_lt (x := (-1 - m).toNat) (fun y hy => ?_) (by simp; omega) ?_ ?_
 ·have := of_decide_eq_true hy; exact decide_eq_true (by omega)
 ·have e : -1 - (((-1 - m).toNat : Nat) : Int) = m := by omega
  rw [e]; simp
 ·have e : -1 - (((-1 - m).toNat : Nat) : Int) = m := by omega
  rw [e]; simpa using hlt
theorem StkI.len (h : StkI b A l) (hb : BOk ar b) (hA : A.length ≤ 60) : l.length ≤ 7000 := by
 obtain ⟨ρ, hρ⟩ := hb.acyc
 rcases Nat.eq_zero_or_pos l.length with h0 | h0
 ·omega
 have h1 := h _ (hρ.rk hb) (l.length - 1) (by omega)
 have h2 : maxR (rkB ρ) A ≤ 49 := maxR_le fun m _ _ => by have := rk_le (ρ := ρ) (n := m); omega
 unfold wtR at h1
 omega
end
section
variable {o t : List Int} {k j : Nat} {n x : Int}
end
section
variable {ar : List Int} {rs : RulesT} {o p u : Nat} {b : RowL} {σ : Sbs}
end
section
variable {ar : List Int} {rs : RulesT} {o p u : Nat} {x : PkT}
end
section
variable {α : Type} {q : α → Bool} {l : List α} {k : Nat} {ar : List Int} {rs : RulesT}
theorem badG_hit (d : α) (h : badG q l ≠ -1) : ∃ k : Nat, k < l.length ∧ badG q l = (k : Int) ∧ q (l.getD k d) = false ∧ ∀ i, i < k → q (l.getD i d) = true := by
 unfold badG at *
 cases hf : l.findIdx? (fun t => !q t) with
 | none => rw [hf] at h; simp at h
 | some i =>
  obtain ⟨hi, h1, h2⟩ := List.findIdx?_eq_some_iff_getElem.1 hf
  refine ⟨i, hi, rfl, ?_, fun j hj => ?_⟩
  ·simpa [List.getD, hi] using h1
  ·have := h2 j hj
   simpa [List.getD, show j < l.length by omega] using this
end
def opW (c : Nat) (n : Int) (s : List Nat) : List Nat :=
 if 0 ≤ n ∧ n ≤ 1 then
  if n = 1 then (match s with | x :: r => (x + 1) :: r | [] => [1])
  else (match s with | x :: y :: r => (2 * x + c * y + 1) :: r | [x] => [2 * x + 1] | [] => [1])
 else 0 :: s
def evW (c : Nat) (t : List Int) (s : List Nat) : List Nat := t.foldr (opW c) s
inductive LeS : List Nat → List Nat → Prop
 | nil : LeS [] []
 | cons {a b : Nat} {r s : List Nat} : a ≤ b → LeS r s → LeS (a :: r) (b :: s)
inductive LtS : List Nat → List Nat → Prop
 | here {a b : Nat} {r s : List Nat} : a < b → LeS r s → LtS (a :: r) (b :: s)
 | there {a b : Nat} {r s : List Nat} : a ≤ b → LtS r s → LtS (a :: r) (b :: s)
theorem LeS.refl : ∀ s, LeS s s
 | [] => .nil
 | a :: s => .cons (Nat.le_refl a) (LeS.refl s)
section
variable {c d : Nat} {n : Int} {r s : List Nat} {t u : List Int}
theorem mul_le1 {x y : Nat} (h : x ≤ y) : c * x ≤ c * y := Nat.mul_le_mul_left c h
theorem mul_lt1 {x y : Nat} (hc : 1 ≤ c) (h : x < y) : c * x < c * y := by
 have := Nat.mul_le_mul_left c (show x + 1 ≤ y from h)
 rw [Nat.mul_succ] at this; omega
theorem LtS.op (hc : 1 ≤ c) (h : LtS r s) : LtS (opW c n r) (opW c n s) := by
 unfold opW
 split
 ·split
  ·cases h with
   | here h1 h2 => exact .here (by omega) h2
   | there h1 h2 => exact .there (by omega) h2
  ·cases h with
   | here h1 h2 =>
    cases h2 with
    | nil => exact .here (by omega) .nil
    | cons h3 h4 => exact .here (by have := mul_le1 (c := c) h3; omega) h4
   | there h1 h2 =>
    cases h2 with
    | here h3 h4 => exact .here (by have := mul_lt1 hc h3; omega) h4
    | there h3 h4 => exact .there (by have := mul_le1 (c := c) h3; omega) h4
 ·exact .there (Nat.le_refl 0) h
theorem LtS.ev (hc : 1 ≤ c) (h : LtS r s) : ∀ t, LtS (evW c t r) (evW c t s)
 | [] => h
 | x :: t => (LtS.ev hc h t).op hc
theorem ev_app {a b : List Int} : evW c (a ++ b) s = evW c a (evW c b s) := List.foldr_append
theorem ev_cons {x : Int} : evW c (x :: t) s = opW c x (evW c t s) := rfl
def HasW (c : Nat) (t : List Int) (w : Nat) : Prop := ∀ s, evW c t s = w :: s
theorem has_leaf (h : ¬ (0 ≤ n ∧ n ≤ 1)) : HasW c [n] 0 := fun s => by show opW c n s = _; unfold opW; rw [if_neg h]
theorem has_one {w : Nat} (h : HasW c t w) : HasW c (1 :: t) (w + 1) := fun s => by rw [ev_cons, h s]; rfl
theorem has_two {w v : Nat} (h : HasW c t w) (h2 : HasW c u v) : HasW c (0 :: (t ++ u)) (2 * w + c * v + 1) := fun s => by rw [ev_cons, ev_app, h2 s, h (v :: s)]; rfl
abbrev A3 : List Int := [2, 1, 0]
theorem has_w (c : Nat) : ∀ (n : Nat) (t : List Int), t.length ≤ n → TermW A3 t → ∃ w, HasW c t w
 | 0, t, hn, h => by have := h.len; omega
 | n + 1, t, hn, h => by
  have e := parts_flat h
  have hl := parts_len (ar := A3) (t := t)
  have hw := parts_wf h
  generalize partsL A3 t = ps at e hl hw
  generalize t.getD 0 0 = f at e hl
  subst e
  by_cases h0 : f = 0
  ·subst h0
   match ps, hl with
   | [a, b], _ =>
    simp only [List.flatten_cons, List.flatten_nil, List.append_nil, List.length_cons, List.length_append] at hn
    obtain ⟨x, hx⟩ := has_w c n a (by omega) (hw a (by simp))
    obtain ⟨y, hy⟩ := has_w c n b (by omega) (hw b (by simp))
    exact ⟨_, by simpa using has_two hx hy⟩
  ·by_cases h1 : f = 1
   ·subst h1
    match ps, hl with
    | [a], _ =>
     simp only [List.flatten_cons, List.flatten_nil, List.append_nil, List.length_cons] at hn
     obtain ⟨x, hx⟩ := has_w c n a (by omega) (hw a (by simp))
     exact ⟨_, by simpa using has_one hx⟩
   ·have hz : ps = [] := by
     refine List.eq_nil_of_length_eq_zero ?_
     rw [hl]
     unfold arity
     split
     ·rfl
     ·obtain ⟨k, rfl⟩ : ∃ k : Nat, f = k := ⟨f.toNat, by omega⟩
      match k with
      | 0 => simp at h0
      | 1 => simp at h1
      | 2 => rfl
      | k + 3 => rfl
    subst hz
    exact ⟨0, has_leaf (by omega)⟩
theorem LtS.one {w v : Nat} (h : LtS [w] [v]) : w < v := by
 cases h with
 | here h1 _ => exact h1
 | there _ h2 => cases h2
def foldW (c : Nat) (w : Int → Nat) (P : List Int) (s : List Nat) : List Nat := P.foldr (fun n s => if n < 0 then w n :: s else opW c n s) s
theorem ev_fm {b : RowL} {w : Int → Nat} (hw : ∀ n, n < 0 → HasW c (lk b n) (w n)) : ∀ (P : List Int) (s : List Nat), evW c (FM b P) s = foldW c w P s
 | [], s => rfl
 | n :: P, s => by
  show evW c (lk b n ++ FM b P) s = _
  rw [ev_app, ev_fm hw P s]
  show _ = if n < 0 then w n :: foldW c w P s else opW c n (foldW c w P s)
  split
  ·rename_i h; rw [hw n h]
  ·rename_i h; rw [lk_sym (by omega)]; rfl
theorem lk_has {b : RowL} (hb : RowsOk A3 b) : ∃ w : Int → Nat, ∀ n, n < 0 → HasW c (lk b n) (w n) := by
 have h : ∀ n : Int, ∃ w : Nat, n < 0 → HasW c (lk b n) w := fun n => by
  by_cases h0 : n < 0
  ·by_cases h1 : b.getD (varIx n) [] = []
   ·exact ⟨0, fun _ => by rw [lk_none h0 h1]; exact has_leaf (by omega)⟩
   ·rw [lk_some h0 h1]
    obtain ⟨w, hw⟩ := has_w c _ _ (Nat.le_refl _) (termW_of ((hb (varIx n)).resolve_left h1))
    exact ⟨w, fun _ => hw⟩
  ·exact ⟨0, fun h => absurd h h0⟩
 exact Classical.axiomOfChoice h
def DecR (c : Nat) (rl : List Int × List Int) : Prop := (∀ (w : Int → Nat) (s : List Nat), LtS (foldW c w rl.2 s) (foldW c w rl.1 s)) ∧ ∀ b : RowL, (FM b rl.2).length ≤ (FM b rl.1).length
def DecS (c : Nat) (rs : Rules) : Prop := ∀ rl ∈ rs, DecR c rl
def EndsR (rs : Rules) : Prop := ∃ c, 1 ≤ c ∧ c ≤ 2 ∧ DecS c rs
variable {rs : Rules} {p k : Nat}
theorem dec_step (hc : 1 ≤ c) (hs : sysOk A3 rs = true) (ht : termOk A3 t = true) (hd : DecS c rs) (hp : p < t.length) (hk : k < rs.length) (h : isRedex A3 rs t p k = true) :
  ∃ u, stepL A3 rs t p k = some u ∧ termOk A3 u = true ∧ ∀ s, LtS (evW c u s) (evW c t s) := by
 have hR := ruleOk_iff.1 ((sysOk_iff.1 hs).2.2 k hk)
 have hso := sub_ok ht hp
 obtain ⟨b, hb⟩ := Option.isSome_iff_exists.1 h
 have hfm := match_fm hR.left hso hb
 have hmem : rs.getD k ([], []) ∈ rs := by rw [List.getD_eq_getElem?_getD, List.getElem?_eq_getElem hk]; exact List.getElem_mem hk
 obtain ⟨hd1, hd2⟩ := hd _ hmem
 have hl := hd2 b
 have hsl := termOk_len hso
 rw [hfm] at hl
 have hfill := fillL_of (s := b) (t := (rs.getD k ([], [])).2) (by omega)
 have hpt := parts ht hp
 have htl := termOk_len ht
 have hlen : (t.take p ++ FM b (rs.getD k ([], [])).2 ++ t.drop (endN A3 t p)).length ≤ 60 := by
  have := congrArg List.length hpt
  simp only [List.length_append] at this ⊢
  omega
 have hst : stepL A3 rs t p k = some (t.take p ++ FM b (rs.getD k ([], [])).2 ++ t.drop (endN A3 t p)) := by
  unfold stepL
  rw [hb]
  simp only
  rw [hfill]
  simp only [putL]
  rw [if_neg (by omega)]
 refine ⟨_, hst, stepL_ok hs ht hp hk hst, fun s => ?_⟩
 obtain ⟨w, hw⟩ := lk_has (c := c) (matchB_ok hso hb)
 have e1 : evW c t s = evW c (t.take p) (foldW c w (rs.getD k ([], [])).1 (evW c (t.drop (endN A3 t p)) s)) := by
  conv => lhs; rw [hpt]
  rw [ev_app, ev_app, ← hfm, ev_fm hw]
 rw [e1, ev_app, ev_app, ev_fm hw]
 exact (hd1 w _).ev hc _
theorem walk_ends (hc : 1 ≤ c) (hs : sysOk A3 rs = true) (hd : DecS c rs) {st : Int} : ∀ (n : Nat) (t : List Int) (w : Nat), termOk A3 t = true → HasW c t w → w ≤ n → (walkGo A3 rs st n t).2 = true := by
 have key : ∀ (t : List Int) (w : Nat), termOk A3 t = true → HasW c t w → redL A3 rs t ≠ [] → ∃ u v, stepL A3 rs t (pickL A3 rs t st).toNat (ruleAtL A3 rs t (pickL A3 rs t st).toNat).toNat = some u ∧ termOk A3 u = true ∧ HasW c u v ∧ v < w := by
  intro t w ht hw hne
  rcases pick_spec (ar := A3) (rs := rs) (t := t) st with h1 | ⟨p, h1, h2, h3, _⟩
  ·exact absurd h1.2 hne
  ·rw [h1, Int.toNat_natCast]
   have h4 : 0 ≤ ruleAtL A3 rs t p := by simpa [hasR] using h3
   rcases ruleAt_spec (ar := A3) (rs := rs) (t := t) (p := p) with h5 | ⟨k, h5, h6, h7⟩
   ·omega
   ·rw [h5, Int.toNat_natCast]
    obtain ⟨u, hu, huo, hlt⟩ := dec_step hc hs ht hd h2 h6 h7
    obtain ⟨v, hv⟩ := has_w c _ _ (Nat.le_refl _) (termW_of huo)
    refine ⟨u, v, hu, huo, hv, ?_⟩
    have := hlt []
    rw [hv [], hw []] at this
    exact this.one
 intro n
 induction n with
 | zero =>
  intro t w ht hw hn
  by_cases hne : redL A3 rs t = []
  ·rw [walk_nil hne]
  ·obtain ⟨u, v, _, _, _, h⟩ := key t w ht hw hne
   omega
 | succ n ih =>
  intro t w ht hw hn
  by_cases hne : redL A3 rs t = []
  ·rw [walk_nil hne]
  ·obtain ⟨u, v, hu, huo, hv, h⟩ := key t w ht hw hne
   rw [walk_next (by omega) hne hu]
   exact ih u v huo hv (by omega)
def LowW (c : Nat) (t : List Int) : Prop := termOk A3 t = true ∧ ∃ w, HasW c t w ∧ w ≤ 60
theorem LowW.ends (h : LowW c t) (hc : 1 ≤ c) (hs : sysOk A3 rs = true) (hd : DecS c rs) : nfF A3 rs 60 t = true :=
 let ⟨h1, w, h2, h3⟩ := h
 walk_ends hc hs hd 60 t w h1 h2 h3
theorem LowW.step (h : LowW c t) (hc : 1 ≤ c) (hs : sysOk A3 rs = true) (hd : DecS c rs) {i : Nat} (hi : i < (stepsS A3 rs t).length) : LowW c ((stepsS A3 rs t).getD i (0, 0, [])).2.2 := by
 obtain ⟨h1, w, h2, h3⟩ := h
 have hst := (steps_law hi).1
 generalize (stepsS A3 rs t).getD i (0, 0, []) = x at hst
 obtain ⟨hok, hsl⟩ := stepAtL_iff.1 hst
 obtain ⟨_, hp, hk⟩ := stepAtOk_iff.1 hok
 have hred := step_redex (show (stepL A3 rs t x.1.toNat x.2.1.toNat).isSome = true by rw [hsl]; rfl)
 obtain ⟨u, hu, huo, hlt⟩ := dec_step hc hs h1 hd (by omega) (by omega) hred
 rw [hsl] at hu
 cases hu
 obtain ⟨v, hv⟩ := has_w c _ _ (Nat.le_refl _) (termW_of huo)
 have := hlt []
 rw [hv [], h2 []] at this
 exact ⟨huo, v, hv, by have := this.one; omega⟩
theorem low_one {ts : RowL} (h : ∀ i, i < ts.length → LowW c (ts.getD i [])) (ht : LowW c t) : ∀ i, i < (ts ++ [t]).length → LowW c ((ts ++ [t]).getD i []) := fun i hi => by
 rw [List.length_append, List.length_singleton] at hi
 rcases Nat.lt_or_ge i ts.length with h1 | h1
 ·rw [List.getD_eq_getElem?_getD, List.getElem?_append_left h1, ← List.getD_eq_getElem?_getD]; exact h i h1
 ·obtain rfl : i = ts.length := by omega
  rw [List.getD_eq_getElem?_getD, List.getElem?_append_right (Nat.le_refl _)]
  simpa using ht
def wv : Nat → Nat
 | 0 => 0
 | 1 => 0
 | d + 2 => 4 * wv (d + 1) + 1
def WdT (d : Nat) (t : List Int) : Prop := ∀ c, c ≤ 2 → ∃ w, HasW c t w ∧ w ≤ wv d
theorem WdT.leaf (h : ¬ (0 ≤ n ∧ n ≤ 1)) : WdT d [n] := fun c _ => ⟨0, has_leaf h, Nat.zero_le _⟩
theorem wv_next (h : 2 ≤ d) : wv d = 4 * wv (d - 1) + 1 := by
 obtain ⟨e, rfl⟩ : ∃ e, d = e + 2 := ⟨d - 2, by omega⟩
 rfl
theorem WdT.one (hd : 2 ≤ d) (h : WdT (d - 1) t) : WdT d (1 :: t) := fun c hc =>
 let ⟨w, h1, h2⟩ := h c hc
 ⟨_, has_one h1, by have := wv_next hd; omega⟩
theorem WdT.two (hd : 2 ≤ d) (h : WdT (d - 1) t) (h' : WdT (d - 1) u) : WdT d (0 :: (t ++ u)) := fun c hc => by
 obtain ⟨w, h1, h2⟩ := h c hc
 obtain ⟨v, h3, h4⟩ := h' c hc
 refine ⟨_, has_two h1 h3, ?_⟩
 have := wv_next hd
 have := Nat.mul_le_mul_right v hc
 omega
theorem WdT.low (h : WdT 4 t) (ho : termOk A3 t = true) (hc : c ≤ 2) : LowW c t :=
 let ⟨w, h1, h2⟩ := h c hc
 ⟨ho, w, h1, Nat.le_trans h2 (by decide)⟩
theorem DecS.nil : DecS c [] := fun _ h => absurd h (by simp)
theorem DecS.cons {rl : List Int × List Int} (h : DecR c rl) (h2 : DecS c rs) : DecS c (rl :: rs) := fun x hx => by
 rcases List.mem_cons.1 hx with rfl | hx
 ·exact h
 ·exact h2 x hx
theorem dR {rl : List Int × List Int} (h : ∀ (w : Int → Nat) (s : List Nat), ∃ a b, foldW c w rl.2 s = a :: s ∧ foldW c w rl.1 s = b :: s ∧ a < b) (h2 : ∀ b : RowL, (FM b rl.2).length ≤ (FM b rl.1).length) : DecR c rl := by
 refine ⟨fun w s => ?_, h2⟩
 obtain ⟨a, b, e1, e2, hlt⟩ := h w s
 rw [e1, e2]
 exact .here hlt (LeS.refl s)
theorem lenFM_cons {b : RowL} {x : Int} {P : List Int} : (FM b (x :: P)).length = (lk b x).length + (FM b P).length := by simp [FM]
theorem lenFM_lk {b : RowL} {x : Int} (h : 0 ≤ x) : (lk b x).length = 1 := by rw [lk_sym h]; rfl
theorem lenFM_nil {b : RowL} : (FM b []).length = 0 := rfl
theorem dec1 (hc : 1 ≤ c ∧ c ≤ 2) : DecR c ([0, 2, -1], [-1]) := by obtain rfl | rfl : c = 1 ∨ c = 2 := (by omega) <;> exact dR (fun w s => ⟨_, _, rfl, rfl, by omega⟩) (fun b => by have h0 := lenFM_lk (b := b) (x := 0) (by decide); have h1 := lenFM_lk (b := b) (x := 1) (by decide); have h2 := lenFM_lk (b := b) (x := 2) (by decide); simp only [lenFM_cons, lenFM_nil]; omega)
theorem dec2 (hc : 1 ≤ c ∧ c ≤ 2) : DecR c ([0, 1, -1, -2], [1, 0, -1, -2]) := by obtain rfl | rfl : c = 1 ∨ c = 2 := (by omega) <;> exact dR (fun w s => ⟨_, _, rfl, rfl, by omega⟩) (fun b => by have h0 := lenFM_lk (b := b) (x := 0) (by decide); have h1 := lenFM_lk (b := b) (x := 1) (by decide); have h2 := lenFM_lk (b := b) (x := 2) (by decide); simp only [lenFM_cons, lenFM_nil]; omega)
theorem dec3 (hc : 1 ≤ c ∧ c ≤ 2) : DecR c ([0, -1, 2], [-1]) := by obtain rfl | rfl : c = 1 ∨ c = 2 := (by omega) <;> exact dR (fun w s => ⟨_, _, rfl, rfl, by omega⟩) (fun b => by have h0 := lenFM_lk (b := b) (x := 0) (by decide); have h1 := lenFM_lk (b := b) (x := 1) (by decide); have h2 := lenFM_lk (b := b) (x := 2) (by decide); simp only [lenFM_cons, lenFM_nil]; omega)
theorem dec4 : DecR 2 ([0, -1, 1, -2], [1, 0, -1, -2]) := by exact dR (fun w s => ⟨_, _, rfl, rfl, by omega⟩) (fun b => by have h0 := lenFM_lk (b := b) (x := 0) (by decide); have h1 := lenFM_lk (b := b) (x := 1) (by decide); have h2 := lenFM_lk (b := b) (x := 2) (by decide); simp only [lenFM_cons, lenFM_nil]; omega)
theorem dec5 (hc : 1 ≤ c ∧ c ≤ 2) : DecR c ([1, 1, -1], [-1]) := by obtain rfl | rfl : c = 1 ∨ c = 2 := (by omega) <;> exact dR (fun w s => ⟨_, _, rfl, rfl, by omega⟩) (fun b => by have h0 := lenFM_lk (b := b) (x := 0) (by decide); have h1 := lenFM_lk (b := b) (x := 1) (by decide); have h2 := lenFM_lk (b := b) (x := 2) (by decide); simp only [lenFM_cons, lenFM_nil]; omega)
theorem dec6 : DecR 1 ([0, 0, -1, -2, -3], [0, -1, 0, -2, -3]) := by exact dR (fun w s => ⟨_, _, rfl, rfl, by omega⟩) (fun b => by have h0 := lenFM_lk (b := b) (x := 0) (by decide); have h1 := lenFM_lk (b := b) (x := 1) (by decide); have h2 := lenFM_lk (b := b) (x := 2) (by decide); simp only [lenFM_cons, lenFM_nil]; omega)
theorem ends_a : EndsR [([0, 2, -1], [-1]), ([0, 1, -1, -2], [1, 0, -1, -2]), ([0, -1, 2], [-1]), ([0, -1, 1, -2], [1, 0, -1, -2])] := ⟨2, by omega, by omega, .cons (dec1 (by omega)) (.cons (dec2 (by omega)) (.cons (dec3 (by omega)) (.cons dec4 .nil)))⟩
theorem ends_b : EndsR [([1, 1, -1], [-1]), ([0, 2, -1], [-1])] := ⟨2, by omega, by omega, .cons (dec5 (by omega)) (.cons (dec1 (by omega)) .nil)⟩
theorem ends_c : EndsR [([0, 0, -1, -2, -3], [0, -1, 0, -2, -3]), ([0, 2, -1], [-1]), ([0, -1, 2], [-1])] := ⟨1, by omega, by omega, .cons dec6 (.cons (dec1 (by omega)) (.cons (dec3 (by omega)) .nil))⟩
theorem ends_d : EndsR [([0, 2, -1], [-1]), ([0, 1, -1, -2], [1, 0, -1, -2])] := ⟨2, by omega, by omega, .cons (dec1 (by omega)) (.cons (dec2 (by omega)) .nil)⟩
end
section
variable {ar : List Int} {rs : Rules} {ts : RowL} {i k : Nat} {a b : List Int}
theorem nfR_get {n : Int} (hk : i < k) : (nfR ar rs ts n k).getD i [] = nfE ar rs n (ts.getD i []) := by
 unfold nfR; simp [List.getD_eq_getElem?_getD, List.getElem?_map, List.getElem?_range hk]
theorem cls_at (hok : allOk ar rs ts 60 = true) (hf : ∀ i, i < ts.length → nfF ar rs 60 (ts.getD i []) = true) (hi : i < ts.length) :
  ∃ j : Nat, (clsL ar rs ts 60).getD i 0 = (j : Int) ∧ j ≤ i ∧ nfE ar rs 60 (ts.getD j []) = nfE ar rs 60 (ts.getD i []) ∧ ∀ m, m < j → nfE ar rs 60 (ts.getD m []) ≠ nfE ar rs 60 (ts.getD i []) := by
 rw [clsL_yes hok hf]
 have e : (clsTo ar rs ts 60 ts.length).getD i 0 = badG (fun y => !decide (y = nfE ar rs 60 (ts.getD i []))) (nfR ar rs ts 60 (i + 1)) := by
  unfold clsTo; simp [List.getD_eq_getElem?_getD, List.getElem?_map, List.getElem?_range hi]
 rw [e]
 have hne : badG (fun y => !decide (y = nfE ar rs 60 (ts.getD i []))) (nfR ar rs ts 60 (i + 1)) ≠ -1 := by
  intro h
  have h1 := (badG_iff (q := fun y => !decide (y = nfE ar rs 60 (ts.getD i []))) (l := nfR ar rs ts 60 (i + 1))).2 (by
   rw [List.all_eq_false]
   refine ⟨nfE ar rs 60 (ts.getD i []), ?_, by simp⟩
   rw [← nfR_next]; simp)
  omega
 obtain ⟨j, hj, e2, hq, hall⟩ := badG_hit [] hne
 rw [nfR_len] at hj
 refine ⟨j, e2, by omega, ?_, fun m hm => ?_⟩
 ·rw [nfR_get hj] at hq; simpa using hq
 ·have := hall m hm
  rw [nfR_get (by omega)] at this; simpa using this
theorem cls_same (hok : allOk ar rs ts 60 = true) (hf : ∀ i, i < ts.length → nfF ar rs 60 (ts.getD i []) = true) (hi : i < ts.length) (hk : k < ts.length) :
  (clsL ar rs ts 60).getD i 0 = (clsL ar rs ts 60).getD k 0 ↔ nfE ar rs 60 (ts.getD i []) = nfE ar rs 60 (ts.getD k []) := by
 obtain ⟨j, e1, _, e2, h1⟩ := cls_at hok hf hi
 obtain ⟨m, e3, _, e4, h2⟩ := cls_at hok hf hk
 rw [e1, e3]
 constructor
 ·intro h
  have : j = m := by omega
  subst this
  rw [← e2, e4]
 ·intro h
  rw [h] at h1 e2
  rcases Nat.lt_trichotomy j m with hlt | heq | hgt
  ·exact absurd e2 (h2 j hlt)
  ·rw [heq]
  ·exact absurd e4 (h1 m hgt)
theorem eqB_nf (hs : sysOk ar rs = true) (ha : termOk ar a = true) (hb : termOk ar b = true) (h1 : nfF ar rs 60 a = true) (h2 : nfF ar rs 60 b = true) : eqB ar rs a b 60 = if nfE ar rs 60 a = nfE ar rs 60 b then 1 else 0 := by
 rw [eqB, if_pos ⟨⟨right_iff.2 ⟨hs, ha⟩, right_iff.2 ⟨hs, hb⟩⟩, by omega⟩, eqN, if_pos ⟨h1, h2⟩]
 rfl
theorem cls_law (hok : allOk ar rs ts 60 = true) (hf : ∀ i, i < ts.length → nfF ar rs 60 (ts.getD i []) = true) (hi : i < ts.length) :
  (0 ≤ (clsL ar rs ts 60).getD i 0 ∧ (clsL ar rs ts 60).getD i 0 ≤ i) ∧ (clsL ar rs ts 60).getD ((clsL ar rs ts 60).getD i 0).toNat 0 = (clsL ar rs ts 60).getD i 0 ∧
  eqB ar rs (ts.getD i []) (ts.getD ((clsL ar rs ts 60).getD i 0).toNat []) 60 = 1 ∧ ∀ k, k < ts.length → ((clsL ar rs ts 60).getD k 0 = (clsL ar rs ts 60).getD i 0 ↔ eqB ar rs (ts.getD i []) (ts.getD k []) 60 = 1) := by
 obtain ⟨hs, _, hall, _⟩ := allOk_iff.1 hok
 obtain ⟨j, e1, hj, e2, h1⟩ := cls_at hok hf hi
 refine ⟨⟨by omega, by omega⟩, ?_, ?_, fun k hk => ?_⟩
 ·rw [show ((clsL ar rs ts 60).getD i 0).toNat = j from by omega]
  exact (cls_same hok hf (by omega) hi).2 e2
 ·rw [show ((clsL ar rs ts 60).getD i 0).toNat = j from by omega, eqB_nf hs (all_at hall hi) (all_at hall (by omega)) (hf i hi) (hf j (by omega)), if_pos e2.symm]
 ·rw [cls_same hok hf hk hi, eqB_nf hs (all_at hall hi) (all_at hall hk) (hf i hi) (hf k hk)]
  constructor
  ·intro h; rw [if_pos h.symm]
  ·intro h
   split at h
   ·rename_i e; exact e.symm
   ·cases h
theorem cls_len (hok : allOk ar rs ts 60 = true) (hf : ∀ i, i < ts.length → nfF ar rs 60 (ts.getD i []) = true) : (clsL ar rs ts 60).length = ts.length := by rw [clsL_yes hok hf, clsTo_len]
end
end Go.Proofs.Ytcdjpapjjoldeaa.M
namespace Go.Proofs.Ytcdjpapjjoldeaa.X
open Go Go.WideShapes Go.ChangeShapes Go.RowKit
def fhOf (w : World) : FH := ⟨fun b => w.heap[b]?, w.os, w.output, w.tape⟩
theorem holds_fhOf (w : World) : Holds (fhOf w) [] w := ⟨rfl, rfl, rfl, fun _ _ h => h, [], rfl, List.nodup_nil, fun p hp => absurd hp (by simp)⟩
theorem cell_fhOf (w : World) (a : Addr) : (fhOf w).cell? a = w.cell? a := by
 unfold FH.cell? World.cell? fhOf
 rfl
theorem below_of_holds {w w' : World} {F' : FH} {L' : List HP} (le : fhOf w ≤ F') (h : Holds F' L' w') : Below w.heap.size w w' := by
 have key : ∀ k o, w.heap[k]? = some o → w'.heap[k]? = some o := fun k o hk => h.cells k o (le.cells k o hk)
 refine ⟨h.os.trans le.os, h.tape.trans le.tape, h.output.trans le.output, ?_, fun k hk => ?_⟩
 ·rcases Nat.eq_zero_or_pos w.heap.size with h0 | h0
  ·omega
  ·have h1 : w.heap[w.heap.size - 1]? = some (w.heap[w.heap.size - 1]'(by omega)) := Array.getElem?_eq_getElem (by omega)
   have h2 := (Array.getElem?_eq_some_iff.1 (key _ _ h1)).1
   omega
 ·have h1 : w.heap[k]? = some (w.heap[k]'hk) := Array.getElem?_eq_getElem hk
  rw [h1]
  exact key _ _ h1
def Opens (P : Program) (t : TypeId) {α : Type} (R : FH → List Value → α → Prop) (B : α → Prop) : Prop :=
 ∀ (H : Type) (enc : TypeId × Value → H) (w : World) (base : Nat) (spare : Nat → Bool) (held : Bool) (fuel : Nat) (cs : List Value) (x : DataW H × List MemPlace),
  DataW.trod enc P w base spare held fuel t cs = some x → ∃ a, R (fhOf w) cs a ∧ B a
section
variable {P : Program} {t e : TypeId}
theorem opens_slice {α : Type} {R : FH → List Value → α → Prop} {B : α → Prop} {s : Nat} (d : α) (ht : P.underlying t = some (.slice e)) (hc : P.cellsOf e = s) (ho : Opens P e R B) :
  Opens P t (fun F cs (xs : List α) => ∃ v, cs = [v] ∧ SlOf s R d F v xs) (fun xs => xs.length ≤ 9223372036854775807 ∧ ∀ i, i < xs.length → B (xs.getD i d)) := by
 intro H enc w base spare held fuel cs x h
 rcases Go.Deep.open_slice ht h with ⟨rfl, _⟩ | ⟨a, len, cap, m, n, D, Pl, rfl, hb, hl, hm, hmm, _, hx⟩
 ·exact ⟨[], ⟨_, rfl, [], ⟨by simp, none, 0, rfl, by simp, fun _ => rfl, fun a h => by cases h⟩, fun i hi => by simp at hi⟩, by simp, fun i hi => by simp at hi⟩
 ·have hlm : len ≤ m := by rw [hmm]; split <;> omega
  rw [hc] at hx
  have each : ∀ i, i < len → ∃ q : α, ∃ cs' : List Value, cs'.length = s ∧ (∀ r, r < s → w.cell? (a.add (i * s + r)) = cs'[r]?) ∧ R (fhOf w) cs' q ∧ B q := by
   intro i hi
   obtain ⟨cs', h1, h2⟩ := hx i (by omega)
   obtain ⟨_, hlen, hcell⟩ := World.cells?_some h1
   obtain ⟨q, hq, hbq⟩ := ho H enc w base spare held n cs' _ h2
   exact ⟨q, cs', hlen, fun r hr => by rw [← hcell r hr, add_add], hq, hbq⟩
  have ⟨q, hq⟩ : ∃ q : Nat → α, ∀ i, i < len → ∃ cs' : List Value, cs'.length = s ∧ (∀ r, r < s → w.cell? (a.add (i * s + r)) = cs'[r]?) ∧ R (fhOf w) cs' (q i) ∧ B (q i) := by
   haveI : Inhabited α := ⟨d⟩
   exact Go.Deep.choose_lt each
  let V : Nat → Value := fun j => (w.cell? (a.add j)).getD undef
  have hV : ∀ j, j < len * s → w.cell? (a.add j) = some (V j) := by
   intro j hj
   have hs : 0 < s := by rcases Nat.eq_zero_or_pos s with h0 | h0; subst h0; simp at hj; exact h0
   have hdiv : j / s < len := (Nat.div_lt_iff_lt_mul hs).2 hj
   obtain ⟨cs', hl', hcell, _⟩ := hq (j / s) hdiv
   have hr := hcell (j % s) (Nat.mod_lt _ hs)
   have e1 : j / s * s + j % s = j := by rw [Nat.mul_comm]; exact Nat.div_add_mod j s
   rw [e1] at hr
   have hlt : j % s < cs'.length := by rw [hl']; exact Nat.mod_lt _ hs
   rw [List.getElem?_eq_getElem hlt] at hr
   show w.cell? (a.add j) = some ((w.cell? (a.add j)).getD undef)
   rw [hr]; rfl
  have hxl : ((List.range len).map q).length = len := by simp
  have hgd : ∀ i, i < len → ((List.range len).map q).getD i d = q i := fun i hi => by simp [List.getD, hi]
  refine ⟨(List.range len).map q, ⟨_, rfl, (List.range (len * s)).map V, ⟨by simp, some a, cap, by rw [hxl], by omega, (fun h => by cases h), ?_⟩, ?_⟩, by rw [hxl]; unfold maxLen at hm; omega, fun i hi => ?_⟩
  ·intro a' ha i u hu
   obtain rfl := Option.some.inj ha
   have hi : i < len * s := by have := (List.getElem?_eq_some_iff.1 hu).1; simpa using this
   rw [cell_fhOf, hV i hi]
   rw [List.getElem?_map, List.getElem?_range hi] at hu
   exact hu
  ·intro i hi
   rw [hxl] at hi
   obtain ⟨cs', hl', hcell, hR, _⟩ := hq i hi
   refine ⟨cs', hl', ?_, by rw [hgd i hi]; exact hR⟩
   have hle : i * s + s ≤ len * s := by
    have : (i + 1) * s ≤ len * s := Nat.mul_le_mul_right s hi
    rwa [Nat.succ_mul] at this
   apply List.ext_getElem?
   intro r
   rcases Nat.lt_or_ge r s with hr | hr
   ·rw [List.getElem?_take, if_pos hr, List.getElem?_drop, List.getElem?_map, List.getElem?_range (by omega), ← hcell r hr, hV _ (by omega)]; rfl
   ·rw [List.getElem?_eq_none (by simp; omega), List.getElem?_eq_none (by omega)]
  ·rw [hxl] at hi
   obtain ⟨_, _, _, _, hB⟩ := hq i hi
   rw [hgd i hi]
   exact hB
theorem Opens.mono {α : Type} {R R' : FH → List Value → α → Prop} {B B' : α → Prop} (h : Opens P t R B) (hR : ∀ F cs a, R F cs a → R' F cs a) (hB : ∀ a, B a → B' a) : Opens P t R' B' := fun H enc w base spare held fuel cs x hx =>
 let ⟨a, h1, h2⟩ := h H enc w base spare held fuel cs x hx
 ⟨a, hR _ _ _ h1, hB _ h2⟩
theorem Opens.slv {α : Type} {R : FH → List Value → α → Prop} {B : α → Prop} (h : Opens P t R B) (ht : P.underlying t = some (.slice e)) {H : Type} {enc : TypeId × Value → H} {w : World} {r : Reach} {base b0 : Nat} {spare : Nat → Bool} {held : Bool} {v : Value} {d : DataW H} {ps : List MemPlace}
  (hv : Value.okWide P w r b0 t v) (ht' : DataW.Trod enc P w base spare held t v d ps) : ∃ a, R (fhOf w) [v] a ∧ B a := by
 obtain ⟨a, l, c, rfl⟩ := okWide_slice ht hv
 obtain ⟨n, hn⟩ := ht'
 exact h H enc w base spare held n _ _ hn
theorem Opens.agg {α : Type} {R : FH → List Value → α → Prop} {B : α → Prop} (h : Opens P t R B) {fs : Array Field} (ht : P.underlying t = some (.struct fs)) {H : Type} {enc : TypeId × Value → H} {w : World} {r : Reach} {base b0 : Nat} {spare : Nat → Bool} {held : Bool} {v : Value} {d : DataW H} {ps : List MemPlace}
  (hv : Value.okWide P w r b0 t v) (ht' : DataW.Trod enc P w base spare held t v d ps) : ∃ cs : List Value, v = .agg cs.toArray ∧ ∃ a, R (fhOf w) cs a ∧ B a := by
 obtain ⟨cs, rfl, _⟩ := okWide_struct ht hv
 obtain ⟨n, hn⟩ := ht'
 exact ⟨cs.toList, by simp, h H enc w base spare held n _ _ hn⟩
theorem Opens.int {k : IntKind} (ht : P.underlying t = some (.int k)) {H : Type} {enc : TypeId × Value → H} {w : World} {r : Reach} {base b0 : Nat} {spare : Nat → Bool} {held : Bool} {v : Value} {d : DataW H} {ps : List MemPlace}
  (hv : Value.okWide P w r b0 t v) (ht' : DataW.Trod enc P w base spare held t v d ps) : ∃ n, v = .int k n ∧ (Lit.int k n).wf = true := by
 obtain ⟨n, rfl, _, _, hw⟩ := open_int ht hv ht'
 exact ⟨n, rfl, hw⟩
theorem trodAll_below {H : Type} {enc : TypeId × Value → H} (hl : laidOutB P = true) {W W' : World} (hb : Below W.heap.size W W') {sp : Nat → Bool} :
  ∀ {ts : List TypeId} {vs : List Value} {ds : List (DataW H)} {ps : List MemPlace}, (ts.all fun t => P.readableRec t && decide (t < P.types.size)) = true → DataW.TrodAll enc P W 0 (fun _ => true) true ts vs ds ps →
   (∀ x ∈ ps, x.block < W.heap.size) → (∀ p ∈ ps, sp p.block = true) → DataW.TrodAll enc P W' 0 sp true ts vs ds ps
 | [], [], [], _, _, h, _, _ => h
 | [], _ :: _, _, _, _, h, _, _ => by cases h
 | [], [], _ :: _, _, _, h, _, _ => by cases h
 | _ :: _, [], _, _, _, h, _, _ => by cases h
 | _ :: _, _ :: _, [], _, _, h, _, _ => by cases h
 | t :: ts, v :: vs, d :: ds, ps, hr, h, hlt, hsp => by
  obtain ⟨p, q, h1, h2, rfl⟩ := h
  simp only [List.all_cons, Bool.and_eq_true, decide_eq_true_eq] at hr
  exact ⟨p, q, Go.WideElems.Trod_stays hl hr.1.1 hr.1.2 h1 (fun x hx => hb.same (hlt x (List.mem_append_left _ hx))) (fun x hx => hsp x (List.mem_append_left _ hx)),
   trodAll_below hl hb hr.2 h2 (fun x hx => hlt x (List.mem_append_right _ hx)) (fun x hx => hsp x (List.mem_append_right _ hx)), rfl⟩
theorem post_of_law {H : Type} {enc : TypeId × Value → H} {f : Func} {s : ChangeSpec} {apart fresh handsOn : Bool} {W W' : World} {args : Array Value} {ds gs : List (DataW H)} {before : List MemPlace} {tb : TypeId}
  (hs : s.vars = []) (hfn : s.fn H (ds ++ gs) = { results := [.lit (.bool true)], args := ds }) (hl : laidOutB P = true) (hr : (f.params.toList.all fun t => P.readableRec t && decide (t < P.types.size)) = true)
  (hres : f.resultTypes = #[tb]) (htb : P.underlying tb = some .bool) (hW : DataW.Whole enc P f.params.toList s.vars apart W args.toList ds gs before) (hb : Below W.heap.size W W') : s.post enc P f apart fresh handsOn false W args (.bool true) W' := by
 have hlt := hW.lt
 have hW' := hW
 obtain ⟨p, q, hA, hV, rfl, _, _⟩ := hW
 rw [hs] at hV
 obtain ⟨rfl, rfl⟩ := trodVars_none hV
 refine ⟨ds, [], p ++ [], [], p, [], hW', ?_, ?_, ?_, ?_, fun h => by cases h⟩
 ·rw [hfn, hres]
  exact trodAll_cons_mk (shut_bool htb _) trodAll_mk0
 ·rw [hfn]
  exact trodAll_below hl hb hr hA (fun x hx => hlt x (by simpa using hx)) (fun x hx => by simpa using hlt x (by simpa using hx))
 ·rw [hfn, hs]; rfl
 ·exact World.keptBut_mono (fun x hx => ⟨hx, .inr (.inl (by simpa using hx))⟩) (hb.frame (· ∈ p ++ []))
theorem Does.atTop {f : FuncId} {args : List Value} {W : World} (h : Does P f args (fhOf W) [] fun v _ _ => v = .bool true) : Calls P f args.toArray W fun e W' => e = .returned (.bool true) ∧ Below W.heap.size W W' :=
 (h W (holds_fhOf W)).mono fun _ _ ⟨_, _, _, he, le, H, hv⟩ => ⟨by rw [he, hv], below_of_holds le H⟩
end
section
variable {P : Program} {t e : TypeId}
end
open Go Go.ChangeShapes Go.WideShapes Go.ChangeAt
section
variable {P : Program} {t e : TypeId}
theorem opens_byte (ht : P.underlying e = some (.int .u8)) : Opens P e ByteE (fun _ => True) := by
 intro H enc w base spare held fuel cs x h
 obtain ⟨n, rfl, _, hw⟩ := DataW.trod_int ht h
 refine ⟨n, ⟨rfl, ?_⟩, trivial⟩
 simp [Lit.wf, IntKind.min, IntKind.max, IntKind.signed, IntKind.bits] at hw
 omega
theorem opens_bytes (ht : P.underlying t = some (.slice e)) (he : P.underlying e = some (.int .u8)) (hc : P.cellsOf e = 1) :
  Opens P t (fun F cs (xs : List Int) => ∃ v, cs = [v] ∧ BytesF F v xs) (fun xs => xs.length ≤ 9223372036854775807) :=
 (opens_slice 0 ht hc (opens_byte he)).mono (fun _ _ _ h => h) (fun _ h => h.1)
end
end Go.Proofs.Ytcdjpapjjoldeaa.X
