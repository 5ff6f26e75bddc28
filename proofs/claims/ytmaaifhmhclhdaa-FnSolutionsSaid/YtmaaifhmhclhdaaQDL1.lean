/-
  What the walks rest on (part 2).
-/
import Derived.Orders
import Derived.Tactics
import Derived.Below
import Derived.Laws.CopyRow
import Derived.Laws.AppendOwn
import Derived.IntWalk
import Derived.Lib.AppendZeros
import Derived.OrdersIn
import Derived.TacticsIn
import Derived.RangeFuncSeq
import Derived.RangeFuncRecord
import Derived.RangeFuncLeaves
import Derived.Scope
import Derived.Laws.Append
import Derived.WalkKit
import Derived.ProofKit
import Derived.OpenShut
import Derived.JoinedCond
import Derived.Carry
import Derived.Deep.Slices
import Derived.Test.YtmaaifhmhclhdaaQDL0
set_option linter.unusedSimpArgs false
set_option linter.unusedVariables false
namespace Go.Proofs.Ytmaaifhmhclhdaa.M
def Forest (ar l : List Int) (n : Nat) : Prop := endGo ar l n = some l.length
theorem endGo_more {ar : List Int} : ∀ {a b : List Int} {n e : Nat}, endGo ar a n = some e → endGo ar (a ++ b) n = some e
  | a, b, 0, e, h => by simp [endGo] at h; subst h; simp [endGo]
  | [], b, n + 1, e, h => by simp [endGo] at h
  | x :: a, b, n + 1, e, h => by
    simp only [endGo, List.cons_append] at h ⊢
    split at h
    · rename_i hx
      rw [if_pos hx]
      cases hr : endGo ar a (n + (arity ar x).toNat) with
      | none => rw [hr] at h; simp at h
      | some q => rw [hr] at h; rw [endGo_more hr]; exact h
    · cases h
theorem Forest.append {ar a b : List Int} {n m : Nat} (h : Forest ar a n) (k : Forest ar b m) : Forest ar (a ++ b) (n + m) := by
  unfold Forest at *
  have h1 := endGo_more (b := b) h
  have := endGo_join (m := m) (e2 := b.length) h1 (by rw [List.drop_left]; exact k)
  rw [this, List.length_append]
theorem Forest.cons {ar r : List Int} {x : Int} {n : Nat} (hx : x < ar.length) : Forest ar (x :: r) (n + 1) ↔ Forest ar r (n + (arity ar x).toNat) := by
  unfold Forest
  simp only [endGo, if_pos hx, List.length_cons]
  cases endGo ar r (n + (arity ar x).toNat) <;> simp
theorem Forest.lt {ar r : List Int} {x : Int} {n : Nat} (h : Forest ar (x :: r) n) : ∃ m, n = m + 1 ∧ x < ar.length := by
  unfold Forest at h
  cases n with
  | zero => simp [endGo] at h
  | succ m =>
    refine ⟨m, rfl, ?_⟩
    simp only [endGo] at h
    split at h
    · assumption
    · cases h
theorem arity_var {ar : List Int} {x : Int} (h : x < 0) : arity ar x = 0 := by simp [arity]; omega
theorem Forest.fill {ar : List Int} {s : RowL} (hs : ∀ x : Int, x < 0 → Forest ar (lk s x) 1) : ∀ (t : List Int) (n : Nat), Forest ar t n → Forest ar (t.flatMap (lk s)) n
  | [], n, h => h
  | x :: t, n, h => by
    obtain ⟨m, rfl, hx⟩ := h.lt
    have h1 := (Forest.cons hx).1 h
    rw [List.flatMap_cons]
    by_cases h0 : x < 0
    · rw [arity_var h0] at h1
      rw [Nat.add_comm]
      exact (hs x h0).append (Forest.fill hs t m (by simpa using h1))
    · rw [lk_sym (by omega)]
      exact (Forest.cons hx).2 (Forest.fill hs t _ h1)
theorem fillGo_flat {s : RowL} : ∀ (t acc u : List Int), fillGo s t acc = some u → u = acc ++ t.flatMap (lk s)
  | [], acc, u, h => by simp [fillGo] at h; simp [h]
  | n :: t, acc, u, h => by
    rw [fillGo] at h
    split at h
    · cases h
    · rw [fillGo_flat t _ u h, List.flatMap_cons, List.append_assoc]
theorem fillL_flat {s : RowL} {t u : List Int} (h : fillL s t = some u) : u = t.flatMap (lk s) := by
  have := fillGo_flat t [] u h
  simpa using this
def RowsOk (ar : List Int) (s : RowL) : Prop := ∀ i, s.getD i [] = [] ∨ termOk ar (s.getD i []) = true
theorem lk_forest {ar : List Int} {s : RowL} (h : RowsOk ar s) (hs : sigOk ar = true) (x : Int) (hx : x < 0) : Forest ar (lk s x) 1 := by
  unfold lk
  rw [if_neg (by omega)]
  split
  · have : Forest ar [x] (0 + 1) := (Forest.cons (by have := sigOk_spec hs; omega)).2 (by rw [arity_var hx]; rfl)
    exact this
  · rename_i e
    exact (termOk_iff.1 ((h (varIx x)).resolve_left e)).whole
theorem lk_ge {ar : List Int} {s : RowL} (h : RowsOk ar s) {x : Int} (hx : -24 ≤ x) : ∀ y ∈ lk s x, -24 ≤ y := by
  intro y hy
  unfold lk at hy
  split at hy
  · simp at hy; omega
  · split at hy
    · simp at hy; omega
    · rename_i e; exact (termOk_iff.1 ((h (varIx x)).resolve_left e)).ge y hy
theorem fill_ok {ar : List Int} {s : RowL} {t u : List Int} (h : RowsOk ar s) (ht : termOk ar t = true) (hu : fillL s t = some u) : termOk ar u = true := by
  have hT := termOk_iff.1 ht
  have hl := fillL_len hu
  have hf := Forest.fill (lk_forest h hT.sig) t 1 hT.whole
  rw [← fillL_flat hu] at hf
  refine termOk_iff.2 ⟨hT.sig, by have := hT.pos; omega, hl.1, ?_, hf⟩
  rw [fillL_flat hu]
  intro y hy
  obtain ⟨x, hx, hy⟩ := List.mem_flatMap.1 hy
  exact lk_ge h (hT.ge x hx) y hy
theorem mGo_ok {ar t : List Int} (ht : termOk ar t = true) : ∀ (p : List Int) (i : Nat) (b r : RowL), mGo ar t p i b = some r → RowsOk ar b → RowsOk ar r
  | [], i, b, r, h, hb => by simp [mGo] at h; subst h; exact hb
  | n :: p, i, b, r, h, hb => by
    rw [mGo] at h
    split at h
    · cases h
    · rename_i hi
      split at h
      · split at h
        · exact mGo_ok ht p _ _ _ h hb
        · cases h
      · split at h
        · refine mGo_ok ht p _ _ _ h (fun k => ?_)
          by_cases e : varIx n = k
          · subst e
            rcases Nat.lt_or_ge (varIx n) b.length with hl | hl
            · have : (b.set (varIx n) (sub ar t i)).getD (varIx n) [] = sub ar t i := by simp [List.getD_eq_getElem?_getD, hl]
              rw [this]; exact .inr (sub_ok ht (by omega))
            · rw [List.set_eq_of_length_le hl]; exact hb _
          · rw [List.getD_eq_getElem?_getD, List.getElem?_set_ne e, ← List.getD_eq_getElem?_getD]; exact hb k
        · split at h
          · exact mGo_ok ht p _ _ _ h hb
          · cases h
theorem matchB_ok {ar p t : List Int} {b : RowL} (ht : termOk ar t = true) (h : matchB ar p t = some b) : RowsOk ar b := by
  refine mGo_ok ht p 0 _ b h (fun k => .inl ?_)
  rw [List.getD_eq_getElem?_getD, List.getElem?_replicate]
  split <;> rfl
theorem Forest.swap {ar S U B : List Int} (hS : Forest ar S 1) (hU : Forest ar U 1) (hp : S ≠ []) : ∀ (A : List Int) (n : Nat), Forest ar (A ++ S ++ B) n → Forest ar (A ++ U ++ B) n
  | [], n, h => by
    simp only [List.nil_append] at h ⊢
    cases S with
    | nil => exact absurd rfl hp
    | cons x S =>
      obtain ⟨m, rfl, _⟩ := Forest.lt h
      unfold Forest at h
      rw [Nat.add_comm] at h
      obtain ⟨e1, e2, h1, h2, h3⟩ := endGo_split h
      have h4 := endGo_more (b := B) hS
      rw [h4] at h1
      cases h1
      rw [List.drop_left] at h2
      have hB : Forest ar B m := by
        unfold Forest
        rw [h2]
        rw [List.length_append] at h3
        congr 1; omega
      rw [Nat.add_comm]
      exact hU.append hB
  | x :: A, n, h => by
    obtain ⟨m, rfl, hx⟩ := Forest.lt h
    exact (Forest.cons hx).2 (Forest.swap hS hU hp A _ ((Forest.cons hx).1 h))
theorem parts {ar t : List Int} {p : Nat} (ht : termOk ar t = true) (hp : p < t.length) : t = t.take p ++ sub ar t p ++ t.drop (endN ar t p) := by
  have he := endN_spec ht hp
  have : sub ar t p ++ t.drop (endN ar t p) = t.drop p := by
    unfold sub
    have e : t.drop (endN ar t p) = (t.drop p).drop (endN ar t p - p) := by rw [List.drop_drop]; congr 1; omega
    rw [e, List.take_append_drop]
  rw [List.append_assoc, this, List.take_append_drop]
theorem put_ok {ar t u v : List Int} {p : Nat} (ht : termOk ar t = true) (hp : p < t.length) (hu : termOk ar u = true) (h : putL ar t p u = some v) : termOk ar v = true := by
  unfold putL at h
  split at h
  · cases h
  · rename_i hl
    cases h
    have hT := termOk_iff.1 ht
    have hU := termOk_iff.1 hu
    refine termOk_iff.2 ⟨hT.sig, by have := hU.pos; simp; omega, by omega, ?_, ?_⟩
    · intro x hx
      simp only [List.mem_append] at hx
      rcases hx with (hx | hx) | hx
      · exact hT.ge x (List.mem_of_mem_take hx)
      · exact hU.ge x hx
      · exact hT.ge x (List.mem_of_mem_drop hx)
    · have h1 : Forest ar (t.take p ++ sub ar t p ++ t.drop (endN ar t p)) 1 := by rw [← parts ht hp]; exact hT.whole
      exact Forest.swap (termOk_iff.1 (sub_ok ht hp)).whole hU.whole (sub_ne ht hp) _ _ h1
theorem stepL_ok {ar : List Int} {rs : Rules} {t u : List Int} {p r : Nat} (hs : sysOk ar rs = true) (ht : termOk ar t = true) (hp : p < t.length) (hr : r < rs.length) (h : stepL ar rs t p r = some u) : termOk ar u = true := by
  have hR := ruleOk_iff.1 ((sysOk_iff.1 hs).2.2 r hr)
  unfold stepL at h
  split at h
  · cases h
  · rename_i b hb
    split at h
    · cases h
    · rename_i w hw
      exact put_ok ht hp (fill_ok (matchB_ok (sub_ok ht hp) hb) hR.right hw) h
def walkGo (ar : List Int) (rs : Rules) (st : Int) : Nat → List Int → List (Int × Int × List Int) × Bool
  | 0, t => ([], decide (redL ar rs t = []))
  | n + 1, t => if redL ar rs t = [] then ([], true) else
    match stepL ar rs t (pickL ar rs t st).toNat (ruleAtL ar rs t (pickL ar rs t st).toNat).toNat with
    | none => ([], false)
    | some u => ((pickL ar rs t st, ruleAtL ar rs t (pickL ar rs t st).toNat, u) :: (walkGo ar rs st n u).1, (walkGo ar rs st n u).2)
section
variable {ar : List Int} {rs : Rules} {t u : List Int} {st : Int} {m : Nat}
theorem pick_neg (h : pickL ar rs t st < 0) : redL ar rs t = [] := by
  rcases pick_spec (ar := ar) (rs := rs) (t := t) st with h1 | ⟨q, hq, _⟩
  · exact h1.2
  · omega
theorem walk_nil (h : redL ar rs t = []) : walkGo ar rs st m t = ([], true) := by
  cases m with
  | zero => simp [walkGo, h]
  | succ m => rw [walkGo, if_pos h]
theorem walk_zero (hm : m = 0) (h : redL ar rs t ≠ []) : walkGo ar rs st m t = ([], false) := by
  subst hm; simp [walkGo, h]
theorem walk_stuck (hm : 0 < m) (h : redL ar rs t ≠ []) (hu : (stepL ar rs t (pickL ar rs t st).toNat (ruleAtL ar rs t (pickL ar rs t st).toNat).toNat).isSome = false) : walkGo ar rs st m t = ([], false) := by
  obtain ⟨k, rfl⟩ : ∃ k, m = k + 1 := ⟨m - 1, by omega⟩
  rw [walkGo, if_neg h]
  cases hx : stepL ar rs t (pickL ar rs t st).toNat (ruleAtL ar rs t (pickL ar rs t st).toNat).toNat with
  | none => rfl
  | some v => rw [hx] at hu; cases hu
theorem walk_next (hm : 0 < m) (h : redL ar rs t ≠ []) (hu : stepL ar rs t (pickL ar rs t st).toNat (ruleAtL ar rs t (pickL ar rs t st).toNat).toNat = some u) :
    walkGo ar rs st m t = ((pickL ar rs t st, ruleAtL ar rs t (pickL ar rs t st).toNat, u) :: (walkGo ar rs st (m - 1) u).1, (walkGo ar rs st (m - 1) u).2) := by
  obtain ⟨k, rfl⟩ : ∃ k, m = k + 1 := ⟨m - 1, by omega⟩
  rw [walkGo, if_neg h, hu]
  rfl
def wOk (ar : List Int) (rs : Rules) (t : List Int) (st n : Int) : Bool := (rightB ar rs t && decide (1 ≤ st ∧ st ≤ 3)) && decide (0 ≤ n ∧ n ≤ 60)
def walkB (ar : List Int) (rs : Rules) (t : List Int) (st n : Int) : List Int × List (Int × Int × List Int) × Bool :=
  if wOk ar rs t st n = true then (t, walkGo ar rs st n.toNat t) else ([], [], false)
theorem walkB_no {n : Int} (h : wOk ar rs t st n = false) : walkB ar rs t st n = ([], [], false) := by rw [walkB, if_neg (by rw [h]; simp)]
theorem walkB_yes {n : Int} (h : wOk ar rs t st n = true) : walkB ar rs t st n = (t, walkGo ar rs st n.toNat t) := by rw [walkB, if_pos h]
theorem walkGo_len : ∀ (m : Nat) (t : List Int), (walkGo ar rs st m t).1.length ≤ m
  | 0, t => by simp [walkGo]
  | m + 1, t => by
    rw [walkGo]
    split
    · simp
    · split
      · simp
      · rename_i u _
        have := walkGo_len m u
        simp; omega
theorem walkB_len {n : Int} : (walkB ar rs t st n).2.1.length ≤ 60 := by
  unfold walkB
  split
  · rename_i h
    have := walkGo_len (ar := ar) (rs := rs) (st := st) n.toNat t
    simp only [wOk, Bool.and_eq_true, decide_eq_true_eq] at h
    simp only
    omega
  · simp
end
end Go.Proofs.Ytmaaifhmhclhdaa.M
set_option linter.unusedSimpArgs false
set_option linter.unusedVariables false
namespace Go.Proofs.Ytmaaifhmhclhdaa.M
section
variable {ar : List Int} {rs : Rules} {t : List Int} {p k j : Nat}
def cntR (ar : List Int) (rs : Rules) (t : List Int) (p k : Nat) : Nat := ((List.range k).filter (isRedex ar rs t p)).length
def cntP (ar : List Int) (rs : Rules) (t : List Int) (k : Nat) : Nat := ((List.range k).map (fun p => cntR ar rs t p rs.length)).sum
theorem cntR_yes {m : Nat} (h : isRedex ar rs t p k = true) : m + cntR ar rs t p k + 1 = m + cntR ar rs t p (k + 1) := by
  simp [cntR, List.range_succ, h]; omega
theorem cntR_no {m : Nat} (h : isRedex ar rs t p k = false) : m + cntR ar rs t p k = m + cntR ar rs t p (k + 1) := by
  simp [cntR, List.range_succ, h]
theorem cntR_le : cntR ar rs t p k ≤ k := by
  have := List.length_filter_le (isRedex ar rs t p) (List.range k)
  rwa [List.length_range] at this
theorem cntP_succ (h : j = rs.length) : cntP ar rs t k + cntR ar rs t k j = cntP ar rs t (k + 1) := by
  subst h; simp [cntP, List.range_succ]
theorem cntP_le (h : rs.length ≤ 12) : ∀ k, cntP ar rs t k ≤ k * 12
  | 0 => by simp [cntP]
  | k + 1 => by
    rw [← cntP_succ rfl]
    have := cntP_le h k
    have := cntR_le (ar := ar) (rs := rs) (t := t) (p := k) (k := rs.length)
    omega
theorem ruleAtGo_none : ∀ (n r : Nat), ruleAtGo ar rs t p n r = -1 → ∀ k, r ≤ k → k < r + n → isRedex ar rs t p k = false
  | 0, r, _, k, h1, h2 => by omega
  | n + 1, r, h, k, h1, h2 => by
    rw [ruleAtGo] at h
    split at h
    · omega
    · rename_i hr
      rcases Nat.lt_or_ge r k with h3 | h3
      · exact ruleAtGo_none n (r + 1) h k (by omega) (by omega)
      · obtain rfl : k = r := by omega
        simpa using hr
theorem cntR_zero : cntR ar rs t p rs.length = 0 ↔ ruleAtL ar rs t p < 0 := by
  unfold cntR
  rw [List.length_eq_zero_iff, List.filter_eq_nil_iff]
  simp only [List.mem_range]
  constructor
  · intro h
    rcases ruleAt_spec (ar := ar) (rs := rs) (t := t) (p := p) with h1 | ⟨k, h1, h2, h3⟩
    · omega
    · exact absurd h3 (h k h2)
  · intro h k hk
    have h1 : ruleAtL ar rs t p = -1 := by
      rcases ruleAt_spec (ar := ar) (rs := rs) (t := t) (p := p) with h1 | ⟨k, h1, _, _⟩
      · exact h1
      · omega
    rw [ruleAtGo_none rs.length 0 h1 k (by omega) (by omega)]
    simp
theorem cntP_zero : ∀ k, cntP ar rs t k = 0 ↔ ∀ p, p < k → ruleAtL ar rs t p < 0
  | 0 => by simp [cntP]
  | k + 1 => by
    rw [← cntP_succ rfl]
    have ih := cntP_zero k
    have hz := cntR_zero (ar := ar) (rs := rs) (t := t) (p := k)
    constructor
    · intro h p hp
      rcases Nat.lt_or_ge p k with h1 | h1
      · exact ih.1 (by omega) p h1
      · obtain rfl : p = k := by omega
        exact hz.1 (by omega)
    · intro h
      have h1 := ih.2 (fun p hp => h p (by omega))
      have h2 := hz.2 (h k (by omega))
      omega
theorem normal_cnt : normalL ar rs t = decide (cntP ar rs t t.length = 0) := by
  unfold normalL
  exact decide_eq_decide.2 (redL_nil.trans (cntP_zero t.length).symm)
end
end Go.Proofs.Ytmaaifhmhclhdaa.M
set_option linter.unusedSimpArgs false
set_option linter.unusedVariables false
namespace Go.Proofs.Ytmaaifhmhclhdaa.M
end Go.Proofs.Ytmaaifhmhclhdaa.M
set_option linter.unusedSimpArgs false
set_option linter.unusedVariables false
namespace Go.Proofs.Ytmaaifhmhclhdaa.M
abbrev StepL := Int × Int × List Int
def stepAtOk (ar : List Int) (rs : Rules) (t : List Int) (p r : Int) : Bool := rightB ar rs t && decide (0 ≤ p ∧ p < (t.length : Int)) && decide (0 ≤ r ∧ r < (rs.length : Int))
def stepAtL (ar : List Int) (rs : Rules) (t : List Int) (p r : Int) : Option (List Int) := if stepAtOk ar rs t p r = true then stepL ar rs t p.toNat r.toNat else none
def goOk (ar : List Int) (rs : Rules) : List Int → List StepL → Bool
  | _, [] => true
  | t, s :: ss => decide (stepAtL ar rs t s.1 s.2.1 = some s.2.2) && goOk ar rs s.2.2 ss
def endL (f : List Int) (ss : List StepL) : List Int := if ss.length = 0 then f else (ss.getD (ss.length - 1) (0, 0, [])).2.2
def walkOkL (ar : List Int) (rs : Rules) (f : List Int) (ss : List StepL) : Bool := rightB ar rs f && decide (ss.length ≤ 60) && goOk ar rs f ss
variable {ar : List Int} {rs : Rules} {t f : List Int} {ss : List StepL}
theorem walkOkL_iff : walkOkL ar rs f ss = true ↔ rightB ar rs f = true ∧ ss.length ≤ 60 ∧ goOk ar rs f ss = true := by simp [walkOkL, and_assoc]
theorem stepAtL_ok {p r : Int} {u : List Int} (h : stepAtL ar rs t p r = some u) : rightB ar rs u = true ∧ stepAtOk ar rs t p r = true := by
  unfold stepAtL at h
  split at h
  · rename_i hk
    have hk' := hk
    simp only [stepAtOk, Bool.and_eq_true, decide_eq_true_eq] at hk
    obtain ⟨⟨h1, h2⟩, h3⟩ := hk
    have hs := (right_iff.1 h1).1
    exact ⟨right_iff.2 ⟨hs, stepL_ok hs (right_iff.1 h1).2 (by omega) (by omega) h⟩, hk'⟩
  · cases h
def nowL (f : List Int) (ss : List StepL) (k : Nat) : List Int := endL f (ss.take k)
theorem nowL_zero : nowL f ss 0 = f := by simp [nowL, endL]
theorem nowL_succ {k : Nat} (h : k < ss.length) : nowL f ss (k + 1) = (ss.getD k (0, 0, [])).2.2 := by
  have hl : (ss.take (k + 1)).length = k + 1 := by rw [List.length_take]; omega
  unfold nowL endL
  rw [hl, if_neg (by omega)]
  congr 2
  simp [List.getD, h]
theorem goOk_drop {k : Nat} (h : k < ss.length) : goOk ar rs t (ss.drop k) = (decide (stepAtL ar rs t (ss.getD k (0, 0, [])).1 (ss.getD k (0, 0, [])).2.1 = some (ss.getD k (0, 0, [])).2.2) && goOk ar rs (ss.getD k (0, 0, [])).2.2 (ss.drop (k + 1))) := by
  rw [drop_get (0, 0, []) h]; rfl
theorem goOk_now (h : goOk ar rs f ss = true) (hr : rightB ar rs f = true) : ∀ k, k ≤ ss.length → rightB ar rs (nowL f ss k) = true ∧ goOk ar rs (nowL f ss k) (ss.drop k) = true
  | 0, _ => by rw [nowL_zero]; exact ⟨hr, h⟩
  | k + 1, hk => by
    obtain ⟨h1, h2⟩ := goOk_now h hr k (by omega)
    rw [goOk_drop (by omega), Bool.and_eq_true, decide_eq_true_eq] at h2
    rw [nowL_succ (by omega)]
    exact ⟨(stepAtL_ok h2.1).1, h2.2⟩
theorem walkOk_step (h : walkOkL ar rs f ss = true) {k : Nat} (hk : k < ss.length) : stepAtL ar rs (nowL f ss k) (ss.getD k (0, 0, [])).1 (ss.getD k (0, 0, [])).2.1 = some (ss.getD k (0, 0, [])).2.2 := by
  obtain ⟨h1, _, h3⟩ := walkOkL_iff.1 h
  have := (goOk_now h3 h1 k (by omega)).2
  rw [goOk_drop hk, Bool.and_eq_true, decide_eq_true_eq] at this
  exact this.1
theorem walkOk_to (h : walkOkL ar rs f ss = true) {k : Nat} (hk : k < ss.length) : termOk ar (ss.getD k (0, 0, [])).2.2 = true := (right_iff.1 (stepAtL_ok (walkOk_step h hk)).1).2
end Go.Proofs.Ytmaaifhmhclhdaa.M
set_option linter.unusedSimpArgs false
set_option linter.unusedVariables false
namespace Go.Proofs.Ytmaaifhmhclhdaa.M
section
variable {α : Type} {f : α → Nat} {l : List α} {k : Nat}
end
section
variable {ar : List Int} {rs : Rules} {t u f : List Int} {ss : List StepL} {st : Int} {m k : Nat}
theorem stepAt_of {p r : Nat} (hr : rightB ar rs t = true) (hp : p < t.length) (hrl : r < rs.length) : stepAtL ar rs t p r = stepL ar rs t p r := by
  rw [stepAtL, if_pos (by simp [stepAtOk, hr, hp, hrl])]; rfl
theorem walkGo_ok : ∀ (m : Nat) (t : List Int), rightB ar rs t = true → goOk ar rs t (walkGo ar rs st m t).1 = true ∧ rightB ar rs (endL t (walkGo ar rs st m t).1) = true ∧ ((walkGo ar rs st m t).2 = true → redL ar rs (endL t (walkGo ar rs st m t).1) = [])
  | 0, t, hr => ⟨rfl, by simpa [walkGo, endL] using hr, fun h => by simpa [walkGo, endL] using h⟩
  | m + 1, t, hr => by
    by_cases he : redL ar rs t = []
    · rw [walk_nil he]; exact ⟨rfl, by simpa [endL] using hr, fun _ => by simpa [endL] using he⟩
    · cases hu : stepL ar rs t (pickL ar rs t st).toNat (ruleAtL ar rs t (pickL ar rs t st).toNat).toNat with
      | none => rw [walk_stuck (by omega) he (by rw [hu]; rfl)]; exact ⟨rfl, by simpa [endL] using hr, fun h => by cases h⟩
      | some u =>
        obtain ⟨q, hq1, hq2, hq3, _⟩ := (pick_spec (ar := ar) (rs := rs) (t := t) st).resolve_left (fun h => he h.2)
        have hqn : (pickL ar rs t st).toNat = q := by omega
        have hrr : 0 ≤ ruleAtL ar rs t (pickL ar rs t st).toNat := by rw [hqn]; simpa [hasR] using hq3
        obtain ⟨j, hj1, hj2, _⟩ := (ruleAt_spec (ar := ar) (rs := rs) (t := t) (p := (pickL ar rs t st).toNat)).resolve_left (by omega)
        have hjn : (ruleAtL ar rs t (pickL ar rs t st).toNat).toNat = j := by omega
        have hs := (right_iff.1 hr).1
        have huo : rightB ar rs u = true := right_iff.2 ⟨hs, stepL_ok hs (right_iff.1 hr).2 (by omega) (by omega) hu⟩
        have e : stepAtL ar rs t (pickL ar rs t st) (ruleAtL ar rs t (pickL ar rs t st).toNat) = some u := by
          rw [hj1, hq1, stepAt_of hr hq2 hj2, ← hu, hjn, hqn]
        obtain ⟨h1, h2, h3⟩ := walkGo_ok m u huo
        rw [walk_next (by omega) he hu, Nat.add_sub_cancel]
        have e2 : endL t ((pickL ar rs t st, ruleAtL ar rs t (pickL ar rs t st).toNat, u) :: (walkGo ar rs st m u).1) = endL u (walkGo ar rs st m u).1 := by
          unfold endL
          cases (walkGo ar rs st m u).1 with
          | nil => rfl
          | cons a l => simp
        refine ⟨?_, by rw [e2]; exact h2, fun h => by rw [e2]; exact h3 h⟩
        show (decide (stepAtL ar rs t _ _ = some u) && goOk ar rs u _) = true
        rw [decide_eq_true e, h1]; rfl
def normB (ar : List Int) (rs : Rules) (t : List Int) (st n : Int) : List Int × Bool := if (walkB ar rs t st n).2.2 = true then (endL (walkB ar rs t st n).1 (walkB ar rs t st n).2.1, true) else ([], false)
theorem walkB_ok {n : Int} (h : (walkB ar rs t st n).2.2 = true) : wOk ar rs t st n = true ∧ (walkB ar rs t st n).1 = t ∧ walkOkL ar rs t (walkB ar rs t st n).2.1 = true ∧ termOk ar (endL t (walkB ar rs t st n).2.1) = true := by
  cases hw : wOk ar rs t st n with
  | false => rw [walkB_no hw] at h; cases h
  | true =>
    have hr : rightB ar rs t = true := by simp only [wOk, Bool.and_eq_true] at hw; exact hw.1.1
    have hl := walkB_len (ar := ar) (rs := rs) (t := t) (st := st) (n := n)
    rw [walkB_yes hw] at h hl ⊢
    obtain ⟨h1, h2, h3⟩ := walkGo_ok (st := st) n.toNat t hr
    exact ⟨rfl, rfl, walkOkL_iff.2 ⟨hr, hl, h1⟩, (right_iff.1 h2).2⟩
theorem normB_len {n : Int} : (normB ar rs t st n).1.length ≤ 60 := by
  unfold normB
  split
  · rename_i h
    obtain ⟨_, h2, _, h4⟩ := walkB_ok h
    rw [h2]; exact (termOk_len h4).2
  · simp
end
end Go.Proofs.Ytmaaifhmhclhdaa.M
set_option linter.unusedSimpArgs false
set_option linter.unusedVariables false
namespace Go.Proofs.Ytmaaifhmhclhdaa.M
section
variable {ar : List Int} {rs : Rules} {a b t : List Int} {ts : RowL} {n : Int} {m k : Nat}
def badIx (ar : List Int) (ts : RowL) : Int := match ts.findIdx? (fun t => !termOk ar t) with | some i => i | none => -1
theorem badIx_at (hk : k < ts.length) (h : termOk ar (ts.getD k []) = false) (hall : ∀ i, i < k → termOk ar (ts.getD i []) = true) : badIx ar ts = k := by
  unfold badIx
  have : ts.findIdx? (fun t => !termOk ar t) = some k := by
    rw [List.findIdx?_eq_some_iff_getElem]
    refine ⟨hk, by simpa [List.getD, hk] using h, fun j hj => ?_⟩
    have := hall j hj
    simpa [List.getD, Nat.lt_trans hj hk] using this
  rw [this]
theorem badIx_none (hall : ∀ i, i < ts.length → termOk ar (ts.getD i []) = true) : badIx ar ts = -1 := by
  unfold badIx
  have : ts.findIdx? (fun t => !termOk ar t) = none := by
    rw [List.findIdx?_eq_none_iff]
    intro x hx
    obtain ⟨i, hi, rfl⟩ := List.getElem_of_mem hx
    simpa [List.getD, hi] using hall i hi
  rw [this]
theorem badIx_iff : (badIx ar ts ≥ 0) ↔ ts.all (termOk ar) = false := by
  unfold badIx
  cases h : ts.findIdx? (fun t => !termOk ar t) with
  | none =>
    rw [List.findIdx?_eq_none_iff] at h
    have : ts.all (termOk ar) = true := List.all_eq_true.2 fun x hx => by simpa using h x hx
    simp [this]
  | some i =>
    rw [List.findIdx?_eq_some_iff_getElem] at h
    obtain ⟨hi, h1, _⟩ := h
    have : ts.all (termOk ar) = false := by
      rw [List.all_eq_false]
      exact ⟨_, List.getElem_mem hi, by simpa using h1⟩
    simp [this]
def eqN (ar : List Int) (rs : Rules) (a b : List Int) (m : Nat) : Int :=
  if (walkGo ar rs 1 m a).2 = true ∧ (walkGo ar rs 1 m b).2 = true then (if endL a (walkGo ar rs 1 m a).1 = endL b (walkGo ar rs 1 m b).1 then 1 else 0) else -1
def eqB (ar : List Int) (rs : Rules) (a b : List Int) (n : Int) : Int := if (rightB ar rs a = true ∧ rightB ar rs b = true) ∧ 0 ≤ n ∧ n ≤ 60 then eqN ar rs a b n.toNat else -1
def wordOkL (ar : List Int) (rs : Rules) (n : Int) (ts : RowL) : Bool := sysOk ar rs && decide (0 ≤ n ∧ n ≤ 60) && ts.all (termOk ar)
theorem normB_right (h : rightB ar rs a = true) (hn : 0 ≤ n ∧ n ≤ 60) : normB ar rs a 1 n = if (walkGo ar rs 1 n.toNat a).2 = true then (endL a (walkGo ar rs 1 n.toNat a).1, true) else ([], false) := by
  have hw : wOk ar rs a 1 n = true := by simp [wOk, h, hn]
  rw [normB, walkB_yes hw]
theorem eqFin (ha : rightB ar rs a = true) (hb : rightB ar rs b = true) (hn : 0 ≤ n ∧ n ≤ 60) (h1 : (normB ar rs a 1 n).2 = true) (h2 : (normB ar rs b 1 n).2 = true) :
    eqB ar rs a b n = if decide ((normB ar rs a 1 n).1 = (normB ar rs b 1 n).1) = true then 1 else 0 := by
  rw [eqB, if_pos ⟨⟨ha, hb⟩, hn⟩, eqN]
  rw [normB_right ha hn] at *
  rw [normB_right hb hn] at *
  split at h1
  · split at h2
    · rename_i g1 g2
      rw [if_pos ⟨g1, g2⟩, if_pos g1, if_pos g2]
      simp
    · cases h2
  · cases h1
end
end Go.Proofs.Ytmaaifhmhclhdaa.M
set_option linter.unusedSimpArgs false
set_option linter.unusedVariables false
namespace Go.Proofs.Ytmaaifhmhclhdaa.X
open Go
theorem FzC.rdN {F : FH} {L : List HP} {b o : Nat} {cs vs : List Value} (h : FzC F b cs) (hv : (cs.drop o).take vs.length = vs) : ∀ i u, vs[i]? = some u → Rd F L ((⟨b, o, none⟩ : Addr).add i) u := by
  intro i u hu
  rw [add_lit]
  refine Rd.fz (h (o + i) u ?_)
  rw [← hv, List.getElem?_take] at hu
  split at hu
  · rwa [List.getElem?_drop] at hu
  · cases hu
end Go.Proofs.Ytmaaifhmhclhdaa.X
set_option linter.unusedSimpArgs false
set_option linter.unusedVariables false
namespace Go.Proofs.Ytmaaifhmhclhdaa.M
section
variable {α : Type} {q : α → Bool} {l : List α} {d : α} {k : Nat}
theorem all_getD_iff (d : α) : l.all q = true ↔ ∀ i, i < l.length → q (l.getD i d) = true := by
  rw [List.all_eq_true]
  refine ⟨fun h i hi => h _ (by simp [List.getD, hi]), fun h x hx => ?_⟩
  obtain ⟨i, hi, rfl⟩ := List.getElem_of_mem hx
  simpa [List.getD, hi] using h i hi
theorem all_fail (d : α) (hk : k < l.length) (h : q (l.getD k d) = false) : l.all q = false := by
  cases hx : l.all q with
  | false => rfl
  | true => have := (all_getD_iff d).1 hx k hk; rw [h] at this; cases this
end
section
variable {ar : List Int} {rs es : Rules} {a b : List Int} {n : Int} {m k : Nat}
theorem eqB_eqN (ha : rightB ar rs a = true) (hb : rightB ar rs b = true) (hn : 0 ≤ n ∧ n ≤ 60) : eqB ar rs a b n = eqN ar rs a b n.toNat := by rw [eqB, if_pos ⟨⟨ha, hb⟩, hn⟩]
end
end Go.Proofs.Ytmaaifhmhclhdaa.M
set_option linter.unusedSimpArgs false
set_option linter.unusedVariables false
namespace Go.Proofs.Ytmaaifhmhclhdaa.M
section
variable {ar : List Int} {rs : Rules} {a b t : List Int} {ts : RowL} {n : Int} {k : Nat}
def sol1 (ar : List Int) (rs : Rules) (a b t : List Int) (n : Int) : Bool := (fillL [t] a).isSome && (fillL [t] b).isSome && decide (eqN ar rs ((fillL [t] a).getD []) ((fillL [t] b).getD []) n.toNat = 1)
def solTo (ar : List Int) (rs : Rules) (a b : List Int) (ts : RowL) (n : Int) (k : Nat) : List Int := ((List.range k).filter fun i => sol1 ar rs a b (ts.getD i []) n).map fun i : Nat => (i : Int)
def solOk (ar : List Int) (rs : Rules) (a b : List Int) (ts : RowL) (n : Int) : Bool := sysOk ar rs && decide (0 ≤ n ∧ n ≤ 60) && termOk ar a && termOk ar b && ts.all (termOk ar) && decide (ts.length ≤ 16)
def solL (ar : List Int) (rs : Rules) (a b : List Int) (ts : RowL) (n : Int) : List Int := if solOk ar rs a b ts n = true then solTo ar rs a b ts n ts.length else []
theorem solTo_yes (h : sol1 ar rs a b (ts.getD k []) n = true) : solTo ar rs a b ts n (k + 1) = solTo ar rs a b ts n k ++ [(k : Int)] := by
  unfold solTo; rw [List.range_succ, List.filter_append, List.map_append, List.filter_cons, if_pos h]; rfl
theorem solTo_no (h : sol1 ar rs a b (ts.getD k []) n = false) : solTo ar rs a b ts n (k + 1) = solTo ar rs a b ts n k := by
  unfold solTo; rw [List.range_succ, List.filter_append, List.map_append, List.filter_cons, if_neg (by rw [h]; simp)]; simp
theorem solTo_len : (solTo ar rs a b ts n k).length ≤ k := by
  unfold solTo; rw [List.length_map]
  exact Nat.le_trans (List.length_filter_le _ _) (by simp)
theorem solL_len : (solL ar rs a b ts n).length ≤ 16 := by
  unfold solL; split
  · rename_i h
    have := solTo_len (ar := ar) (rs := rs) (a := a) (b := b) (ts := ts) (n := n) (k := ts.length)
    simp [solOk] at h
    omega
  · simp
theorem solOk_iff : solOk ar rs a b ts n = true ↔ sysOk ar rs = true ∧ (0 ≤ n ∧ n ≤ 60) ∧ termOk ar a = true ∧ termOk ar b = true ∧ ts.all (termOk ar) = true ∧ ts.length ≤ 16 := by simp [solOk, and_assoc]
def allOk (ar : List Int) (rs : Rules) (ts : RowL) (n : Int) : Bool := sysOk ar rs && decide (0 ≤ n ∧ n ≤ 60) && decide (ts.length ≤ 16) && ts.all (termOk ar)
theorem allOk_iff : allOk ar rs ts n = true ↔ sysOk ar rs = true ∧ (0 ≤ n ∧ n ≤ 60) ∧ ts.all (termOk ar) = true ∧ ts.length ≤ 16 := by
  simp only [allOk, Bool.and_eq_true, decide_eq_true_eq]
  exact ⟨fun h => ⟨h.1.1.1, h.1.1.2, h.2, h.1.2⟩, fun h => ⟨⟨⟨h.1, h.2.1⟩, h.2.2.2⟩, h.2.2.1⟩⟩
theorem solL_no (h : ¬ solOk ar rs a b ts n = true) : solL ar rs a b ts n = [] := by unfold solL; rw [if_neg h]
theorem solL_no1 (h : ¬ ts.length ≤ 16) : solL ar rs a b ts n = [] := solL_no (fun e => h (solOk_iff.1 e).2.2.2.2.2)
theorem solL_no2 (h : wordOkL ar rs n [a, b] = false) : solL ar rs a b ts n = [] := solL_no (fun e => by
  obtain ⟨h1, h2, h3, h4, _⟩ := solOk_iff.1 e
  simp [wordOkL, h1, h2, h3, h4] at h)
theorem solL_no3 (h : wordOkL ar rs n ts = false) : solL ar rs a b ts n = [] := solL_no (fun e => by
  obtain ⟨h1, h2, h3, h4, h5, _⟩ := solOk_iff.1 e
  rw [wordOkL, h1, h5, decide_eq_true h2] at h; cases h)
theorem solL_no4 (h : allOk ar rs ts n = false) : solL ar rs a b ts n = [] := solL_no (fun e => by
  obtain ⟨h1, h2, h3, h4, h5, h6⟩ := solOk_iff.1 e
  rw [allOk, h1, h5, decide_eq_true h2, decide_eq_true h6] at h; cases h)
theorem solL_no5 (h : termOk ar a = false) : solL ar rs a b ts n = [] := solL_no (fun e => by
  rw [(solOk_iff.1 e).2.2.1] at h; cases h)
theorem solL_no6 (h : termOk ar b = false) : solL ar rs a b ts n = [] := solL_no (fun e => by
  rw [(solOk_iff.1 e).2.2.2.1] at h; cases h)
theorem rows1 (h : termOk ar t = true) : RowsOk ar [t] := by
  intro i
  cases i with
  | zero => exact .inr h
  | succ i => exact .inl rfl
theorem fill1 (h : termOk ar t = true) (ha : termOk ar a = true) (hs : (fillL [t] a).isSome = true) : termOk ar ((fillL [t] a).getD []) = true := by
  obtain ⟨u, hu⟩ := Option.isSome_iff_exists.1 hs
  rw [hu]; exact fill_ok (rows1 h) ha hu
theorem rows1_len (h : termOk ar t = true) (i : Nat) : ([t].getD i ([] : List Int)).length ≤ 60 := by
  cases i with
  | zero => exact (termOk_len h).2
  | succ i => simp
theorem all_at (h : ts.all (termOk ar) = true) (hk : k < ts.length) : termOk ar (ts.getD k []) = true := (all_getD_iff []).1 h k hk
end
end Go.Proofs.Ytmaaifhmhclhdaa.M
set_option linter.unusedSimpArgs false
set_option linter.unusedVariables false
namespace Go.Proofs.Ytmaaifhmhclhdaa.X
open Go
def stepsT (P : Program) (l : List Oper) (ρ : Env) (F : FH) (Bs : List HP) (phi : Nat → FH → List Value → Value → Prop) (own : Nat → List Value → Value → List HP) (tb : Nat → List HP) (uses cls tk : List (List Nat)) : List Oper → Nat → Prop
  | [], _ => True
  | o :: r, i => (∀ (vals : Nat → Value) (F1 : FH) (R : List HP), F ≤ F1 → (∀ j ∈ cls.getD i [], phi j F1 ((uses.getD j []).map vals) (vals j)) →
      XG P l.toArray o (canon vals (l.take i) 0 ρ) F1 (takenBy own uses tk vals i ++ (tb i ++ (Bs ++ R))) fun v F' L' => phi i F' ((uses.getD i []).map vals) v ∧ L' = own i ((uses.getD i []).map vals) v ++ (Bs ++ R)) ∧
    stepsT P l ρ F Bs phi own tb uses cls tk r (i + 1)
theorem stepsT.nil {P : Program} {l : List Oper} {ρ : Env} {F : FH} {Bs : List HP} {phi : Nat → FH → List Value → Value → Prop} {own : Nat → List Value → Value → List HP} {tb : Nat → List HP} {uses cls tk : List (List Nat)} {i : Nat} : stepsT P l ρ F Bs phi own tb uses cls tk [] i := trivial
theorem stepsT.cons {P : Program} {l : List Oper} {ρ : Env} {F : FH} {Bs : List HP} {phi : Nat → FH → List Value → Value → Prop} {own : Nat → List Value → Value → List HP} {tb : Nat → List HP} {uses cls tk : List (List Nat)} {i : Nat} {o : Oper} {r : List Oper}
    (h : ∀ (vals : Nat → Value) (F1 : FH) (R : List HP), F ≤ F1 → (∀ j ∈ cls.getD i [], phi j F1 ((uses.getD j []).map vals) (vals j)) →
      XG P l.toArray o (canon vals (l.take i) 0 ρ) F1 (takenBy own uses tk vals i ++ (tb i ++ (Bs ++ R))) fun v F' L' => phi i F' ((uses.getD i []).map vals) v ∧ L' = own i ((uses.getD i []).map vals) v ++ (Bs ++ R))
    (k : stepsT P l ρ F Bs phi own tb uses cls tk r (i + 1)) : stepsT P l ρ F Bs phi own tb uses cls tk (o :: r) i := ⟨h, k⟩
end Go.Proofs.Ytmaaifhmhclhdaa.X
set_option linter.unusedSimpArgs false
set_option linter.unusedVariables false
namespace Go.Proofs.Ytmaaifhmhclhdaa.M
section
variable {ar : List Int} {rs : Rules} {t f u : List Int} {ss acc : List StepL} {p : Nat} {k : Nat}
end
end Go.Proofs.Ytmaaifhmhclhdaa.M
set_option linter.unusedSimpArgs false
set_option linter.unusedVariables false
namespace Go.Proofs.Ytmaaifhmhclhdaa.M
section
variable {ar : List Int} {rs : Rules} {t f : List Int} {ss : List StepL} {s : RowL} {p : Int}
def substOk (ar : List Int) (s : RowL) : Bool := sigOk ar && decide (s.length ≤ 24) && s.all (fun t => decide (t = []) || termOk ar t)
theorem substOk_iff : substOk ar s = true ↔ sigOk ar = true ∧ s.length ≤ 24 ∧ ∀ i, i < s.length → s.getD i [] = [] ∨ termOk ar (s.getD i []) = true := by
  unfold substOk
  simp only [Bool.and_eq_true, decide_eq_true_eq, List.all_eq_true, Bool.or_eq_true, and_assoc]
  refine and_congr_right fun _ => and_congr_right fun _ => ⟨fun h i hi => ?_, fun h x hx => ?_⟩
  · exact h _ (by simp [List.getD, hi])
  · obtain ⟨i, hi, rfl⟩ := List.getElem_of_mem hx
    simpa [List.getD, hi] using h i hi
theorem substOk_false (h : ¬ (sigOk ar = true ∧ s.length ≤ 24 ∧ ∀ i, i < s.length → s.getD i [] = [] ∨ termOk ar (s.getD i []) = true)) : substOk ar s = false := by
  cases hx : substOk ar s with
  | false => rfl
  | true => exact absurd (substOk_iff.1 hx) h
theorem substOk_rows (h : substOk ar s = true) : RowsOk ar s := fun i => by
  rcases Nat.lt_or_ge i s.length with hi | hi
  · exact (substOk_iff.1 h).2.2 i hi
  · left; rw [List.getD_eq_getElem?_getD, List.getElem?_eq_none hi]; rfl
theorem substOk_len (h : substOk ar s = true) (i : Nat) : (s.getD i []).length ≤ 60 := by
  rcases substOk_rows h i with h1 | h1
  · rw [h1]; simp
  · exact (termOk_len h1).2
def filledL (ar : List Int) (s : RowL) (t : List Int) : Option (List Int) := if substOk ar s = true ∧ termOk ar t = true then fillL s t else none
theorem len_nil {l : List Int} (h : ¬ ((l.length : Nat) : Int) > 0) : l = [] := List.eq_nil_of_length_eq_zero (by omega)
theorem fill_eq {v : List Int} (h : (fillL s f).isSome = true) : fillL s f = some v ↔ (fillL s f).getD [] = v := by
  obtain ⟨x, hx⟩ := Option.isSome_iff_exists.1 h
  rw [hx]; simp
end
end Go.Proofs.Ytmaaifhmhclhdaa.M
set_option linter.unusedSimpArgs false
set_option linter.unusedVariables false
namespace Go.Proofs.Ytmaaifhmhclhdaa.X
open Go
def FR (r : Option Nat) : Fence := { Fence.wide with round := r }
theorem callsIn_FR {r : Option Nat} {n : Nat} {P : Program} {f : FuncId} {args : Array Value} {w : World} {R : Ending → World → Prop} (h : Calls P f args w R) : CallsIn (FR r) n P f args w R := by
  have h1 : CallsIn Fence.wide n P f args w R := callsIn_wide.2 h
  exact h1
structure RepD (n : Nat) (d : List Deferred) (a : Act) (ρ : Env) : Prop where
  size : a.tmps.size = n
  defers : a.defers = d
  get : ∀ i, a.tmps.getD i undef = ρ i
theorem RepD.eval {n : Nat} {d : List Deferred} {a : Act} {ρ : Env} (h : RepD n d a ρ) : a.eval = evO ρ := by
  funext x
  cases x <;> first | rfl | exact h.get _
theorem RepD.of {n : Nat} {a : Act} {ρ : Env} (h : RepD n [] a ρ) : Rep n a ρ := ⟨h.size, h.defers, h.get⟩
theorem RepD.put {n : Nat} {ds : List Deferred} {a : Act} {ρ : Env} (h : RepD n ds a ρ) {d : Option Tmp} (hd : dOk n d = true) (v : Value) : RepD n ds (a.put d v) (putE ρ d v) := by
  have h' : Rep n { a with defers := [] } ρ := ⟨h.size, rfl, h.get⟩
  have := h'.put hd v
  refine ⟨?_, ?_, ?_⟩
  · have := this.size; cases d <;> exact this
  · cases d <;> exact h.defers
  · have := this.get; cases d <;> exact this
section
variable {P : Program} {n : Nat} {r0 : Option Nat} {d0 : List Deferred} {ops : Array Oper} {l : List Oper} {Q : QX} {ρ : Env} {F : FH} {L : List HP}
theorem wpIn_of_XOp {o : Oper} {K : Post} {a : Act} {w : World} {Q : Exit → Act → World → Prop} {N : Act → World → Prop}
    (h : XOp P o ρ F L K) (r : RepD n d0 a ρ) (H : Holds F L w) (hd : dOk n o.dst = true) (hn : ∀ c, o.op ≠ .defer c)
    (hN : ∀ v F' L' w', F ≤ F' → Holds F' L' w' → K v F' L' → RepD n d0 (a.put o.dst v) (putE ρ o.dst v) → N (a.put o.dst v) w') : o.wpIn (FR r0) 9 P a w N Q := by
  refine ⟨fun _ _ => trivial, ?_⟩
  rw [Oper.semAt_eq _ _ _ hn, r.eval]
  rcases h w H with ⟨v, w', F', L', h1, h2, h3, h4⟩ | ⟨w', F', L', h1, h2, h3, h4⟩ | ⟨f, args, w', h1, h2⟩
  · rw [h1]; exact hN v F' L' w' h2 h3 h4 (r.put hd v)
  · rw [h1]; exact hN undef F' L' w' h2 h3 h4 (r.put hd undef)
  · rw [h1]
    refine ⟨fun _ => by decide, callsIn_FR (h2.mono fun e w'' ⟨v, F', L', he, hle, hH, hk⟩ => ?_)⟩
    subst he
    exact hN v F' L' w'' hle hH hk (r.put hd v)
def Yld (P : Program) (l : Nat) (args : List Value) (F : FH) (L : List HP) (K : Post) : Prop :=
  ∀ w, Holds F L w → YieldAt Fence.wide 9 P l args.toArray w fun e w' => ∃ v F' L', e = .returned v ∧ F ≤ F' ∧ Holds F' L' w' ∧ K v F' L'
theorem Yld.mono {k : Nat} {args : List Value} {K K' : Post} (h : Yld P k args F L K) (hk : ∀ v F' L', F ≤ F' → K v F' L' → K' v F' L') : Yld P k args F L K' := by
  intro w H
  obtain ⟨fn, tmps, assign, body, hy, hr⟩ := h w H
  exact ⟨fn, tmps, assign, body, hy, hr.mono fun e w' ⟨v, F', L', a, b, c, d⟩ => ⟨v, F', L', a, b, c, hk _ _ _ b d⟩⟩
end
section
variable {P : Program} {n : Nat} {r0 : Option Nat} {d0 : List Deferred} {Q : QX} {ρ : Env} {F : FH} {L : List HP}
end
section
variable {P : Program} {fn : Func} {Q : Post} {ρ : Env} {F F0 : FH} {L : List HP}
end
end Go.Proofs.Ytmaaifhmhclhdaa.X
set_option linter.unusedSimpArgs false
set_option linter.unusedVariables false
namespace Go.Proofs.Ytmaaifhmhclhdaa.X
open Go
theorem Rd.all {F : FH} {L : List HP} {v : Value} {k : Nat} {es : List Value} (h : ∀ j u, es[j]? = some u → Rd F L (elemA v (k + j)) u) : ∀ i u, es[i]? = some u → Rd F L ((elemA v k).add i) u := by
  intro i u hu
  rw [elemA_add]
  exact h i u hu
abbrev FoundT := List Int × Int × StepT × Int
def FoundF (F : FH) (es : List Value) (x : FoundT) : Prop := ∃ a0 a4, es = [a0, .int .i64 x.2.1, .int .i64 x.2.2.1.1, .int .i64 x.2.2.1.2.1, a4, .int .i64 x.2.2.2] ∧ IntsF F a0 x.1 ∧ IntsF F a4 x.2.2.1.2.2
theorem FoundF.mono {F F' : FH} (le : F ≤ F') (es : List Value) (x : FoundT) (h : FoundF F es x) : FoundF F' es x := by
  obtain ⟨a0, a4, e, h0, h4⟩ := h
  exact ⟨a0, a4, e, h0.mono le, h4.mono le⟩
def FoundsF (F : FH) (v : Value) (xs : List FoundT) (cs : List Value) : Prop := ArrF F 6 v xs.length cs ∧ CO 6 FoundF ([], 0, (0, 0, []), 0) F cs xs
theorem FoundsF.mono {F F' : FH} {v : Value} {xs : List FoundT} {cs : List Value} (h : FoundsF F v xs cs) (le : F ≤ F') : FoundsF F' v xs cs := ⟨h.1.mono le, CO.mono (FoundF.mono le) h.2⟩
theorem FoundsF.slv {F : FH} {L : List HP} {v : Value} {xs : List FoundT} {cs : List Value} (h : FoundsF F v xs cs) : SlV F L v xs.length := SlV.arr h.1
theorem FoundsF.isSl {F : FH} {v : Value} {xs : List FoundT} {cs : List Value} (h : FoundsF F v xs cs) : IsSl v := h.1.isSl
theorem FoundsF.rd {F : FH} {v : Value} {xs : List FoundT} {cs : List Value} (h : FoundsF F v xs cs) {i : Nat} (hi : i < xs.length) : ∃ a0 a4, IntsF F a0 (xs.getD i ([], 0, (0, 0, []), 0)).1 ∧ IntsF F a4 (xs.getD i ([], 0, (0, 0, []), 0)).2.2.1.2.2 ∧ (∀ L j u, ([a0, .int .i64 (xs.getD i ([], 0, (0, 0, []), 0)).2.1, .int .i64 (xs.getD i ([], 0, (0, 0, []), 0)).2.2.1.1, .int .i64 (xs.getD i ([], 0, (0, 0, []), 0)).2.2.1.2.1, a4, .int .i64 (xs.getD i ([], 0, (0, 0, []), 0)).2.2.2] : List Value)[j]? = some u → Rd F L (elemA v (i * 6 + j)) u) ∧ (∀ j u, ([a0, .int .i64 (xs.getD i ([], 0, (0, 0, []), 0)).2.1, .int .i64 (xs.getD i ([], 0, (0, 0, []), 0)).2.2.1.1, .int .i64 (xs.getD i ([], 0, (0, 0, []), 0)).2.2.1.2.1, a4, .int .i64 (xs.getD i ([], 0, (0, 0, []), 0)).2.2.2] : List Value)[j]? = some u → cs[i * 6 + j]? = some u) := by
  obtain ⟨es, h1, h2, a0, a4, rfl, h0, h4⟩ := h.2.2 i hi
  refine ⟨a0, a4, h0, h4, fun L j u hu => ?_, fun j u hu => ?_⟩
  · have := Rd.arrN (L := L) (k := i * 6) (vs := [a0, .int .i64 (xs.getD i ([], 0, (0, 0, []), 0)).2.1, .int .i64 (xs.getD i ([], 0, (0, 0, []), 0)).2.2.1.1, .int .i64 (xs.getD i ([], 0, (0, 0, []), 0)).2.2.1.2.1, a4, .int .i64 (xs.getD i ([], 0, (0, 0, []), 0)).2.2.2]) h.1 (by rw [h1]; exact h2) j u hu
    rwa [elemA_add] at this
  · rw [← h2, List.getElem?_take] at hu
    split at hu
    · rwa [List.getElem?_drop] at hu
    · cases hu
def FoundsC (F : FH) (cs : List Value) (xs : List FoundT) : Prop := CO 6 FoundF ([], 0, (0, 0, []), 0) F cs xs
theorem FoundsC.mono {F F' : FH} {cs : List Value} {xs : List FoundT} (h : FoundsC F cs xs) (le : F ≤ F') : FoundsC F' cs xs := CO.mono (FoundF.mono le) h
theorem FoundsC.snoc {F : FH} {cs : List Value} {xs : List FoundT} {a0 a4 : Value} {y0 : List Int} {y1 : Int} {y2 : Int} {y3 : Int} {y4 : List Int} {y5 : Int} (h : FoundsC F cs xs) (h0 : IntsF F a0 y0) (h4 : IntsF F a4 y4) : FoundsC F (cs ++ [a0, .int .i64 y1, .int .i64 y2, .int .i64 y3, a4, .int .i64 y5]) (xs ++ [(y0, y1, (y2, y3, y4), y5)]) := CO.snoc h rfl ⟨a0, a4, rfl, h0, h4⟩
theorem FoundsC.get {F : FH} {cs : List Value} {xs : List FoundT} (h : FoundsC F cs xs) {i : Nat} (hi : i < xs.length) : ∃ a0 a4, IntsF F a0 (xs.getD i ([], 0, (0, 0, []), 0)).1 ∧ IntsF F a4 (xs.getD i ([], 0, (0, 0, []), 0)).2.2.1.2.2 ∧ (∀ j u, ([a0, .int .i64 (xs.getD i ([], 0, (0, 0, []), 0)).2.1, .int .i64 (xs.getD i ([], 0, (0, 0, []), 0)).2.2.1.1, .int .i64 (xs.getD i ([], 0, (0, 0, []), 0)).2.2.1.2.1, a4, .int .i64 (xs.getD i ([], 0, (0, 0, []), 0)).2.2.2] : List Value)[j]? = some u → cs[i * 6 + j]? = some u) := by
  obtain ⟨es, hl, ⟨a0, a4, rfl, h0, h4⟩, hr⟩ := CO.get h hi
  exact ⟨a0, a4, h0, h4, hr⟩
theorem FoundsC.fz {F : FH} {cs : List Value} {xs : List FoundT} {E : TypeId} {v : Value} {n : Nat} (h : FoundsC F cs xs) (hn : n = xs.length) (hf : Fz (slH E 6 v n cs) F) : FoundsF F v xs cs := by
  subst hn
  exact ⟨hf.sl, h⟩
abbrev MoveT := Int × Int × Bool × List Int
def MoveF (F : FH) (es : List Value) (x : MoveT) : Prop := ∃ a3, es = [.int .i64 x.1, .int .i64 x.2.1, .bool x.2.2.1, a3] ∧ IntsF F a3 x.2.2.2
theorem MoveF.mono {F F' : FH} (le : F ≤ F') (es : List Value) (x : MoveT) (h : MoveF F es x) : MoveF F' es x := by
  obtain ⟨a3, e, h3⟩ := h
  exact ⟨a3, e, h3.mono le⟩
def MovesF : FH → Value → List MoveT → Prop := SlOf 4 MoveF (0, 0, false, [])
theorem MovesF.mono {F F' : FH} {v : Value} {xs : List MoveT} (h : MovesF F v xs) (le : F ≤ F') : MovesF F' v xs := SlOf.mono (MoveF.mono le) h le
theorem MovesF.slv {F : FH} {L : List HP} {v : Value} {xs : List MoveT} (h : MovesF F v xs) : SlV F L v xs.length := SlOf.slv h
theorem MovesF.isSl {F : FH} {v : Value} {xs : List MoveT} (h : MovesF F v xs) : IsSl v := by obtain ⟨_, h, _⟩ := h; exact h.isSl
theorem MovesF.rd {F : FH} {v : Value} {xs : List MoveT} (h : MovesF F v xs) {i : Nat} (hi : i < xs.length) : ∃ a3, IntsF F a3 (xs.getD i (0, 0, false, [])).2.2.2 ∧ (∀ L j u, ([.int .i64 (xs.getD i (0, 0, false, [])).1, .int .i64 (xs.getD i (0, 0, false, [])).2.1, .bool (xs.getD i (0, 0, false, [])).2.2.1, a3] : List Value)[j]? = some u → Rd F L (elemA v (i * 4 + j)) u) ∧ True := by
  obtain ⟨es, hl, ⟨a3, rfl, h3⟩, hr⟩ := SlOf.get h hi
  exact ⟨a3, h3, hr, trivial⟩
def MovesC (F : FH) (cs : List Value) (xs : List MoveT) : Prop := CO 4 MoveF (0, 0, false, []) F cs xs
theorem MovesC.mono {F F' : FH} {cs : List Value} {xs : List MoveT} (h : MovesC F cs xs) (le : F ≤ F') : MovesC F' cs xs := CO.mono (MoveF.mono le) h
theorem MovesC.snoc {F : FH} {cs : List Value} {xs : List MoveT} {a3 : Value} {y0 : Int} {y1 : Int} {y2 : Bool} {y3 : List Int} (h : MovesC F cs xs) (h3 : IntsF F a3 y3) : MovesC F (cs ++ [.int .i64 y0, .int .i64 y1, .bool y2, a3]) (xs ++ [(y0, y1, y2, y3)]) := CO.snoc h rfl ⟨a3, rfl, h3⟩
theorem MovesC.get {F : FH} {cs : List Value} {xs : List MoveT} (h : MovesC F cs xs) {i : Nat} (hi : i < xs.length) : ∃ a3, IntsF F a3 (xs.getD i (0, 0, false, [])).2.2.2 ∧ (∀ j u, ([.int .i64 (xs.getD i (0, 0, false, [])).1, .int .i64 (xs.getD i (0, 0, false, [])).2.1, .bool (xs.getD i (0, 0, false, [])).2.2.1, a3] : List Value)[j]? = some u → cs[i * 4 + j]? = some u) := by
  obtain ⟨es, hl, ⟨a3, rfl, h3⟩, hr⟩ := CO.get h hi
  exact ⟨a3, h3, hr⟩
abbrev PolyT := Int × List Int
def PolyF (F : FH) (es : List Value) (x : PolyT) : Prop := ∃ a1, es = [.int .i64 x.1, a1] ∧ IntsF F a1 x.2
theorem PolyF.mono {F F' : FH} (le : F ≤ F') (es : List Value) (x : PolyT) (h : PolyF F es x) : PolyF F' es x := by
  obtain ⟨a1, e, h1⟩ := h
  exact ⟨a1, e, h1.mono le⟩
def PolysF : FH → Value → List PolyT → Prop := SlOf 2 PolyF (0, [])
theorem PolysF.mono {F F' : FH} {v : Value} {xs : List PolyT} (h : PolysF F v xs) (le : F ≤ F') : PolysF F' v xs := SlOf.mono (PolyF.mono le) h le
theorem PolysF.slv {F : FH} {L : List HP} {v : Value} {xs : List PolyT} (h : PolysF F v xs) : SlV F L v xs.length := SlOf.slv h
theorem PolysF.isSl {F : FH} {v : Value} {xs : List PolyT} (h : PolysF F v xs) : IsSl v := by obtain ⟨_, h, _⟩ := h; exact h.isSl
theorem PolysF.rd {F : FH} {v : Value} {xs : List PolyT} (h : PolysF F v xs) {i : Nat} (hi : i < xs.length) : ∃ a1, IntsF F a1 (xs.getD i (0, [])).2 ∧ (∀ L j u, ([.int .i64 (xs.getD i (0, [])).1, a1] : List Value)[j]? = some u → Rd F L (elemA v (i * 2 + j)) u) ∧ True := by
  obtain ⟨es, hl, ⟨a1, rfl, h1⟩, hr⟩ := SlOf.get h hi
  exact ⟨a1, h1, hr, trivial⟩
def PolysC (F : FH) (cs : List Value) (xs : List PolyT) : Prop := CO 2 PolyF (0, []) F cs xs
theorem PolysC.mono {F F' : FH} {cs : List Value} {xs : List PolyT} (h : PolysC F cs xs) (le : F ≤ F') : PolysC F' cs xs := CO.mono (PolyF.mono le) h
theorem PolysC.snoc {F : FH} {cs : List Value} {xs : List PolyT} {a1 : Value} {y0 : Int} {y1 : List Int} (h : PolysC F cs xs) (h1 : IntsF F a1 y1) : PolysC F (cs ++ [.int .i64 y0, a1]) (xs ++ [(y0, y1)]) := CO.snoc h rfl ⟨a1, rfl, h1⟩
theorem PolysC.get {F : FH} {cs : List Value} {xs : List PolyT} (h : PolysC F cs xs) {i : Nat} (hi : i < xs.length) : ∃ a1, IntsF F a1 (xs.getD i (0, [])).2 ∧ (∀ j u, ([.int .i64 (xs.getD i (0, [])).1, a1] : List Value)[j]? = some u → cs[i * 2 + j]? = some u) := by
  obtain ⟨es, hl, ⟨a1, rfl, h1⟩, hr⟩ := CO.get h hi
  exact ⟨a1, h1, hr⟩
abbrev LineT := Int × List (List Int) × List Int
def LineF (F : FH) (es : List Value) (x : LineT) : Prop := ∃ a1 a2, es = [.int .i64 x.1, a1, a2] ∧ RowsF F a1 x.2.1 ∧ IntsF F a2 x.2.2
theorem LineF.mono {F F' : FH} (le : F ≤ F') (es : List Value) (x : LineT) (h : LineF F es x) : LineF F' es x := by
  obtain ⟨a1, a2, e, h1, h2⟩ := h
  exact ⟨a1, a2, e, h1.mono le, h2.mono le⟩
def LinesF : FH → Value → List LineT → Prop := SlOf 3 LineF (0, [], [])
theorem LinesF.mono {F F' : FH} {v : Value} {xs : List LineT} (h : LinesF F v xs) (le : F ≤ F') : LinesF F' v xs := SlOf.mono (LineF.mono le) h le
theorem LinesF.slv {F : FH} {L : List HP} {v : Value} {xs : List LineT} (h : LinesF F v xs) : SlV F L v xs.length := SlOf.slv h
theorem LinesF.isSl {F : FH} {v : Value} {xs : List LineT} (h : LinesF F v xs) : IsSl v := by obtain ⟨_, h, _⟩ := h; exact h.isSl
theorem LinesF.rd {F : FH} {v : Value} {xs : List LineT} (h : LinesF F v xs) {i : Nat} (hi : i < xs.length) : ∃ a1 a2, RowsF F a1 (xs.getD i (0, [], [])).2.1 ∧ IntsF F a2 (xs.getD i (0, [], [])).2.2 ∧ (∀ L j u, ([.int .i64 (xs.getD i (0, [], [])).1, a1, a2] : List Value)[j]? = some u → Rd F L (elemA v (i * 3 + j)) u) ∧ True := by
  obtain ⟨es, hl, ⟨a1, a2, rfl, h1, h2⟩, hr⟩ := SlOf.get h hi
  exact ⟨a1, a2, h1, h2, hr, trivial⟩
def LinesC (F : FH) (cs : List Value) (xs : List LineT) : Prop := CO 3 LineF (0, [], []) F cs xs
theorem LinesC.mono {F F' : FH} {cs : List Value} {xs : List LineT} (h : LinesC F cs xs) (le : F ≤ F') : LinesC F' cs xs := CO.mono (LineF.mono le) h
theorem LinesC.snoc {F : FH} {cs : List Value} {xs : List LineT} {a1 a2 : Value} {y0 : Int} {y1 : List (List Int)} {y2 : List Int} (h : LinesC F cs xs) (h1 : RowsF F a1 y1) (h2 : IntsF F a2 y2) : LinesC F (cs ++ [.int .i64 y0, a1, a2]) (xs ++ [(y0, y1, y2)]) := CO.snoc h rfl ⟨a1, a2, rfl, h1, h2⟩
theorem LinesC.get {F : FH} {cs : List Value} {xs : List LineT} (h : LinesC F cs xs) {i : Nat} (hi : i < xs.length) : ∃ a1 a2, RowsF F a1 (xs.getD i (0, [], [])).2.1 ∧ IntsF F a2 (xs.getD i (0, [], [])).2.2 ∧ (∀ j u, ([.int .i64 (xs.getD i (0, [], [])).1, a1, a2] : List Value)[j]? = some u → cs[i * 3 + j]? = some u) := by
  obtain ⟨es, hl, ⟨a1, a2, rfl, h1, h2⟩, hr⟩ := CO.get h hi
  exact ⟨a1, a2, h1, h2, hr⟩
abbrev CRuleT := List Int × List Int × List (List Int × List Int)
def CRuleF (F : FH) (es : List Value) (x : CRuleT) : Prop := ∃ a0 a1 a2, es = [a0, a1, a2] ∧ IntsF F a0 x.1 ∧ IntsF F a1 x.2.1 ∧ PairsF F a2 x.2.2
theorem CRuleF.mono {F F' : FH} (le : F ≤ F') (es : List Value) (x : CRuleT) (h : CRuleF F es x) : CRuleF F' es x := by
  obtain ⟨a0, a1, a2, e, h0, h1, h2⟩ := h
  exact ⟨a0, a1, a2, e, h0.mono le, h1.mono le, h2.mono le⟩
def CRulesF : FH → Value → List CRuleT → Prop := SlOf 3 CRuleF ([], [], [])
theorem CRulesF.mono {F F' : FH} {v : Value} {xs : List CRuleT} (h : CRulesF F v xs) (le : F ≤ F') : CRulesF F' v xs := SlOf.mono (CRuleF.mono le) h le
theorem CRulesF.slv {F : FH} {L : List HP} {v : Value} {xs : List CRuleT} (h : CRulesF F v xs) : SlV F L v xs.length := SlOf.slv h
theorem CRulesF.isSl {F : FH} {v : Value} {xs : List CRuleT} (h : CRulesF F v xs) : IsSl v := by obtain ⟨_, h, _⟩ := h; exact h.isSl
theorem CRulesF.rd {F : FH} {v : Value} {xs : List CRuleT} (h : CRulesF F v xs) {i : Nat} (hi : i < xs.length) : ∃ a0 a1 a2, IntsF F a0 (xs.getD i ([], [], [])).1 ∧ IntsF F a1 (xs.getD i ([], [], [])).2.1 ∧ PairsF F a2 (xs.getD i ([], [], [])).2.2 ∧ (∀ L j u, ([a0, a1, a2] : List Value)[j]? = some u → Rd F L (elemA v (i * 3 + j)) u) ∧ True := by
  obtain ⟨es, hl, ⟨a0, a1, a2, rfl, h0, h1, h2⟩, hr⟩ := SlOf.get h hi
  exact ⟨a0, a1, a2, h0, h1, h2, hr, trivial⟩
def CRulesC (F : FH) (cs : List Value) (xs : List CRuleT) : Prop := CO 3 CRuleF ([], [], []) F cs xs
theorem CRulesC.mono {F F' : FH} {cs : List Value} {xs : List CRuleT} (h : CRulesC F cs xs) (le : F ≤ F') : CRulesC F' cs xs := CO.mono (CRuleF.mono le) h
theorem CRulesC.snoc {F : FH} {cs : List Value} {xs : List CRuleT} {a0 a1 a2 : Value} {y0 : List Int} {y1 : List Int} {y2 : List (List Int × List Int)} (h : CRulesC F cs xs) (h0 : IntsF F a0 y0) (h1 : IntsF F a1 y1) (h2 : PairsF F a2 y2) : CRulesC F (cs ++ [a0, a1, a2]) (xs ++ [(y0, y1, y2)]) := CO.snoc h rfl ⟨a0, a1, a2, rfl, h0, h1, h2⟩
theorem CRulesC.get {F : FH} {cs : List Value} {xs : List CRuleT} (h : CRulesC F cs xs) {i : Nat} (hi : i < xs.length) : ∃ a0 a1 a2, IntsF F a0 (xs.getD i ([], [], [])).1 ∧ IntsF F a1 (xs.getD i ([], [], [])).2.1 ∧ PairsF F a2 (xs.getD i ([], [], [])).2.2 ∧ (∀ j u, ([a0, a1, a2] : List Value)[j]? = some u → cs[i * 3 + j]? = some u) := by
  obtain ⟨es, hl, ⟨a0, a1, a2, rfl, h0, h1, h2⟩, hr⟩ := CO.get h hi
  exact ⟨a0, a1, a2, h0, h1, h2, hr⟩
end Go.Proofs.Ytmaaifhmhclhdaa.X
set_option linter.unusedSimpArgs false
set_option linter.unusedVariables false
namespace Go.Proofs.Ytmaaifhmhclhdaa.X
open Go
def XStepsF (F : FH) (v : Value) (xs : List StepT) (cs : List Value) : Prop := ArrF F 3 v xs.length cs ∧ StepsC F cs xs
theorem XStepsF.mono {F F' : FH} {v : Value} {xs : List StepT} {cs : List Value} (h : XStepsF F v xs cs) (le : F ≤ F') : XStepsF F' v xs cs := ⟨h.1.mono le, h.2.mono le⟩
theorem XStepsF.slv {F : FH} {L : List HP} {v : Value} {xs : List StepT} {cs : List Value} (h : XStepsF F v xs cs) : SlV F L v xs.length := SlV.arr h.1
theorem XStepsF.isSl {F : FH} {v : Value} {xs : List StepT} {cs : List Value} (h : XStepsF F v xs cs) : IsSl v := h.1.isSl
theorem XStepsF.rd {F : FH} {v : Value} {xs : List StepT} {cs : List Value} (h : XStepsF F v xs cs) {i : Nat} (hi : i < xs.length) : ∃ c, IntsF F c (xs.getD i (0, 0, [])).2.2 ∧ (∀ L, Rd F L (elemA v (i * 3)) (.int .i64 (xs.getD i (0, 0, [])).1)) ∧ (∀ L, Rd F L (elemA v (i * 3 + 1)) (.int .i64 (xs.getD i (0, 0, [])).2.1)) ∧ (∀ L, Rd F L (elemA v (i * 3 + 2)) c) ∧ cs[i * 3 + 2]? = some c := by
  obtain ⟨es, h1, h2, c, rfl, hc⟩ := h.2.2 i hi
  have hq : ∀ j u, ([.int .i64 (xs.getD i (0, 0, [])).1, .int .i64 (xs.getD i (0, 0, [])).2.1, c] : List Value)[j]? = some u → cs[i * 3 + j]? = some u := by
    intro j u hu
    rw [← h2, List.getElem?_take] at hu
    split at hu
    · rwa [List.getElem?_drop] at hu
    · cases hu
  have hr : ∀ L j u, ([.int .i64 (xs.getD i (0, 0, [])).1, .int .i64 (xs.getD i (0, 0, [])).2.1, c] : List Value)[j]? = some u → Rd F L (elemA v (i * 3 + j)) u := by
    intro L j u hu
    have := Rd.arrN (L := L) (k := i * 3) (vs := [.int .i64 (xs.getD i (0, 0, [])).1, .int .i64 (xs.getD i (0, 0, [])).2.1, c]) h.1 (by rw [h1]; exact h2) j u hu
    rwa [elemA_add] at this
  exact ⟨c, hc, fun L => by simpa using hr L 0 _ rfl, fun L => hr L 1 _ rfl, fun L => hr L 2 _ rfl, hq 2 _ rfl⟩
section
variable {F F' : FH} {A B M : List HP} {h : HP}
theorem Fresh.none (k : Fresh F F' (star (A ++ B))) : Fresh F F' (star A) := by
  obtain ⟨m, hm, nd, hp⟩ := k
  obtain ⟨a, b, ha, hb, rfl⟩ := star_append.1 hm
  refine ⟨a, ha, ?_, fun p h' => hp p (List.mem_append_left _ h')⟩
  rw [List.map_append] at nd
  exact (List.nodup_append.1 nd).1
end
def FrStepsF (F0 F : FH) (e : TypeId) (v : Value) (xs : List StepT) : Prop := ∃ acs Ls, XStepsF F v xs acs ∧ DeepL 3 (StepO e) acs xs Ls ∧ Fresh F0 F (star Ls)
theorem FrStepsF.mono {F0 F F' : FH} {e : TypeId} {v : Value} {xs : List StepT} (h : FrStepsF F0 F e v xs) (le : F ≤ F') : FrStepsF F0 F' e v xs := by
  obtain ⟨acs, Ls, h1, h2, h3⟩ := h
  exact ⟨acs, Ls, h1.mono le, h2, h3.mono le⟩
theorem FrStepsF.base {F0 F F1 : FH} {e : TypeId} {v : Value} {xs : List StepT} (h : FrStepsF F1 F e v xs) (le : F0 ≤ F1) : FrStepsF F0 F e v xs := by
  obtain ⟨acs, Ls, h1, h2, h3⟩ := h
  exact ⟨acs, Ls, h1, h2, h3.base le⟩
theorem FrStepsF.isSl {F0 F : FH} {e : TypeId} {v : Value} {xs : List StepT} (h : FrStepsF F0 F e v xs) : IsSl v := by
  obtain ⟨acs, Ls, h1, _, _⟩ := h
  exact h1.isSl
end Go.Proofs.Ytmaaifhmhclhdaa.X
set_option linter.unusedSimpArgs false
set_option linter.unusedVariables false
namespace Go.Proofs.Ytmaaifhmhclhdaa.X
open Go
def FrIntsF (F0 F : FH) (e : TypeId) (v : Value) (xs : List Int) : Prop := Fresh F0 F (intsH e v xs)
theorem FrIntsF.mono {F0 F F' : FH} {e : TypeId} {v : Value} {xs : List Int} (h : FrIntsF F0 F e v xs) (le : F ≤ F') : FrIntsF F0 F' e v xs := Fresh.mono h le
theorem FrIntsF.base {F0 F F1 : FH} {e : TypeId} {v : Value} {xs : List Int} (h : FrIntsF F1 F e v xs) (le : F0 ≤ F1) : FrIntsF F0 F e v xs := Fresh.base h le
end Go.Proofs.Ytmaaifhmhclhdaa.X
set_option linter.unusedSimpArgs false
set_option linter.unusedVariables false
namespace Go.Proofs.Ytmaaifhmhclhdaa.X
open Go
end Go.Proofs.Ytmaaifhmhclhdaa.X
set_option linter.unusedSimpArgs false
set_option linter.unusedVariables false
namespace Go.Proofs.Ytmaaifhmhclhdaa.X
open Go
section
variable {F F' G F1 F2 : FH} {D D' : HP} {L M : List HP} {P : Program} {o : Oper} {ρ : Env} {K : Post} {e E : TypeId}
theorem Fresh.perm {A B : List HP} (h : Fresh F F' (star A)) (p : A.Perm B) : Fresh F F' (star B) := by
  obtain ⟨m, hm, nd, hp⟩ := h
  obtain ⟨l, hl, pl⟩ := star_perm p m hm
  exact ⟨l, hl, ((pl.map Prod.fst).nodup_iff).2 nd, fun q hq => hp q (pl.mem_iff.1 hq)⟩
theorem Fresh.left {A B : List HP} (h : Fresh F F' (star (A ++ B))) : Fresh F F' (star A) := h.none
theorem Fresh.right {A B : List HP} (h : Fresh F F' (star (A ++ B))) : Fresh F F' (star B) := (h.perm List.perm_append_comm).none
theorem StepsC.get {F : FH} {cs : List Value} {xs : List StepT} (h : StepsC F cs xs) {i : Nat} (hi : i < xs.length) :
    ∃ a, IntsF F a (xs.getD i (0, 0, [])).2.2 ∧ cs[i * 3]? = some (.int .i64 (xs.getD i (0, 0, [])).1) ∧ cs[i * 3 + 1]? = some (.int .i64 (xs.getD i (0, 0, [])).2.1) ∧ cs[i * 3 + 2]? = some a := by
  obtain ⟨es, _, ⟨a, rfl, ha⟩, hg⟩ := CO.get h hi
  exact ⟨a, ha, by simpa using hg 0 _ rfl, hg 1 _ rfl, hg 2 _ rfl⟩
def FreshsF (F0 F : FH) (D : HP) : Prop := Fresh F0 F D
theorem FreshsF.mono {F0 F F' : FH} {D : HP} (h : FreshsF F0 F D) (le : F ≤ F') : FreshsF F0 F' D := Fresh.mono h le
theorem slH.isSl {s n : Nat} {v : Value} {cs : List Value} {l : OH} (h : slH E s v n cs l) : IsSl v := by
  rcases h.2 with ⟨b, rfl, _⟩ | ⟨b, c, sp, rfl, _⟩
  · exact ⟨_, _, _, rfl⟩
  · exact ⟨_, _, _, rfl⟩
end
end Go.Proofs.Ytmaaifhmhclhdaa.X
set_option linter.unusedSimpArgs false
set_option linter.unusedVariables false
namespace Go.Proofs.Ytmaaifhmhclhdaa.X
open Go
section
variable {F F' G : FH} {e E : TypeId} {v : Value}
def MoveO (e : TypeId) (es : List Value) (x : MoveT) (K : List HP) : Prop := ∃ c, es = [.int .i64 x.1, .int .i64 x.2.1, .bool x.2.2.1, c] ∧ K = [intsH e c x.2.2.2]
abbrev movesD (e E : TypeId) (v : Value) (xs : List MoveT) : HP := deepH 4 (MoveO e) E v xs
theorem MoveO.fz (es : List Value) (x : MoveT) (K : List HP) (h : MoveO e es x K) (hz : ∃ l, star K l ∧ ∀ p ∈ l, F.cells p.1 = some p.2) : MoveF F es x := by
  obtain ⟨c, rfl, rfl⟩ := h
  exact ⟨c, rfl, intsH.fz (E := e) (frozen_star hz _ (by simp))⟩
theorem movesD.fz {xs : List MoveT} (h : Fz (movesD e E v xs) F) : MovesF F v xs := deepH.fz MoveO.fz h
end
section
variable {P : Program} {ρ : Env} {F : FH} {L : List HP} {K : Post} {d : Option Tmp} {ty : TypeId} {pos : String} {af : Array Edge} {g : Option (Nat × Bool)}
theorem XOp.remC {x y : Operand} {t u : TypeId} {k : IntKind} {a b : Int} (hx : evO ρ x = .int k a) (hy : evO ρ y = .int k b) (h0 : 0 ≤ a) (hb : b ≠ 0) (kk : K (.int k (a % b)) F L) : XOp P ⟨d, .binOp .rem t x y u, ty, pos, af, g⟩ ρ F L K :=
  XOp.value (fun w _ => by simp [execOp, hx, hy, eqGuard, binOp, Op.intDiv, hb, IntWalk.rem_in _ _ h0]) kk
end
theorem StepsC.ones {F : FH} {cs : List Value} {xs : List StepT} (h : StepsC F cs xs) : ∀ u ∈ cs, u.oneCell' = true := by
  intro u hu
  obtain ⟨q, hq, rfl⟩ := List.getElem_of_mem hu
  have hl := h.1
  obtain ⟨es, h1, ⟨c, rfl, hc⟩, hg⟩ := CO.get h (i := q / 3) (by omega)
  have hj : q % 3 < 3 := Nat.mod_lt _ (by decide)
  have e : q / 3 * 3 + q % 3 = q := by omega
  have hx : ∀ v, [Value.int .i64 (xs.getD (q / 3) (0, 0, [])).1, .int .i64 (xs.getD (q / 3) (0, 0, [])).2.1, c][q % 3]? = some v → cs[q] = v := fun v hv => by
    have := hg (q % 3) v hv
    rw [e, List.getElem?_eq_getElem hq] at this
    exact Option.some.inj this
  obtain ⟨b, n, k, rfl⟩ := IntsF.isSl hc
  match hm : q % 3, hj with
  | 0, _ => rw [hx _ (by rw [hm]; rfl)]; rfl
  | 1, _ => rw [hx _ (by rw [hm]; rfl)]; rfl
  | 2, _ => rw [hx _ (by rw [hm]; rfl)]; rfl
end Go.Proofs.Ytmaaifhmhclhdaa.X
set_option linter.unusedSimpArgs false
set_option linter.unusedVariables false
namespace Go.Proofs.Ytmaaifhmhclhdaa.X
open Go
def WKJ (F0 : FH) (e ES T : TypeId) (bw : Nat) (fv : Value) (tl : List HP) (I : Nat → List StepT → Prop) (k : Nat) (Fy : FH) (Ly : List HP) : Prop :=
  ∃ (sv : Value) (ss : List StepT) (cs : List Value) (Ls : List HP) (m : Nat), IsSl sv ∧ StepsC Fy cs ss ∧ m = ss.length ∧ DeepL 3 (StepO e) cs ss Ls ∧ Fresh F0 Fy (star Ls) ∧ I k ss ∧ Ly = cellsH bw [fv, sv] T :: slH ES 3 sv m cs :: tl
theorem WKJ.mono {F0 F F' : FH} {e ES T : TypeId} {bw k : Nat} {fv : Value} {tl L : List HP} {I : Nat → List StepT → Prop} (h : WKJ F0 e ES T bw fv tl I k F L) (le : F ≤ F') : WKJ F0 e ES T bw fv tl I k F' L :=
  let ⟨sv, ss, cs, Ls, m, h1, h2, h3, h4, h5, h6, h7⟩ := h
  ⟨sv, ss, cs, Ls, m, h1, h2.mono le, h3, h4, h5.mono le, h6, h7⟩
section
variable {P : Program} {fn : Func} {Q : Post} {ρ : Env} {F F0 : FH} {L : List HP}
theorem Does.at {f : FuncId} {args : List Value} {Q : Value → FH → Prop} {h : HP} (A : List HP) {B : List HP} (H : Does P f args F (h :: (A ++ B)) fun v F' L' => Q v F' ∧ h :: (A ++ B) = L') : Does P f args F (A ++ h :: B) fun v F' L' => Q v F' ∧ A ++ h :: B = L' := fun w Hw =>
  (H w (Sub.front.holds Hw)).mono fun _ _ ⟨v, F', L', he, le, H', hq, hl⟩ => ⟨v, F', _, he, le, Sub.back.holds (hl ▸ H'), hq, rfl⟩
end
section
variable {P : Program} {ρ : Env} {F : FH} {L : List HP} {K : Post} {d : Option Tmp} {ty : TypeId} {pos : String} {af : Array Edge} {g : Option (Nat × Bool)}
end
end Go.Proofs.Ytmaaifhmhclhdaa.X
set_option linter.unusedSimpArgs false
set_option linter.unusedVariables false
namespace Go.Proofs.Ytmaaifhmhclhdaa.X
open Go
section
variable {P : Program} {ρ : Env} {F : FH} {L : List HP} {K : Post} {d : Option Tmp} {ty : TypeId} {pos : String} {af : Array Edge} {g : Option (Nat × Bool)}
theorem XOp.addW {x y : Operand} {t u : TypeId} {k : IntKind} {a b : Int} (hx : evO ρ x = .int k a) (hy : evO ρ y = .int k b) (kk : ∀ r, K (.int k r) F L) : XOp P ⟨d, .binOp .add t x y u, ty, pos, af, g⟩ ρ F L K :=
  XOp.value (v := .int k (k.wrap (a + b))) (fun w _ => by simp [execOp, hx, hy, eqGuard, binOp, Op.intArith]) (kk _)
theorem XOp.mulW {x y : Operand} {t u : TypeId} {k : IntKind} {a b : Int} (hx : evO ρ x = .int k a) (hy : evO ρ y = .int k b) (kk : ∀ r, K (.int k r) F L) : XOp P ⟨d, .binOp .mul t x y u, ty, pos, af, g⟩ ρ F L K :=
  XOp.value (v := .int k (k.wrap (a * b))) (fun w _ => by simp [execOp, hx, hy, eqGuard, binOp, Op.intArith]) (kk _)
theorem XOp.shrW {x y : Operand} {t u : TypeId} {k k' : IntKind} {a b : Int} (hx : evO ρ x = .int k a) (hy : evO ρ y = .int k' b) (hb : 0 ≤ b) (kk : ∀ r, K (.int k r) F L) : XOp P ⟨d, .binOp .shr t x y u, ty, pos, af, g⟩ ρ F L K :=
  XOp.value (v := .int k (a.fdiv (2 ^ min b.toNat k.bits))) (fun w _ => by simp [execOp, hx, hy, eqGuard, binOp, Op.shift, show ¬ b < 0 by omega]) (kk _)
theorem and_range {k : IntKind} (hk : k.bits = 64) {a b : Int} (hb : 0 ≤ b ∧ b < 4611686018427387904) : 0 ≤ k.wrap (BitVec.ofInt k.bits a &&& BitVec.ofInt k.bits b).toNat ∧ k.wrap (BitVec.ofInt k.bits a &&& BitVec.ofInt k.bits b).toNat ≤ b := by
  have h1 : ((BitVec.ofInt k.bits a &&& BitVec.ofInt k.bits b).toNat : Int) ≤ b := by
    rw [BitVec.toNat_and]
    have h2 : (BitVec.ofInt k.bits a).toNat &&& (BitVec.ofInt k.bits b).toNat ≤ (BitVec.ofInt k.bits b).toNat := Nat.and_le_right
    have h3 : ((BitVec.ofInt k.bits b).toNat : Int) = b := by
      rw [BitVec.toNat_ofInt, hk]
      have : b % ((2 ^ 64 : Nat) : Int) = b := Int.emod_eq_of_lt hb.1 (by omega)
      rw [this]; omega
    omega
  have h0 : (0 : Int) ≤ ((BitVec.ofInt k.bits a &&& BitVec.ofInt k.bits b).toNat : Int) := Int.natCast_nonneg _
  generalize ((BitVec.ofInt k.bits a &&& BitVec.ofInt k.bits b).toNat : Int) = r at h0 h1
  have e : k.wrap r = r := by
    cases k <;> first | exact IntWalk.i64_in _ ⟨by omega, by omega⟩ | exact IntWalk.u64_in _ ⟨by omega, by omega⟩ | (exfalso; revert hk; decide)
  rw [e]
  exact ⟨h0, h1⟩
theorem XOp.andW {x y : Operand} {t u : TypeId} {k : IntKind} {a b : Int} (hk : k.bits = 64) (hx : evO ρ x = .int k a) (hy : evO ρ y = .int k b) (hb : 0 ≤ b ∧ b < 4611686018427387904) (kk : ∀ r, 0 ≤ r ∧ r ≤ b → K (.int k r) F L) : XOp P ⟨d, .binOp .and t x y u, ty, pos, af, g⟩ ρ F L K :=
  XOp.value (v := .int k (k.wrap (BitVec.ofInt k.bits a &&& BitVec.ofInt k.bits b).toNat)) (fun w _ => by simp [execOp, hx, hy, eqGuard, binOp, Op.intBits]) (kk _ (and_range hk hb))
theorem XOp.remV {x y : Operand} {t u : TypeId} {k : IntKind} {a b : Int} (hx : evO ρ x = .int k a) (hy : evO ρ y = .int k b) (h0 : 0 ≤ a) (hb : 0 < b) (kk : ∀ r, 0 ≤ r ∧ r < b → K (.int k r) F L) : XOp P ⟨d, .binOp .rem t x y u, ty, pos, af, g⟩ ρ F L K :=
  XOp.remC hx hy h0 (by omega) (kk _ ⟨Int.emod_nonneg a (by omega), Int.emod_lt_of_pos a hb⟩)
theorem XOp.convW {x : Operand} {s t : TypeId} {k k' : IntKind} {a : Int} {ds : TypeDesc} (hs : ∀ w, (underlying s).run P w = .ok ds w) (ht : ∀ w, (underlying t).run P w = .ok (.int k) w)
    (hx : evO ρ x = .int k' a) (kk : ∀ r, K (.int k r) F L) : XOp P ⟨d, .convert s t x, ty, pos, af, g⟩ ρ F L K := XOp.convI (k.wrap a) hs ht hx rfl (kk _)
end
def ByteE (F : FH) (es : List Value) (x : Int) : Prop := es = [.int .u8 x] ∧ 0 ≤ x ∧ x ≤ 255
theorem ByteE.mono {F F' : FH} (es : List Value) (x : Int) (h : ByteE F es x) : ByteE F' es x := h
def BytesF : FH → Value → List Int → Prop := SlOf 1 ByteE 0
theorem BytesF.mono {F F' : FH} {v : Value} {xs : List Int} (h : BytesF F v xs) (le : F ≤ F') : BytesF F' v xs := SlOf.mono ByteE.mono h le
theorem BytesF.slv {F : FH} {L : List HP} {v : Value} {xs : List Int} (h : BytesF F v xs) : SlV F L v xs.length := SlOf.slv h
theorem BytesF.isSl {F : FH} {v : Value} {xs : List Int} (h : BytesF F v xs) : IsSl v := by obtain ⟨_, h, _⟩ := h; exact h.isSl
theorem BytesF.rd {F : FH} {v : Value} {xs : List Int} (h : BytesF F v xs) {i : Nat} (hi : i < xs.length) : ∀ L, Rd F L (elemA v i) (.int .u8 (xs.getD i 0)) := by
  obtain ⟨es, hl, ⟨rfl, _⟩, hr⟩ := SlOf.get h hi
  intro L
  have := hr L 0 _ rfl
  simpa using this
theorem BytesF.range {F : FH} {v : Value} {xs : List Int} (h : BytesF F v xs) {i : Nat} (hi : i < xs.length) : 0 ≤ xs.getD i 0 ∧ xs.getD i 0 ≤ 255 := by
  obtain ⟨es, hl, ⟨rfl, h2⟩, hr⟩ := SlOf.get h hi
  exact h2
def curH (k : IntKind) (E : TypeId) (b : Nat) (bv : Value) (n : Nat) : HP := fun l => ∃ i h : Int, 0 ≤ i ∧ i ≤ n ∧ cellsH b [bv, .int .i64 i, .int k h] E l
theorem curH.of {k : IntKind} {E : TypeId} {b : Nat} {bv : Value} {n : Nat} {i h : Int} (h0 : 0 ≤ i) (h1 : i ≤ n) : ∀ l, cellsH b [bv, .int .i64 i, .int k h] E l → curH k E b bv n l := fun l hl => ⟨i, h, h0, h1, hl⟩
theorem Holds.uncur {k : IntKind} {E : TypeId} {b : Nat} {bv : Value} {n : Nat} {F : FH} {L : List HP} {w : World} (H : Holds F (curH k E b bv n :: L) w) : ∃ i h : Int, 0 ≤ i ∧ i ≤ n ∧ Holds F (cellsH b [bv, .int .i64 i, .int k h] E :: L) w := by
  obtain ⟨h1, h2, h3, h4, l, hl, nd, hp⟩ := H
  obtain ⟨a, c, ⟨i, h, q1, q2, hm⟩, hc, rfl⟩ := hl
  exact ⟨i, h, q1, q2, h1, h2, h3, h4, _, ⟨a, c, hm, hc, rfl⟩, nd, hp⟩
theorem Does.cur {P : Program} {f : FuncId} {args : List Value} {k : IntKind} {E : TypeId} {b : Nat} {bv : Value} {n : Nat} {F : FH} {L : List HP} {Q : Value → FH → Prop}
    (H : ∀ i h : Int, 0 ≤ i → i ≤ n → Does P f args F (cellsH b [bv, .int .i64 i, .int k h] E :: L) fun v F' L' => Q v F' ∧ ∃ i' h' : Int, 0 ≤ i' ∧ i' ≤ n ∧ cellsH b [bv, .int .i64 i', .int k h'] E :: L = L') :
    Does P f args F (curH k E b bv n :: L) fun v F' L' => Q v F' ∧ curH k E b bv n :: L = L' := by
  intro w Hw
  obtain ⟨i, h, q1, q2, Hw'⟩ := Hw.uncur
  refine (H i h q1 q2 w Hw').mono ?_
  rintro e w' ⟨v, F', L', he, le, H', hq, i', h', q3, q4, rfl⟩
  exact ⟨v, F', _, he, le, (Sub.keep (curH.of q3 q4) (Sub.refl _)).holds H', hq, rfl⟩
def intAt : Value → Int
  | .int _ n => n
  | _ => 0
end Go.Proofs.Ytmaaifhmhclhdaa.X
set_option linter.unusedSimpArgs false
set_option linter.unusedVariables false
namespace Go.Proofs.Ytmaaifhmhclhdaa.M
section
variable {ar t u : List Int} {n : Nat} {f : Int}
def goodN (ar t : List Int) (n : Nat) : Prop := (∀ x ∈ t, -24 ≤ x) ∧ ∀ r, endGo ar (t ++ r) n = some t.length
def goodT (ar t : List Int) : Prop := goodN ar t 1
theorem goodN.nil : goodN ar [] 0 := ⟨fun x hx => (List.not_mem_nil hx).elim, fun r => by cases r <;> rfl⟩
theorem goodN.snoc (h : goodN ar t n) (k : goodT ar u) : goodN ar (t ++ u) (n + 1) := by
  refine ⟨fun x hx => (List.mem_append.1 hx).elim (h.1 x) (k.1 x), fun r => ?_⟩
  have h1 := h.2 (u ++ r)
  have h2 : endGo ar ((t ++ (u ++ r)).drop t.length) 1 = some u.length := by rw [List.drop_left]; exact k.2 r
  rw [List.append_assoc, endGo_join h1 h2, List.length_append]
theorem goodT.one (hf : -24 ≤ f) (hl : f < ar.length) (ha : arity ar f = 0) : goodT ar [f] := by
  refine ⟨fun x hx => by obtain rfl := List.mem_singleton.1 hx; exact hf, fun r => ?_⟩
  show endGo ar (f :: r) (0 + 1) = some 1
  unfold endGo
  rw [if_pos hl, ha]
  cases r <;> rfl
theorem goodT.var (hf : -24 ≤ f) (h0 : f < 0) : goodT ar [f] := goodT.one hf (by omega) (by rw [arity, if_pos h0])
theorem goodT.node (h0 : 0 ≤ f) (hl : f < ar.length) (ha : arity ar f = (n : Int)) (h : goodN ar t n) : goodT ar (f :: t) := by
  refine ⟨fun x hx => (List.mem_cons.1 hx).elim (fun e => by omega) (h.1 x), fun r => ?_⟩
  show endGo ar (f :: (t ++ r)) (0 + 1) = some (t.length + 1)
  unfold endGo
  rw [if_pos hl, ha, show 0 + (n : Int).toNat = n from by omega, h.2 r]
  rfl
theorem goodT.ok (hs : sigOk ar = true) (hl : 1 ≤ t.length ∧ t.length ≤ 60) (h : goodT ar t) : termOk ar t = true := by
  have e := h.2 []
  rw [List.append_nil] at e
  exact termOk_iff.2 ⟨hs, hl.1, hl.2, h.1, e⟩
def szB : Nat → Nat
  | 0 => 1
  | d + 1 => 1 + 2 * szB d
theorem szB_pos : ∀ d, 1 ≤ szB d
  | 0 => by simp [szB]
  | d + 1 => by simp only [szB]; omega
theorem szB_next {d : Nat} (h : 1 ≤ d) : szB d = 1 + 2 * szB (d - 1) := by
  obtain ⟨e, rfl⟩ : ∃ e, d = e + 1 := ⟨d - 1, by omega⟩
  rfl
theorem szB_le : ∀ {d e : Nat}, d ≤ e → szB d ≤ szB e
  | 0, e, _ => szB_pos e
  | d + 1, 0, h => by omega
  | d + 1, e + 1, h => by have := szB_le (d := d) (e := e) (by omega); simp only [szB]; omega
variable {rs : Rules} {a b : List Int} {ts : RowL} {m : Int} {i k : Nat}
theorem mem_solL (hok : solOk ar rs a b ts m = true) (hi : i < ts.length) : (i : Int) ∈ solL ar rs a b ts m ↔ sol1 ar rs a b (ts.getD i []) m = true := by
  unfold solL solTo
  rw [if_pos hok, List.mem_map]
  constructor
  · rintro ⟨q, hq, e⟩
    obtain rfl : q = i := by omega
    exact (List.mem_filter.1 hq).2
  · intro h
    exact ⟨i, List.mem_filter.2 ⟨List.mem_range.2 hi, h⟩, rfl⟩
theorem sol_law (hok : solOk ar rs a b ts m = true) (hi : i < ts.length) :
    decide ((i : Int) ∈ solL ar rs a b ts m) = ((filledL ar [ts.getD i []] a).isSome && ((filledL ar [ts.getD i []] b).isSome && decide (eqB ar rs ((filledL ar [ts.getD i []] a).getD []) ((filledL ar [ts.getD i []] b).getD []) m = 1))) := by
  obtain ⟨hs, hm, ha, hb, hall, _⟩ := solOk_iff.1 hok
  have ht := all_at hall hi
  have hso : substOk ar [ts.getD i []] = true := substOk_iff.2 ⟨termOk_sig ht, by simp, fun j hj => by obtain rfl : j = 0 := (by simp at hj; omega); exact .inr ht⟩
  have e1 : filledL ar [ts.getD i []] a = fillL [ts.getD i []] a := by unfold filledL; rw [if_pos ⟨hso, ha⟩]
  have e2 : filledL ar [ts.getD i []] b = fillL [ts.getD i []] b := by unfold filledL; rw [if_pos ⟨hso, hb⟩]
  rw [e1, e2]
  have e3 : decide ((i : Int) ∈ solL ar rs a b ts m) = sol1 ar rs a b (ts.getD i []) m := by
    have := mem_solL hok hi
    cases h : sol1 ar rs a b (ts.getD i []) m
    · exact decide_eq_false (fun q => by rw [this.1 q] at h; cases h)
    · exact decide_eq_true (this.2 h)
  rw [e3]
  unfold sol1
  rw [Bool.and_assoc]
  cases h1 : (fillL [ts.getD i []] a).isSome
  · rfl
  · cases h2 : (fillL [ts.getD i []] b).isSome
    · rfl
    · rw [eqB_eqN (right_iff.2 ⟨hs, fill1 ht ha h1⟩) (right_iff.2 ⟨hs, fill1 ht hb h2⟩) hm]
theorem any_step {l : List Int} {x : Int} (hk : k < l.length) : ((l.take (k + 1)).any fun y => decide (y = x)) = (((l.take k).any fun y => decide (y = x)) || decide (l.getD k 0 = x)) := by
  rw [take_succ_getD 0 hk, List.any_append]
  simp
theorem any_mem {l : List Int} {x : Int} (hk : l.length ≤ k) : ((l.take k).any fun y => decide (y = x)) = decide (x ∈ l) := by
  rw [List.take_of_length_le hk]
  cases h : decide (x ∈ l)
  · rw [List.any_eq_false]
    intro y hy e
    rw [decide_eq_true_eq] at e
    exact of_decide_eq_false h (e ▸ hy)
  · rw [List.any_eq_true]
    exact ⟨x, of_decide_eq_true h, by simp⟩
end
end Go.Proofs.Ytmaaifhmhclhdaa.M
set_option linter.unusedSimpArgs false
set_option linter.unusedVariables false
namespace Go.Proofs.Ytmaaifhmhclhdaa.X
open Go Go.WideShapes Go.ChangeShapes Go.RowKit
def fhOf (w : World) : FH := ⟨fun b => w.heap[b]?, w.os, w.output, w.tape⟩
theorem holds_fhOf (w : World) : Holds (fhOf w) [] w := ⟨rfl, rfl, rfl, fun _ _ h => h, [], rfl, List.nodup_nil, fun p hp => absurd hp (by simp)⟩
theorem cell_fhOf (w : World) (a : Addr) : (fhOf w).cell? a = w.cell? a := by
  unfold FH.cell? World.cell? fhOf
  rfl
theorem below_of_holds {w w' : World} {F' : FH} {L' : List HP} (le : fhOf w ≤ F') (h : Holds F' L' w') : Below w.heap.size w w' := by
  have key : ∀ k o, w.heap[k]? = some o → w'.heap[k]? = some o := fun k o hk => h.cells k o (le.cells k o hk)
  refine ⟨h.os.trans le.os, h.tape.trans le.tape, h.output.trans le.output, ?_, fun k hk => ?_⟩
  · rcases Nat.eq_zero_or_pos w.heap.size with h0 | h0
    · omega
    · have h1 : w.heap[w.heap.size - 1]? = some (w.heap[w.heap.size - 1]'(by omega)) := Array.getElem?_eq_getElem (by omega)
      have h2 := (Array.getElem?_eq_some_iff.1 (key _ _ h1)).1
      omega
  · have h1 : w.heap[k]? = some (w.heap[k]'hk) := Array.getElem?_eq_getElem hk
    rw [h1]
    exact key _ _ h1
def Opens (P : Program) (t : TypeId) {α : Type} (R : FH → List Value → α → Prop) (B : α → Prop) : Prop :=
  ∀ (H : Type) (enc : TypeId × Value → H) (w : World) (base : Nat) (spare : Nat → Bool) (held : Bool) (fuel : Nat) (cs : List Value) (x : DataW H × List MemPlace),
    DataW.trod enc P w base spare held fuel t cs = some x → ∃ a, R (fhOf w) cs a ∧ B a
variable {P : Program} {t e : TypeId}
theorem opens_slice {α : Type} {R : FH → List Value → α → Prop} {B : α → Prop} {s : Nat} (d : α) (ht : P.underlying t = some (.slice e)) (hc : P.cellsOf e = s) (ho : Opens P e R B) :
    Opens P t (fun F cs (xs : List α) => ∃ v, cs = [v] ∧ SlOf s R d F v xs) (fun xs => xs.length ≤ 9223372036854775807 ∧ ∀ i, i < xs.length → B (xs.getD i d)) := by
  intro H enc w base spare held fuel cs x h
  rcases Go.Deep.open_slice ht h with ⟨rfl, _⟩ | ⟨a, len, cap, m, n, D, Pl, rfl, hb, hl, hm, hmm, _, hx⟩
  · exact ⟨[], ⟨_, rfl, [], ⟨by simp, none, 0, rfl, by simp, fun _ => rfl, fun a h => by cases h⟩, fun i hi => by simp at hi⟩, by simp, fun i hi => by simp at hi⟩
  · have hlm : len ≤ m := by rw [hmm]; split <;> omega
    rw [hc] at hx
    have each : ∀ i, i < len → ∃ q : α, ∃ cs' : List Value, cs'.length = s ∧ (∀ r, r < s → w.cell? (a.add (i * s + r)) = cs'[r]?) ∧ R (fhOf w) cs' q ∧ B q := by
      intro i hi
      obtain ⟨cs', h1, h2⟩ := hx i (by omega)
      obtain ⟨_, hlen, hcell⟩ := World.cells?_some h1
      obtain ⟨q, hq, hbq⟩ := ho H enc w base spare held n cs' _ h2
      exact ⟨q, cs', hlen, fun r hr => by rw [← hcell r hr, add_add], hq, hbq⟩
    have ⟨q, hq⟩ : ∃ q : Nat → α, ∀ i, i < len → ∃ cs' : List Value, cs'.length = s ∧ (∀ r, r < s → w.cell? (a.add (i * s + r)) = cs'[r]?) ∧ R (fhOf w) cs' (q i) ∧ B (q i) := by
      haveI : Inhabited α := ⟨d⟩
      exact Go.Deep.choose_lt each
    let V : Nat → Value := fun j => (w.cell? (a.add j)).getD undef
    have hV : ∀ j, j < len * s → w.cell? (a.add j) = some (V j) := by
      intro j hj
      have hs : 0 < s := by rcases Nat.eq_zero_or_pos s with h0 | h0; subst h0; simp at hj; exact h0
      have hdiv : j / s < len := (Nat.div_lt_iff_lt_mul hs).2 hj
      obtain ⟨cs', hl', hcell, _⟩ := hq (j / s) hdiv
      have hr := hcell (j % s) (Nat.mod_lt _ hs)
      have e1 : j / s * s + j % s = j := by rw [Nat.mul_comm]; exact Nat.div_add_mod j s
      rw [e1] at hr
      have hlt : j % s < cs'.length := by rw [hl']; exact Nat.mod_lt _ hs
      rw [List.getElem?_eq_getElem hlt] at hr
      show w.cell? (a.add j) = some ((w.cell? (a.add j)).getD undef)
      rw [hr]; rfl
    have hxl : ((List.range len).map q).length = len := by simp
    have hgd : ∀ i, i < len → ((List.range len).map q).getD i d = q i := fun i hi => by simp [List.getD, hi]
    refine ⟨(List.range len).map q, ⟨_, rfl, (List.range (len * s)).map V, ⟨by simp, some a, cap, by rw [hxl], by omega, (fun h => by cases h), ?_⟩, ?_⟩, by rw [hxl]; unfold maxLen at hm; omega, fun i hi => ?_⟩
    · intro a' ha i u hu
      obtain rfl := Option.some.inj ha
      have hi : i < len * s := by have := (List.getElem?_eq_some_iff.1 hu).1; simpa using this
      rw [cell_fhOf, hV i hi]
      rw [List.getElem?_map, List.getElem?_range hi] at hu
      exact hu
    · intro i hi
      rw [hxl] at hi
      obtain ⟨cs', hl', hcell, hR, _⟩ := hq i hi
      refine ⟨cs', hl', ?_, by rw [hgd i hi]; exact hR⟩
      have hle : i * s + s ≤ len * s := by
        have : (i + 1) * s ≤ len * s := Nat.mul_le_mul_right s hi
        rwa [Nat.succ_mul] at this
      apply List.ext_getElem?
      intro r
      rcases Nat.lt_or_ge r s with hr | hr
      · rw [List.getElem?_take, if_pos hr, List.getElem?_drop, List.getElem?_map, List.getElem?_range (by omega), ← hcell r hr, hV _ (by omega)]; rfl
      · rw [List.getElem?_eq_none (by simp; omega), List.getElem?_eq_none (by omega)]
    · rw [hxl] at hi
      obtain ⟨_, _, _, _, hB⟩ := hq i hi
      rw [hgd i hi]
      exact hB
theorem Opens.mono {α : Type} {R R' : FH → List Value → α → Prop} {B B' : α → Prop} (h : Opens P t R B) (hR : ∀ F cs a, R F cs a → R' F cs a) (hB : ∀ a, B a → B' a) : Opens P t R' B' := fun H enc w base spare held fuel cs x hx =>
  let ⟨a, h1, h2⟩ := h H enc w base spare held fuel cs x hx
  ⟨a, hR _ _ _ h1, hB _ h2⟩
theorem Opens.slv {α : Type} {R : FH → List Value → α → Prop} {B : α → Prop} (h : Opens P t R B) (ht : P.underlying t = some (.slice e)) {H : Type} {enc : TypeId × Value → H} {w : World} {r : Reach} {base b0 : Nat} {spare : Nat → Bool} {held : Bool} {v : Value} {d : DataW H} {ps : List MemPlace}
    (hv : Value.okWide P w r b0 t v) (ht' : DataW.Trod enc P w base spare held t v d ps) : ∃ a, R (fhOf w) [v] a ∧ B a := by
  obtain ⟨a, l, c, rfl⟩ := okWide_slice ht hv
  obtain ⟨n, hn⟩ := ht'
  exact h H enc w base spare held n _ _ hn
theorem Opens.agg {α : Type} {R : FH → List Value → α → Prop} {B : α → Prop} (h : Opens P t R B) {fs : Array Field} (ht : P.underlying t = some (.struct fs)) {H : Type} {enc : TypeId × Value → H} {w : World} {r : Reach} {base b0 : Nat} {spare : Nat → Bool} {held : Bool} {v : Value} {d : DataW H} {ps : List MemPlace}
    (hv : Value.okWide P w r b0 t v) (ht' : DataW.Trod enc P w base spare held t v d ps) : ∃ cs : List Value, v = .agg cs.toArray ∧ ∃ a, R (fhOf w) cs a ∧ B a := by
  obtain ⟨cs, rfl, _⟩ := okWide_struct ht hv
  obtain ⟨n, hn⟩ := ht'
  exact ⟨cs.toList, by simp, h H enc w base spare held n _ _ hn⟩
theorem Opens.int {k : IntKind} (ht : P.underlying t = some (.int k)) {H : Type} {enc : TypeId × Value → H} {w : World} {r : Reach} {base b0 : Nat} {spare : Nat → Bool} {held : Bool} {v : Value} {d : DataW H} {ps : List MemPlace}
    (hv : Value.okWide P w r b0 t v) (ht' : DataW.Trod enc P w base spare held t v d ps) : ∃ n, v = .int k n ∧ (Lit.int k n).wf = true := by
  obtain ⟨n, rfl, _, _, hw⟩ := open_int ht hv ht'
  exact ⟨n, rfl, hw⟩
theorem trodAll_below {H : Type} {enc : TypeId × Value → H} (hl : laidOutB P = true) {W W' : World} (hb : Below W.heap.size W W') {sp : Nat → Bool} :
    ∀ {ts : List TypeId} {vs : List Value} {ds : List (DataW H)} {ps : List MemPlace}, (ts.all fun t => P.readableRec t && decide (t < P.types.size)) = true → DataW.TrodAll enc P W 0 (fun _ => true) true ts vs ds ps →
      (∀ x ∈ ps, x.block < W.heap.size) → (∀ p ∈ ps, sp p.block = true) → DataW.TrodAll enc P W' 0 sp true ts vs ds ps
  | [], [], [], _, _, h, _, _ => h
  | [], _ :: _, _, _, _, h, _, _ => by cases h
  | [], [], _ :: _, _, _, h, _, _ => by cases h
  | _ :: _, [], _, _, _, h, _, _ => by cases h
  | _ :: _, _ :: _, [], _, _, h, _, _ => by cases h
  | t :: ts, v :: vs, d :: ds, ps, hr, h, hlt, hsp => by
    obtain ⟨p, q, h1, h2, rfl⟩ := h
    simp only [List.all_cons, Bool.and_eq_true, decide_eq_true_eq] at hr
    exact ⟨p, q, Go.WideElems.Trod_stays hl hr.1.1 hr.1.2 h1 (fun x hx => hb.same (hlt x (List.mem_append_left _ hx))) (fun x hx => hsp x (List.mem_append_left _ hx)),
      trodAll_below hl hb hr.2 h2 (fun x hx => hlt x (List.mem_append_right _ hx)) (fun x hx => hsp x (List.mem_append_right _ hx)), rfl⟩
theorem post_of_law {H : Type} {enc : TypeId × Value → H} {f : Func} {s : ChangeSpec} {apart fresh handsOn : Bool} {W W' : World} {args : Array Value} {ds gs : List (DataW H)} {before : List MemPlace} {tb : TypeId}
    (hs : s.vars = []) (hfn : s.fn H (ds ++ gs) = { results := [.lit (.bool true)], args := ds }) (hl : laidOutB P = true) (hr : (f.params.toList.all fun t => P.readableRec t && decide (t < P.types.size)) = true)
    (hres : f.resultTypes = #[tb]) (htb : P.underlying tb = some .bool) (hW : DataW.Whole enc P f.params.toList s.vars apart W args.toList ds gs before) (hb : Below W.heap.size W W') : s.post enc P f apart fresh handsOn false W args (.bool true) W' := by
  have hlt := hW.lt
  have hW' := hW
  obtain ⟨p, q, hA, hV, rfl, _, _⟩ := hW
  rw [hs] at hV
  obtain ⟨rfl, rfl⟩ := trodVars_none hV
  refine ⟨ds, [], p ++ [], [], p, [], hW', ?_, ?_, ?_, ?_, fun h => by cases h⟩
  · rw [hfn, hres]
    exact trodAll_cons_mk (shut_bool htb _) trodAll_mk0
  · rw [hfn]
    exact trodAll_below hl hb hr hA (fun x hx => hlt x (by simpa using hx)) (fun x hx => by simpa using hlt x (by simpa using hx))
  · rw [hfn, hs]; rfl
  · exact World.keptBut_mono (fun x hx => ⟨hx, .inr (.inl (by simpa using hx))⟩) (hb.frame (· ∈ p ++ []))
theorem Does.atTop {f : FuncId} {args : List Value} {W : World} (h : Does P f args (fhOf W) [] fun v _ _ => v = .bool true) : Calls P f args.toArray W fun e W' => e = .returned (.bool true) ∧ Below W.heap.size W W' :=
  (h W (holds_fhOf W)).mono fun _ _ ⟨_, _, _, he, le, H, hv⟩ => ⟨by rw [he, hv], below_of_holds le H⟩
end Go.Proofs.Ytmaaifhmhclhdaa.X
set_option linter.unusedSimpArgs false
set_option linter.unusedVariables false
namespace Go.Proofs.Ytmaaifhmhclhdaa.X
open Go Go.WideShapes Go.ChangeShapes Go.RowKit
variable {P : Program} {t e : TypeId}
end Go.Proofs.Ytmaaifhmhclhdaa.X
set_option linter.unusedSimpArgs false
set_option linter.unusedVariables false
namespace Go.Proofs.Ytmaaifhmhclhdaa.X
open Go Go.ChangeShapes Go.WideShapes Go.ChangeAt
variable {P : Program} {t e : TypeId}
theorem opens_byte (ht : P.underlying e = some (.int .u8)) : Opens P e ByteE (fun _ => True) := by
  intro H enc w base spare held fuel cs x h
  obtain ⟨n, rfl, _, hw⟩ := DataW.trod_int ht h
  refine ⟨n, ⟨rfl, ?_⟩, trivial⟩
  simp [Lit.wf, IntKind.min, IntKind.max, IntKind.signed, IntKind.bits] at hw
  omega
theorem opens_bytes (ht : P.underlying t = some (.slice e)) (he : P.underlying e = some (.int .u8)) (hc : P.cellsOf e = 1) :
    Opens P t (fun F cs (xs : List Int) => ∃ v, cs = [v] ∧ BytesF F v xs) (fun xs => xs.length ≤ 9223372036854775807) :=
  (opens_slice 0 ht hc (opens_byte he)).mono (fun _ _ _ h => h) (fun _ h => h.1)
end Go.Proofs.Ytmaaifhmhclhdaa.X
