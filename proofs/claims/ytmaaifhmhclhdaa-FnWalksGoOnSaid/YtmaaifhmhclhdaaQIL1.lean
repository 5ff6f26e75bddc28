/-
  What the walks rest on (part 2).
-/
import Derived.Orders
import Derived.Tactics
import Derived.Below
import Derived.Laws.CopyRow
import Derived.Laws.AppendOwn
import Derived.IntWalk
import Derived.Lib.AppendZeros
import Derived.OrdersIn
import Derived.TacticsIn
import Derived.RangeFuncSeq
import Derived.RangeFuncRecord
import Derived.RangeFuncLeaves
import Derived.Scope
import Derived.Laws.Append
import Derived.WalkKit
import Derived.ProofKit
import Derived.OpenShut
import Derived.JoinedCond
import Derived.Carry
import Derived.Deep.Slices
import Derived.Test.YtmaaifhmhclhdaaQIL0
set_option linter.unusedSimpArgs false
set_option linter.unusedVariables false
namespace Go.Proofs.Ytmaaifhmhclhdaa.M
def Forest (ar l : List Int) (n : Nat) : Prop := endGo ar l n = some l.length
theorem endGo_more {ar : List Int} : ∀ {a b : List Int} {n e : Nat}, endGo ar a n = some e → endGo ar (a ++ b) n = some e
  | a, b, 0, e, h => by simp [endGo] at h; subst h; simp [endGo]
  | [], b, n + 1, e, h => by simp [endGo] at h
  | x :: a, b, n + 1, e, h => by
    simp only [endGo, List.cons_append] at h ⊢
    split at h
    · rename_i hx
      rw [if_pos hx]
      cases hr : endGo ar a (n + (arity ar x).toNat) with
      | none => rw [hr] at h; simp at h
      | some q => rw [hr] at h; rw [endGo_more hr]; exact h
    · cases h
theorem Forest.append {ar a b : List Int} {n m : Nat} (h : Forest ar a n) (k : Forest ar b m) : Forest ar (a ++ b) (n + m) := by
  unfold Forest at *
  have h1 := endGo_more (b := b) h
  have := endGo_join (m := m) (e2 := b.length) h1 (by rw [List.drop_left]; exact k)
  rw [this, List.length_append]
theorem Forest.cons {ar r : List Int} {x : Int} {n : Nat} (hx : x < ar.length) : Forest ar (x :: r) (n + 1) ↔ Forest ar r (n + (arity ar x).toNat) := by
  unfold Forest
  simp only [endGo, if_pos hx, List.length_cons]
  cases endGo ar r (n + (arity ar x).toNat) <;> simp
theorem Forest.lt {ar r : List Int} {x : Int} {n : Nat} (h : Forest ar (x :: r) n) : ∃ m, n = m + 1 ∧ x < ar.length := by
  unfold Forest at h
  cases n with
  | zero => simp [endGo] at h
  | succ m =>
    refine ⟨m, rfl, ?_⟩
    simp only [endGo] at h
    split at h
    · assumption
    · cases h
theorem arity_var {ar : List Int} {x : Int} (h : x < 0) : arity ar x = 0 := by simp [arity]; omega
theorem Forest.fill {ar : List Int} {s : RowL} (hs : ∀ x : Int, x < 0 → Forest ar (lk s x) 1) : ∀ (t : List Int) (n : Nat), Forest ar t n → Forest ar (t.flatMap (lk s)) n
  | [], n, h => h
  | x :: t, n, h => by
    obtain ⟨m, rfl, hx⟩ := h.lt
    have h1 := (Forest.cons hx).1 h
    rw [List.flatMap_cons]
    by_cases h0 : x < 0
    · rw [arity_var h0] at h1
      rw [Nat.add_comm]
      exact (hs x h0).append (Forest.fill hs t m (by simpa using h1))
    · rw [lk_sym (by omega)]
      exact (Forest.cons hx).2 (Forest.fill hs t _ h1)
theorem fillGo_flat {s : RowL} : ∀ (t acc u : List Int), fillGo s t acc = some u → u = acc ++ t.flatMap (lk s)
  | [], acc, u, h => by simp [fillGo] at h; simp [h]
  | n :: t, acc, u, h => by
    rw [fillGo] at h
    split at h
    · cases h
    · rw [fillGo_flat t _ u h, List.flatMap_cons, List.append_assoc]
theorem fillL_flat {s : RowL} {t u : List Int} (h : fillL s t = some u) : u = t.flatMap (lk s) := by
  have := fillGo_flat t [] u h
  simpa using this
def RowsOk (ar : List Int) (s : RowL) : Prop := ∀ i, s.getD i [] = [] ∨ termOk ar (s.getD i []) = true
theorem lk_forest {ar : List Int} {s : RowL} (h : RowsOk ar s) (hs : sigOk ar = true) (x : Int) (hx : x < 0) : Forest ar (lk s x) 1 := by
  unfold lk
  rw [if_neg (by omega)]
  split
  · have : Forest ar [x] (0 + 1) := (Forest.cons (by have := sigOk_spec hs; omega)).2 (by rw [arity_var hx]; rfl)
    exact this
  · rename_i e
    exact (termOk_iff.1 ((h (varIx x)).resolve_left e)).whole
theorem lk_ge {ar : List Int} {s : RowL} (h : RowsOk ar s) {x : Int} (hx : -24 ≤ x) : ∀ y ∈ lk s x, -24 ≤ y := by
  intro y hy
  unfold lk at hy
  split at hy
  · simp at hy; omega
  · split at hy
    · simp at hy; omega
    · rename_i e; exact (termOk_iff.1 ((h (varIx x)).resolve_left e)).ge y hy
theorem fill_ok {ar : List Int} {s : RowL} {t u : List Int} (h : RowsOk ar s) (ht : termOk ar t = true) (hu : fillL s t = some u) : termOk ar u = true := by
  have hT := termOk_iff.1 ht
  have hl := fillL_len hu
  have hf := Forest.fill (lk_forest h hT.sig) t 1 hT.whole
  rw [← fillL_flat hu] at hf
  refine termOk_iff.2 ⟨hT.sig, by have := hT.pos; omega, hl.1, ?_, hf⟩
  rw [fillL_flat hu]
  intro y hy
  obtain ⟨x, hx, hy⟩ := List.mem_flatMap.1 hy
  exact lk_ge h (hT.ge x hx) y hy
theorem mGo_ok {ar t : List Int} (ht : termOk ar t = true) : ∀ (p : List Int) (i : Nat) (b r : RowL), mGo ar t p i b = some r → RowsOk ar b → RowsOk ar r
  | [], i, b, r, h, hb => by simp [mGo] at h; subst h; exact hb
  | n :: p, i, b, r, h, hb => by
    rw [mGo] at h
    split at h
    · cases h
    · rename_i hi
      split at h
      · split at h
        · exact mGo_ok ht p _ _ _ h hb
        · cases h
      · split at h
        · refine mGo_ok ht p _ _ _ h (fun k => ?_)
          by_cases e : varIx n = k
          · subst e
            rcases Nat.lt_or_ge (varIx n) b.length with hl | hl
            · have : (b.set (varIx n) (sub ar t i)).getD (varIx n) [] = sub ar t i := by simp [List.getD_eq_getElem?_getD, hl]
              rw [this]; exact .inr (sub_ok ht (by omega))
            · rw [List.set_eq_of_length_le hl]; exact hb _
          · rw [List.getD_eq_getElem?_getD, List.getElem?_set_ne e, ← List.getD_eq_getElem?_getD]; exact hb k
        · split at h
          · exact mGo_ok ht p _ _ _ h hb
          · cases h
theorem matchB_ok {ar p t : List Int} {b : RowL} (ht : termOk ar t = true) (h : matchB ar p t = some b) : RowsOk ar b := by
  refine mGo_ok ht p 0 _ b h (fun k => .inl ?_)
  rw [List.getD_eq_getElem?_getD, List.getElem?_replicate]
  split <;> rfl
theorem Forest.swap {ar S U B : List Int} (hS : Forest ar S 1) (hU : Forest ar U 1) (hp : S ≠ []) : ∀ (A : List Int) (n : Nat), Forest ar (A ++ S ++ B) n → Forest ar (A ++ U ++ B) n
  | [], n, h => by
    simp only [List.nil_append] at h ⊢
    cases S with
    | nil => exact absurd rfl hp
    | cons x S =>
      obtain ⟨m, rfl, _⟩ := Forest.lt h
      unfold Forest at h
      rw [Nat.add_comm] at h
      obtain ⟨e1, e2, h1, h2, h3⟩ := endGo_split h
      have h4 := endGo_more (b := B) hS
      rw [h4] at h1
      cases h1
      rw [List.drop_left] at h2
      have hB : Forest ar B m := by
        unfold Forest
        rw [h2]
        rw [List.length_append] at h3
        congr 1; omega
      rw [Nat.add_comm]
      exact hU.append hB
  | x :: A, n, h => by
    obtain ⟨m, rfl, hx⟩ := Forest.lt h
    exact (Forest.cons hx).2 (Forest.swap hS hU hp A _ ((Forest.cons hx).1 h))
theorem parts {ar t : List Int} {p : Nat} (ht : termOk ar t = true) (hp : p < t.length) : t = t.take p ++ sub ar t p ++ t.drop (endN ar t p) := by
  have he := endN_spec ht hp
  have : sub ar t p ++ t.drop (endN ar t p) = t.drop p := by
    unfold sub
    have e : t.drop (endN ar t p) = (t.drop p).drop (endN ar t p - p) := by rw [List.drop_drop]; congr 1; omega
    rw [e, List.take_append_drop]
  rw [List.append_assoc, this, List.take_append_drop]
theorem put_ok {ar t u v : List Int} {p : Nat} (ht : termOk ar t = true) (hp : p < t.length) (hu : termOk ar u = true) (h : putL ar t p u = some v) : termOk ar v = true := by
  unfold putL at h
  split at h
  · cases h
  · rename_i hl
    cases h
    have hT := termOk_iff.1 ht
    have hU := termOk_iff.1 hu
    refine termOk_iff.2 ⟨hT.sig, by have := hU.pos; simp; omega, by omega, ?_, ?_⟩
    · intro x hx
      simp only [List.mem_append] at hx
      rcases hx with (hx | hx) | hx
      · exact hT.ge x (List.mem_of_mem_take hx)
      · exact hU.ge x hx
      · exact hT.ge x (List.mem_of_mem_drop hx)
    · have h1 : Forest ar (t.take p ++ sub ar t p ++ t.drop (endN ar t p)) 1 := by rw [← parts ht hp]; exact hT.whole
      exact Forest.swap (termOk_iff.1 (sub_ok ht hp)).whole hU.whole (sub_ne ht hp) _ _ h1
theorem stepL_ok {ar : List Int} {rs : Rules} {t u : List Int} {p r : Nat} (hs : sysOk ar rs = true) (ht : termOk ar t = true) (hp : p < t.length) (hr : r < rs.length) (h : stepL ar rs t p r = some u) : termOk ar u = true := by
  have hR := ruleOk_iff.1 ((sysOk_iff.1 hs).2.2 r hr)
  unfold stepL at h
  split at h
  · cases h
  · rename_i b hb
    split at h
    · cases h
    · rename_i w hw
      exact put_ok ht hp (fill_ok (matchB_ok (sub_ok ht hp) hb) hR.right hw) h
section
variable {ar : List Int} {rs : Rules} {t u : List Int} {st : Int} {m : Nat}
end
end Go.Proofs.Ytmaaifhmhclhdaa.M
set_option linter.unusedSimpArgs false
set_option linter.unusedVariables false
namespace Go.Proofs.Ytmaaifhmhclhdaa.M
section
variable {ar : List Int} {rs : Rules} {t : List Int} {p k j : Nat}
end
end Go.Proofs.Ytmaaifhmhclhdaa.M
set_option linter.unusedSimpArgs false
set_option linter.unusedVariables false
namespace Go.Proofs.Ytmaaifhmhclhdaa.M
end Go.Proofs.Ytmaaifhmhclhdaa.M
set_option linter.unusedSimpArgs false
set_option linter.unusedVariables false
namespace Go.Proofs.Ytmaaifhmhclhdaa.M
def flatStep (s : Int × Int × List Int) : List Int := s.1 :: s.2.1 :: s.2.2
abbrev StepL := Int × Int × List Int
def stepAtOk (ar : List Int) (rs : Rules) (t : List Int) (p r : Int) : Bool := rightB ar rs t && decide (0 ≤ p ∧ p < (t.length : Int)) && decide (0 ≤ r ∧ r < (rs.length : Int))
def stepAtL (ar : List Int) (rs : Rules) (t : List Int) (p r : Int) : Option (List Int) := if stepAtOk ar rs t p r = true then stepL ar rs t p.toNat r.toNat else none
def goOk (ar : List Int) (rs : Rules) : List Int → List StepL → Bool
  | _, [] => true
  | t, s :: ss => decide (stepAtL ar rs t s.1 s.2.1 = some s.2.2) && goOk ar rs s.2.2 ss
def endL (f : List Int) (ss : List StepL) : List Int := if ss.length = 0 then f else (ss.getD (ss.length - 1) (0, 0, [])).2.2
def walkOkL (ar : List Int) (rs : Rules) (f : List Int) (ss : List StepL) : Bool := rightB ar rs f && decide (ss.length ≤ 60) && goOk ar rs f ss
variable {ar : List Int} {rs : Rules} {t f : List Int} {ss : List StepL}
theorem walkOkL_iff : walkOkL ar rs f ss = true ↔ rightB ar rs f = true ∧ ss.length ≤ 60 ∧ goOk ar rs f ss = true := by simp [walkOkL, and_assoc]
theorem stepAtL_ok {p r : Int} {u : List Int} (h : stepAtL ar rs t p r = some u) : rightB ar rs u = true ∧ stepAtOk ar rs t p r = true := by
  unfold stepAtL at h
  split at h
  · rename_i hk
    have hk' := hk
    simp only [stepAtOk, Bool.and_eq_true, decide_eq_true_eq] at hk
    obtain ⟨⟨h1, h2⟩, h3⟩ := hk
    have hs := (right_iff.1 h1).1
    exact ⟨right_iff.2 ⟨hs, stepL_ok hs (right_iff.1 h1).2 (by omega) (by omega) h⟩, hk'⟩
  · cases h
def nowL (f : List Int) (ss : List StepL) (k : Nat) : List Int := endL f (ss.take k)
theorem nowL_zero : nowL f ss 0 = f := by simp [nowL, endL]
theorem nowL_succ {k : Nat} (h : k < ss.length) : nowL f ss (k + 1) = (ss.getD k (0, 0, [])).2.2 := by
  have hl : (ss.take (k + 1)).length = k + 1 := by rw [List.length_take]; omega
  unfold nowL endL
  rw [hl, if_neg (by omega)]
  congr 2
  simp [List.getD, h]
theorem nowL_all : nowL f ss ss.length = endL f ss := by rw [nowL, List.take_length]
theorem goOk_drop {k : Nat} (h : k < ss.length) : goOk ar rs t (ss.drop k) = (decide (stepAtL ar rs t (ss.getD k (0, 0, [])).1 (ss.getD k (0, 0, [])).2.1 = some (ss.getD k (0, 0, [])).2.2) && goOk ar rs (ss.getD k (0, 0, [])).2.2 (ss.drop (k + 1))) := by
  rw [drop_get (0, 0, []) h]; rfl
theorem goOk_end {k : Nat} (h : ss.length ≤ k) : goOk ar rs t (ss.drop k) = true := by rw [List.drop_eq_nil_of_le h]; rfl
theorem goOk_now (h : goOk ar rs f ss = true) (hr : rightB ar rs f = true) : ∀ k, k ≤ ss.length → rightB ar rs (nowL f ss k) = true ∧ goOk ar rs (nowL f ss k) (ss.drop k) = true
  | 0, _ => by rw [nowL_zero]; exact ⟨hr, h⟩
  | k + 1, hk => by
    obtain ⟨h1, h2⟩ := goOk_now h hr k (by omega)
    rw [goOk_drop (by omega), Bool.and_eq_true, decide_eq_true_eq] at h2
    rw [nowL_succ (by omega)]
    exact ⟨(stepAtL_ok h2.1).1, h2.2⟩
theorem walkOk_end (h : walkOkL ar rs f ss = true) : rightB ar rs (endL f ss) = true := by
  obtain ⟨h1, _, h3⟩ := walkOkL_iff.1 h
  have := (goOk_now h3 h1 ss.length (Nat.le_refl _)).1
  rwa [nowL_all] at this
theorem walkOk_step (h : walkOkL ar rs f ss = true) {k : Nat} (hk : k < ss.length) : stepAtL ar rs (nowL f ss k) (ss.getD k (0, 0, [])).1 (ss.getD k (0, 0, [])).2.1 = some (ss.getD k (0, 0, [])).2.2 := by
  obtain ⟨h1, _, h3⟩ := walkOkL_iff.1 h
  have := (goOk_now h3 h1 k (by omega)).2
  rw [goOk_drop hk, Bool.and_eq_true, decide_eq_true_eq] at this
  exact this.1
theorem walkOk_to (h : walkOkL ar rs f ss = true) {k : Nat} (hk : k < ss.length) : termOk ar (ss.getD k (0, 0, [])).2.2 = true := (right_iff.1 (stepAtL_ok (walkOk_step h hk)).1).2
end Go.Proofs.Ytmaaifhmhclhdaa.M
set_option linter.unusedSimpArgs false
set_option linter.unusedVariables false
namespace Go.Proofs.Ytmaaifhmhclhdaa.M
section
variable {α : Type} {f : α → Nat} {l : List α} {k : Nat}
def gTo (f : α → Nat) (l : List α) (k : Nat) : Nat := ((l.take k).map f).sum
theorem gTo_succ (d : α) (h : k < l.length) : gTo f l k + f (l.getD k d) = gTo f l (k + 1) := by
  unfold gTo
  rw [take_succ_getD d h]
  simp
end
def lenS (s : StepL) : Nat := s.2.2.length
theorem flatStep_len (ss : List StepL) : (ss.flatMap flatStep).length ≤ 2 * ss.length + gTo lenS ss ss.length := by
  unfold gTo
  rw [List.take_length, List.length_flatMap]
  induction ss with
  | nil => simp
  | cons s ss ih => simp [flatStep, lenS] at ih ⊢; omega
section
variable {ar : List Int} {rs : Rules} {t u f : List Int} {ss : List StepL} {st : Int} {m k : Nat}
theorem goOk_next (hk : k < ss.length) (h1 : (stepAtL ar rs t (ss.getD k (0, 0, [])).1 (ss.getD k (0, 0, [])).2.1).isSome = true) (h2 : (stepAtL ar rs t (ss.getD k (0, 0, [])).1 (ss.getD k (0, 0, [])).2.1).getD [] = (ss.getD k (0, 0, [])).2.2) :
    goOk ar rs t (ss.drop k) = goOk ar rs ((stepAtL ar rs t (ss.getD k (0, 0, [])).1 (ss.getD k (0, 0, [])).2.1).getD []) (ss.drop (k + 1)) := by
  rw [goOk_drop hk]
  obtain ⟨v, hv⟩ := Option.isSome_iff_exists.1 h1
  rw [hv] at h2 ⊢
  simp only [Option.getD_some] at h2 ⊢
  subst h2
  simp
theorem goOk_fail (hk : k < ss.length) (h : (stepAtL ar rs t (ss.getD k (0, 0, [])).1 (ss.getD k (0, 0, [])).2.1).isSome = false ∨ (stepAtL ar rs t (ss.getD k (0, 0, [])).1 (ss.getD k (0, 0, [])).2.1).getD [] ≠ (ss.getD k (0, 0, [])).2.2) : goOk ar rs t (ss.drop k) = false := by
  rw [goOk_drop hk, Bool.and_eq_false_iff]
  refine .inl (decide_eq_false fun e => ?_)
  rw [e] at h
  rcases h with h | h
  · cases h
  · exact h rfl
def endT (ar : List Int) (rs : Rules) (f : List Int) (ss : List StepL) : List Int := if walkOkL ar rs f ss = true then endL f ss else []
theorem gTo_bound {N : Nat} {l : List StepL} (h : ∀ i, i < l.length → (l.getD i (0, 0, [])).2.2.length ≤ N) : ∀ k, k ≤ l.length → gTo lenS l k ≤ k * N
  | 0, _ => by simp [gTo]
  | k + 1, hk => by
    have h1 := gTo_bound h k (by omega)
    have h2 := h k (by omega)
    rw [← gTo_succ ((0, 0, []) : StepL) (by omega), Nat.succ_mul]
    have : lenS (l.getD k (0, 0, [])) = (l.getD k (0, 0, [])).2.2.length := rfl
    omega
theorem endT_len : (endT ar rs f ss).length ≤ 60 := by
  unfold endT
  split
  · rename_i h; exact (termOk_len (right_iff.1 (walkOk_end h)).2).2
  · simp
end
end Go.Proofs.Ytmaaifhmhclhdaa.M
set_option linter.unusedSimpArgs false
set_option linter.unusedVariables false
namespace Go.Proofs.Ytmaaifhmhclhdaa.M
section
variable {ar : List Int} {rs : Rules} {t f u : List Int} {ss acc : List StepL} {p : Nat} {k : Nat}
def insGo (ar t : List Int) (p : Nat) : List StepL → Option (List StepL)
  | [] => some []
  | s :: ss => match putL ar t p s.2.2 with
    | none => none
    | some u => (insGo ar t p ss).map (fun r => (s.1 + (p : Int), s.2.1, u) :: r)
def insB (ar : List Int) (rs : Rules) (f : List Int) (ss : List StepL) (t : List Int) (p : Int) : List Int × List StepL × Bool :=
  if walkOkL ar rs f ss = true ∧ posOk ar t p = true then
    match putL ar t p.toNat f, insGo ar t p.toNat ss with
    | some f', some ss' => (f', ss', true)
    | _, _ => ([], [], false)
  else ([], [], false)
def insR (ar : List Int) (f : List Int) (ss : List StepL) (t : List Int) (p : Nat) : List Int × List StepL × Bool :=
  match putL ar t p f, insGo ar t p ss with
  | some f', some ss' => (f', ss', true)
  | _, _ => ([], [], false)
theorem insB_R {p : Int} (hw : walkOkL ar rs f ss = true) (hp : posOk ar t p = true) : insB ar rs f ss t p = insR ar f ss t p.toNat := if_pos ⟨hw, hp⟩
theorem insR_from (h : (putL ar t p f).isSome = false) : insR ar f ss t p = ([], [], false) := by
  unfold insR
  cases hx : putL ar t p f with
  | none => rfl
  | some v => rw [hx] at h; cases h
theorem insR_steps (h : insGo ar t p ss = none) : insR ar f ss t p = ([], [], false) := by
  unfold insR
  rw [h]
  cases putL ar t p f <;> rfl
theorem insR_yes (h1 : (putL ar t p f).isSome = true) (h2 : insGo ar t p ss = some acc) : insR ar f ss t p = ((putL ar t p f).getD [], acc, true) := by
  obtain ⟨v, hv⟩ := Option.isSome_iff_exists.1 h1
  rw [insR, hv, h2]
  rfl
theorem insGo_next (hk : k < ss.length) (h : insGo ar t p ss = (insGo ar t p (ss.drop k)).map (fun r => acc ++ r)) (hu : (putL ar t p (ss.getD k (0, 0, [])).2.2).isSome = true) :
    insGo ar t p ss = (insGo ar t p (ss.drop (k + 1))).map (fun r => (acc ++ [((ss.getD k (0, 0, [])).1 + (p : Int), (ss.getD k (0, 0, [])).2.1, (putL ar t p (ss.getD k (0, 0, [])).2.2).getD [])]) ++ r) := by
  obtain ⟨v, hv⟩ := Option.isSome_iff_exists.1 hu
  rw [h, drop_get (0, 0, []) hk]
  show (match putL ar t p (ss.getD k (0, 0, [])).2.2 with | none => none | some u => (insGo ar t p (ss.drop (k + 1))).map (fun r => ((ss.getD k (0, 0, [])).1 + (p : Int), (ss.getD k (0, 0, [])).2.1, u) :: r)).map (fun r => acc ++ r) = _
  rw [hv]
  cases insGo ar t p (ss.drop (k + 1)) with
  | none => rfl
  | some r => simp
theorem insGo_fail (hk : k < ss.length) (h : insGo ar t p ss = (insGo ar t p (ss.drop k)).map (fun r => acc ++ r)) (hu : (putL ar t p (ss.getD k (0, 0, [])).2.2).isSome = false) : insGo ar t p ss = none := by
  rw [h, drop_get (0, 0, []) hk]
  show (match putL ar t p (ss.getD k (0, 0, [])).2.2 with | none => none | some u => (insGo ar t p (ss.drop (k + 1))).map (fun r => ((ss.getD k (0, 0, [])).1 + (p : Int), (ss.getD k (0, 0, [])).2.1, u) :: r)).map (fun r => acc ++ r) = _
  cases hx : putL ar t p (ss.getD k (0, 0, [])).2.2 with
  | none => rfl
  | some v => rw [hx] at hu; cases hu
theorem insGo_end (hk : ss.length ≤ k) (h : insGo ar t p ss = (insGo ar t p (ss.drop k)).map (fun r => acc ++ r)) : insGo ar t p ss = some acc := by
  rw [h, List.drop_eq_nil_of_le hk]
  simp [insGo]
theorem insGo_start : insGo ar t p ss = (insGo ar t p (ss.drop 0)).map (fun r => [] ++ r) := by
  simp
theorem insB_no {p : Int} (h : ¬ (walkOkL ar rs f ss = true ∧ posOk ar t p = true)) : insB ar rs f ss t p = ([], [], false) := if_neg h
theorem insB_from {p : Int} (h : (putL ar t p.toNat f).isSome = false) : insB ar rs f ss t p = ([], [], false) := by
  unfold insB
  cases hx : putL ar t p.toNat f with
  | none => simp
  | some v => rw [hx] at h; cases h
theorem insB_steps {p : Int} (h : insGo ar t p.toNat ss = none) : insB ar rs f ss t p = ([], [], false) := by
  unfold insB
  rw [h]
  cases putL ar t p.toNat f <;> simp
theorem insB_yes {p : Int} (hw : walkOkL ar rs f ss = true) (hp : posOk ar t p = true) (h1 : (putL ar t p.toNat f).isSome = true) (h2 : insGo ar t p.toNat ss = some acc) : insB ar rs f ss t p = ((putL ar t p.toNat f).getD [], acc, true) := by
  obtain ⟨v, hv⟩ := Option.isSome_iff_exists.1 h1
  rw [insB, if_pos ⟨hw, hp⟩, hv, h2]
  rfl
theorem walkOk_at (h : walkOkL ar rs f ss = true) (hk : k < ss.length) : 0 ≤ (ss.getD k (0, 0, [])).1 ∧ (ss.getD k (0, 0, [])).1 < 60 := by
  have h1 := walkOk_step h hk
  have h2 := (stepAtL_ok h1).2
  simp only [stepAtOk, Bool.and_eq_true, decide_eq_true_eq] at h2
  have h3 := termOk_len (right_iff.1 h2.1.1).2
  omega
theorem putL_len {v : List Int} (h : putL ar t p u = some v) (ho : termOk ar t = true) (hp : p < t.length) (hu : termOk ar u = true) : v.length ≤ 60 := (termOk_len (put_ok ho hp hu h)).2
theorem insGo_len : ∀ (ss : List StepL) (r : List StepL), insGo ar t p ss = some r → r.length = ss.length
  | [], r, h => by simp [insGo] at h; subst h; rfl
  | s :: ss, r, h => by
    unfold insGo at h
    split at h
    · cases h
    · obtain ⟨q, hq, rfl⟩ := Option.map_eq_some_iff.1 h
      simp [insGo_len ss q hq]
theorem insGo_to (ho : termOk ar t = true) (hp : p < t.length) : ∀ (ss : List StepL) (r : List StepL), (∀ i, i < ss.length → termOk ar (ss.getD i (0, 0, [])).2.2 = true) → insGo ar t p ss = some r → ∀ i, i < r.length → (r.getD i (0, 0, [])).2.2.length ≤ 60
  | [], r, _, h, i, hi => by simp [insGo] at h; subst h; simp at hi
  | s :: ss, r, hs, h, i, hi => by
    unfold insGo at h
    split at h
    · cases h
    · rename_i u hu
      obtain ⟨q, hq, rfl⟩ := Option.map_eq_some_iff.1 h
      cases i with
      | zero => exact putL_len hu ho hp (hs 0 (by simp))
      | succ i =>
        have := insGo_to ho hp ss q (fun j hj => hs (j + 1) (by simpa using hj)) hq i (by simpa using hi)
        simpa using this
theorem insB_bounds {p : Int} : (insB ar rs f ss t p).1.length ≤ 60 ∧ (∀ i, i < (insB ar rs f ss t p).2.1.length → ((insB ar rs f ss t p).2.1.getD i (0, 0, [])).2.2.length ≤ 60) ∧ ((insB ar rs f ss t p).2.1.flatMap flatStep).length ≤ 4000 ∧ (insB ar rs f ss t p).2.1.length ≤ 60 := by
  have nil : (([], [], false) : List Int × List StepL × Bool).1.length ≤ 60 ∧ (∀ i, i < (([], [], false) : List Int × List StepL × Bool).2.1.length → ((([], [], false) : List Int × List StepL × Bool).2.1.getD i (0, 0, [])).2.2.length ≤ 60) ∧ ((([], [], false) : List Int × List StepL × Bool).2.1.flatMap flatStep).length ≤ 4000 ∧ (([], [], false) : List Int × List StepL × Bool).2.1.length ≤ 60 :=
    ⟨by simp, fun i hi => by simp at hi, by simp, by simp⟩
  unfold insB
  split
  · rename_i h
    obtain ⟨hw, hpo⟩ := h
    simp only [posOk, Bool.and_eq_true, decide_eq_true_eq] at hpo
    obtain ⟨ho, hp⟩ := hpo
    split
    · rename_i f' ss' h1 h2
      have hf := walkOkL_iff.1 hw
      have e1 := putL_len h1 ho (by omega) (right_iff.1 hf.1).2
      have e2 := insGo_to ho (by omega) ss ss' (fun i hi => walkOk_to hw hi) h2
      have e3 := insGo_len ss ss' h2
      refine ⟨e1, e2, ?_, by show ss'.length ≤ 60; omega⟩
      have h4 := flatStep_len ss'
      have h5 := gTo_bound e2 _ (Nat.le_refl _)
      have h6 : ss'.length * 60 ≤ 60 * 60 := Nat.mul_le_mul_right 60 (by omega)
      show (ss'.flatMap flatStep).length ≤ 4000
      omega
    · exact nil
  · exact nil
end
end Go.Proofs.Ytmaaifhmhclhdaa.M
set_option linter.unusedSimpArgs false
set_option linter.unusedVariables false
namespace Go.Proofs.Ytmaaifhmhclhdaa.M
section
variable {ar : List Int} {rs : Rules} {t f : List Int} {ss : List StepL} {s : RowL} {p : Int}
def substOk (ar : List Int) (s : RowL) : Bool := sigOk ar && decide (s.length ≤ 24) && s.all (fun t => decide (t = []) || termOk ar t)
theorem substOk_iff : substOk ar s = true ↔ sigOk ar = true ∧ s.length ≤ 24 ∧ ∀ i, i < s.length → s.getD i [] = [] ∨ termOk ar (s.getD i []) = true := by
  unfold substOk
  simp only [Bool.and_eq_true, decide_eq_true_eq, List.all_eq_true, Bool.or_eq_true, and_assoc]
  refine and_congr_right fun _ => and_congr_right fun _ => ⟨fun h i hi => ?_, fun h x hx => ?_⟩
  · exact h _ (by simp [List.getD, hi])
  · obtain ⟨i, hi, rfl⟩ := List.getElem_of_mem hx
    simpa [List.getD, hi] using h i hi
theorem substOk_false (h : ¬ (sigOk ar = true ∧ s.length ≤ 24 ∧ ∀ i, i < s.length → s.getD i [] = [] ∨ termOk ar (s.getD i []) = true)) : substOk ar s = false := by
  cases hx : substOk ar s with
  | false => rfl
  | true => exact absurd (substOk_iff.1 hx) h
theorem substOk_rows (h : substOk ar s = true) : RowsOk ar s := fun i => by
  rcases Nat.lt_or_ge i s.length with hi | hi
  · exact (substOk_iff.1 h).2.2 i hi
  · left; rw [List.getD_eq_getElem?_getD, List.getElem?_eq_none hi]; rfl
theorem substOk_len (h : substOk ar s = true) (i : Nat) : (s.getD i []).length ≤ 60 := by
  rcases substOk_rows h i with h1 | h1
  · rw [h1]; simp
  · exact (termOk_len h1).2
theorem len_nil {l : List Int} (h : ¬ ((l.length : Nat) : Int) > 0) : l = [] := List.eq_nil_of_length_eq_zero (by omega)
theorem posOk_iff : posOk ar t p = true ↔ termOk ar t = true ∧ 0 ≤ p ∧ p < (t.length : Int) := by simp [posOk]
theorem fill_eq {v : List Int} (h : (fillL s f).isSome = true) : fillL s f = some v ↔ (fillL s f).getD [] = v := by
  obtain ⟨x, hx⟩ := Option.isSome_iff_exists.1 h
  rw [hx]; simp
end
end Go.Proofs.Ytmaaifhmhclhdaa.M
set_option linter.unusedSimpArgs false
set_option linter.unusedVariables false
namespace Go.Proofs.Ytmaaifhmhclhdaa.X
open Go
def FR (r : Option Nat) : Fence := { Fence.wide with round := r }
theorem callsIn_FR {r : Option Nat} {n : Nat} {P : Program} {f : FuncId} {args : Array Value} {w : World} {R : Ending → World → Prop} (h : Calls P f args w R) : CallsIn (FR r) n P f args w R := by
  have h1 : CallsIn Fence.wide n P f args w R := callsIn_wide.2 h
  exact h1
structure RepD (n : Nat) (d : List Deferred) (a : Act) (ρ : Env) : Prop where
  size : a.tmps.size = n
  defers : a.defers = d
  get : ∀ i, a.tmps.getD i undef = ρ i
theorem RepD.eval {n : Nat} {d : List Deferred} {a : Act} {ρ : Env} (h : RepD n d a ρ) : a.eval = evO ρ := by
  funext x
  cases x <;> first | rfl | exact h.get _
theorem RepD.of {n : Nat} {a : Act} {ρ : Env} (h : RepD n [] a ρ) : Rep n a ρ := ⟨h.size, h.defers, h.get⟩
theorem RepD.put {n : Nat} {ds : List Deferred} {a : Act} {ρ : Env} (h : RepD n ds a ρ) {d : Option Tmp} (hd : dOk n d = true) (v : Value) : RepD n ds (a.put d v) (putE ρ d v) := by
  have h' : Rep n { a with defers := [] } ρ := ⟨h.size, rfl, h.get⟩
  have := h'.put hd v
  refine ⟨?_, ?_, ?_⟩
  · have := this.size; cases d <;> exact this
  · cases d <;> exact h.defers
  · have := this.get; cases d <;> exact this
section
variable {P : Program} {n : Nat} {r0 : Option Nat} {d0 : List Deferred} {ops : Array Oper} {l : List Oper} {Q : QX} {ρ : Env} {F : FH} {L : List HP}
theorem wpIn_of_XOp {o : Oper} {K : Post} {a : Act} {w : World} {Q : Exit → Act → World → Prop} {N : Act → World → Prop}
    (h : XOp P o ρ F L K) (r : RepD n d0 a ρ) (H : Holds F L w) (hd : dOk n o.dst = true) (hn : ∀ c, o.op ≠ .defer c)
    (hN : ∀ v F' L' w', F ≤ F' → Holds F' L' w' → K v F' L' → RepD n d0 (a.put o.dst v) (putE ρ o.dst v) → N (a.put o.dst v) w') : o.wpIn (FR r0) 9 P a w N Q := by
  refine ⟨fun _ _ => trivial, ?_⟩
  rw [Oper.semAt_eq _ _ _ hn, r.eval]
  rcases h w H with ⟨v, w', F', L', h1, h2, h3, h4⟩ | ⟨w', F', L', h1, h2, h3, h4⟩ | ⟨f, args, w', h1, h2⟩
  · rw [h1]; exact hN v F' L' w' h2 h3 h4 (r.put hd v)
  · rw [h1]; exact hN undef F' L' w' h2 h3 h4 (r.put hd undef)
  · rw [h1]
    refine ⟨fun _ => by decide, callsIn_FR (h2.mono fun e w'' ⟨v, F', L', he, hle, hH, hk⟩ => ?_)⟩
    subst he
    exact hN v F' L' w'' hle hH hk (r.put hd v)
def Yld (P : Program) (l : Nat) (args : List Value) (F : FH) (L : List HP) (K : Post) : Prop :=
  ∀ w, Holds F L w → YieldAt Fence.wide 9 P l args.toArray w fun e w' => ∃ v F' L', e = .returned v ∧ F ≤ F' ∧ Holds F' L' w' ∧ K v F' L'
theorem Yld.mono {k : Nat} {args : List Value} {K K' : Post} (h : Yld P k args F L K) (hk : ∀ v F' L', F ≤ F' → K v F' L' → K' v F' L') : Yld P k args F L K' := by
  intro w H
  obtain ⟨fn, tmps, assign, body, hy, hr⟩ := h w H
  exact ⟨fn, tmps, assign, body, hy, hr.mono fun e w' ⟨v, F', L', a, b, c, d⟩ => ⟨v, F', L', a, b, c, hk _ _ _ b d⟩⟩
theorem Yld.weaken {k : Nat} {args : List Value} {K : Post} {L' : List HP} (s : Sub L L') (h : Yld P k args F L' K) : Yld P k args F L K := fun w H => h w (s.holds H)
end
section
variable {P : Program} {n : Nat} {r0 : Option Nat} {d0 : List Deferred} {Q : QX} {ρ : Env} {F : FH} {L : List HP}
end
section
variable {P : Program} {fn : Func} {Q : Post} {ρ : Env} {F F0 : FH} {L : List HP}
end
end Go.Proofs.Ytmaaifhmhclhdaa.X
set_option linter.unusedSimpArgs false
set_option linter.unusedVariables false
namespace Go.Proofs.Ytmaaifhmhclhdaa.X
open Go
end Go.Proofs.Ytmaaifhmhclhdaa.X
set_option linter.unusedSimpArgs false
set_option linter.unusedVariables false
namespace Go.Proofs.Ytmaaifhmhclhdaa.X
open Go
abbrev FoundT := List Int × Int × StepT × Int
def FoundF (F : FH) (es : List Value) (x : FoundT) : Prop := ∃ a0 a4, es = [a0, .int .i64 x.2.1, .int .i64 x.2.2.1.1, .int .i64 x.2.2.1.2.1, a4, .int .i64 x.2.2.2] ∧ IntsF F a0 x.1 ∧ IntsF F a4 x.2.2.1.2.2
theorem FoundF.mono {F F' : FH} (le : F ≤ F') (es : List Value) (x : FoundT) (h : FoundF F es x) : FoundF F' es x := by
  obtain ⟨a0, a4, e, h0, h4⟩ := h
  exact ⟨a0, a4, e, h0.mono le, h4.mono le⟩
def FoundsF (F : FH) (v : Value) (xs : List FoundT) (cs : List Value) : Prop := ArrF F 6 v xs.length cs ∧ CO 6 FoundF ([], 0, (0, 0, []), 0) F cs xs
theorem FoundsF.mono {F F' : FH} {v : Value} {xs : List FoundT} {cs : List Value} (h : FoundsF F v xs cs) (le : F ≤ F') : FoundsF F' v xs cs := ⟨h.1.mono le, CO.mono (FoundF.mono le) h.2⟩
theorem FoundsF.slv {F : FH} {L : List HP} {v : Value} {xs : List FoundT} {cs : List Value} (h : FoundsF F v xs cs) : SlV F L v xs.length := SlV.arr h.1
theorem FoundsF.isSl {F : FH} {v : Value} {xs : List FoundT} {cs : List Value} (h : FoundsF F v xs cs) : IsSl v := h.1.isSl
theorem FoundsF.rd {F : FH} {v : Value} {xs : List FoundT} {cs : List Value} (h : FoundsF F v xs cs) {i : Nat} (hi : i < xs.length) : ∃ a0 a4, IntsF F a0 (xs.getD i ([], 0, (0, 0, []), 0)).1 ∧ IntsF F a4 (xs.getD i ([], 0, (0, 0, []), 0)).2.2.1.2.2 ∧ (∀ L j u, ([a0, .int .i64 (xs.getD i ([], 0, (0, 0, []), 0)).2.1, .int .i64 (xs.getD i ([], 0, (0, 0, []), 0)).2.2.1.1, .int .i64 (xs.getD i ([], 0, (0, 0, []), 0)).2.2.1.2.1, a4, .int .i64 (xs.getD i ([], 0, (0, 0, []), 0)).2.2.2] : List Value)[j]? = some u → Rd F L (elemA v (i * 6 + j)) u) ∧ (∀ j u, ([a0, .int .i64 (xs.getD i ([], 0, (0, 0, []), 0)).2.1, .int .i64 (xs.getD i ([], 0, (0, 0, []), 0)).2.2.1.1, .int .i64 (xs.getD i ([], 0, (0, 0, []), 0)).2.2.1.2.1, a4, .int .i64 (xs.getD i ([], 0, (0, 0, []), 0)).2.2.2] : List Value)[j]? = some u → cs[i * 6 + j]? = some u) := by
  obtain ⟨es, h1, h2, a0, a4, rfl, h0, h4⟩ := h.2.2 i hi
  refine ⟨a0, a4, h0, h4, fun L j u hu => ?_, fun j u hu => ?_⟩
  · have := Rd.arrN (L := L) (k := i * 6) (vs := [a0, .int .i64 (xs.getD i ([], 0, (0, 0, []), 0)).2.1, .int .i64 (xs.getD i ([], 0, (0, 0, []), 0)).2.2.1.1, .int .i64 (xs.getD i ([], 0, (0, 0, []), 0)).2.2.1.2.1, a4, .int .i64 (xs.getD i ([], 0, (0, 0, []), 0)).2.2.2]) h.1 (by rw [h1]; exact h2) j u hu
    rwa [elemA_add] at this
  · rw [← h2, List.getElem?_take] at hu
    split at hu
    · rwa [List.getElem?_drop] at hu
    · cases hu
def FoundsC (F : FH) (cs : List Value) (xs : List FoundT) : Prop := CO 6 FoundF ([], 0, (0, 0, []), 0) F cs xs
theorem FoundsC.mono {F F' : FH} {cs : List Value} {xs : List FoundT} (h : FoundsC F cs xs) (le : F ≤ F') : FoundsC F' cs xs := CO.mono (FoundF.mono le) h
theorem FoundsC.snoc {F : FH} {cs : List Value} {xs : List FoundT} {a0 a4 : Value} {y0 : List Int} {y1 : Int} {y2 : Int} {y3 : Int} {y4 : List Int} {y5 : Int} (h : FoundsC F cs xs) (h0 : IntsF F a0 y0) (h4 : IntsF F a4 y4) : FoundsC F (cs ++ [a0, .int .i64 y1, .int .i64 y2, .int .i64 y3, a4, .int .i64 y5]) (xs ++ [(y0, y1, (y2, y3, y4), y5)]) := CO.snoc h rfl ⟨a0, a4, rfl, h0, h4⟩
theorem FoundsC.get {F : FH} {cs : List Value} {xs : List FoundT} (h : FoundsC F cs xs) {i : Nat} (hi : i < xs.length) : ∃ a0 a4, IntsF F a0 (xs.getD i ([], 0, (0, 0, []), 0)).1 ∧ IntsF F a4 (xs.getD i ([], 0, (0, 0, []), 0)).2.2.1.2.2 ∧ (∀ j u, ([a0, .int .i64 (xs.getD i ([], 0, (0, 0, []), 0)).2.1, .int .i64 (xs.getD i ([], 0, (0, 0, []), 0)).2.2.1.1, .int .i64 (xs.getD i ([], 0, (0, 0, []), 0)).2.2.1.2.1, a4, .int .i64 (xs.getD i ([], 0, (0, 0, []), 0)).2.2.2] : List Value)[j]? = some u → cs[i * 6 + j]? = some u) := by
  obtain ⟨es, hl, ⟨a0, a4, rfl, h0, h4⟩, hr⟩ := CO.get h hi
  exact ⟨a0, a4, h0, h4, hr⟩
theorem FoundsC.fz {F : FH} {cs : List Value} {xs : List FoundT} {E : TypeId} {v : Value} {n : Nat} (h : FoundsC F cs xs) (hn : n = xs.length) (hf : Fz (slH E 6 v n cs) F) : FoundsF F v xs cs := by
  subst hn
  exact ⟨hf.sl, h⟩
abbrev MoveT := Int × Int × Bool × List Int
def MoveF (F : FH) (es : List Value) (x : MoveT) : Prop := ∃ a3, es = [.int .i64 x.1, .int .i64 x.2.1, .bool x.2.2.1, a3] ∧ IntsF F a3 x.2.2.2
theorem MoveF.mono {F F' : FH} (le : F ≤ F') (es : List Value) (x : MoveT) (h : MoveF F es x) : MoveF F' es x := by
  obtain ⟨a3, e, h3⟩ := h
  exact ⟨a3, e, h3.mono le⟩
def MovesF : FH → Value → List MoveT → Prop := SlOf 4 MoveF (0, 0, false, [])
theorem MovesF.mono {F F' : FH} {v : Value} {xs : List MoveT} (h : MovesF F v xs) (le : F ≤ F') : MovesF F' v xs := SlOf.mono (MoveF.mono le) h le
theorem MovesF.slv {F : FH} {L : List HP} {v : Value} {xs : List MoveT} (h : MovesF F v xs) : SlV F L v xs.length := SlOf.slv h
theorem MovesF.isSl {F : FH} {v : Value} {xs : List MoveT} (h : MovesF F v xs) : IsSl v := by obtain ⟨_, h, _⟩ := h; exact h.isSl
theorem MovesF.rd {F : FH} {v : Value} {xs : List MoveT} (h : MovesF F v xs) {i : Nat} (hi : i < xs.length) : ∃ a3, IntsF F a3 (xs.getD i (0, 0, false, [])).2.2.2 ∧ (∀ L j u, ([.int .i64 (xs.getD i (0, 0, false, [])).1, .int .i64 (xs.getD i (0, 0, false, [])).2.1, .bool (xs.getD i (0, 0, false, [])).2.2.1, a3] : List Value)[j]? = some u → Rd F L (elemA v (i * 4 + j)) u) ∧ True := by
  obtain ⟨es, hl, ⟨a3, rfl, h3⟩, hr⟩ := SlOf.get h hi
  exact ⟨a3, h3, hr, trivial⟩
def MovesC (F : FH) (cs : List Value) (xs : List MoveT) : Prop := CO 4 MoveF (0, 0, false, []) F cs xs
theorem MovesC.mono {F F' : FH} {cs : List Value} {xs : List MoveT} (h : MovesC F cs xs) (le : F ≤ F') : MovesC F' cs xs := CO.mono (MoveF.mono le) h
theorem MovesC.snoc {F : FH} {cs : List Value} {xs : List MoveT} {a3 : Value} {y0 : Int} {y1 : Int} {y2 : Bool} {y3 : List Int} (h : MovesC F cs xs) (h3 : IntsF F a3 y3) : MovesC F (cs ++ [.int .i64 y0, .int .i64 y1, .bool y2, a3]) (xs ++ [(y0, y1, y2, y3)]) := CO.snoc h rfl ⟨a3, rfl, h3⟩
theorem MovesC.get {F : FH} {cs : List Value} {xs : List MoveT} (h : MovesC F cs xs) {i : Nat} (hi : i < xs.length) : ∃ a3, IntsF F a3 (xs.getD i (0, 0, false, [])).2.2.2 ∧ (∀ j u, ([.int .i64 (xs.getD i (0, 0, false, [])).1, .int .i64 (xs.getD i (0, 0, false, [])).2.1, .bool (xs.getD i (0, 0, false, [])).2.2.1, a3] : List Value)[j]? = some u → cs[i * 4 + j]? = some u) := by
  obtain ⟨es, hl, ⟨a3, rfl, h3⟩, hr⟩ := CO.get h hi
  exact ⟨a3, h3, hr⟩
abbrev PolyT := Int × List Int
def PolyF (F : FH) (es : List Value) (x : PolyT) : Prop := ∃ a1, es = [.int .i64 x.1, a1] ∧ IntsF F a1 x.2
theorem PolyF.mono {F F' : FH} (le : F ≤ F') (es : List Value) (x : PolyT) (h : PolyF F es x) : PolyF F' es x := by
  obtain ⟨a1, e, h1⟩ := h
  exact ⟨a1, e, h1.mono le⟩
def PolysF : FH → Value → List PolyT → Prop := SlOf 2 PolyF (0, [])
theorem PolysF.mono {F F' : FH} {v : Value} {xs : List PolyT} (h : PolysF F v xs) (le : F ≤ F') : PolysF F' v xs := SlOf.mono (PolyF.mono le) h le
theorem PolysF.slv {F : FH} {L : List HP} {v : Value} {xs : List PolyT} (h : PolysF F v xs) : SlV F L v xs.length := SlOf.slv h
theorem PolysF.isSl {F : FH} {v : Value} {xs : List PolyT} (h : PolysF F v xs) : IsSl v := by obtain ⟨_, h, _⟩ := h; exact h.isSl
theorem PolysF.rd {F : FH} {v : Value} {xs : List PolyT} (h : PolysF F v xs) {i : Nat} (hi : i < xs.length) : ∃ a1, IntsF F a1 (xs.getD i (0, [])).2 ∧ (∀ L j u, ([.int .i64 (xs.getD i (0, [])).1, a1] : List Value)[j]? = some u → Rd F L (elemA v (i * 2 + j)) u) ∧ True := by
  obtain ⟨es, hl, ⟨a1, rfl, h1⟩, hr⟩ := SlOf.get h hi
  exact ⟨a1, h1, hr, trivial⟩
def PolysC (F : FH) (cs : List Value) (xs : List PolyT) : Prop := CO 2 PolyF (0, []) F cs xs
theorem PolysC.mono {F F' : FH} {cs : List Value} {xs : List PolyT} (h : PolysC F cs xs) (le : F ≤ F') : PolysC F' cs xs := CO.mono (PolyF.mono le) h
theorem PolysC.snoc {F : FH} {cs : List Value} {xs : List PolyT} {a1 : Value} {y0 : Int} {y1 : List Int} (h : PolysC F cs xs) (h1 : IntsF F a1 y1) : PolysC F (cs ++ [.int .i64 y0, a1]) (xs ++ [(y0, y1)]) := CO.snoc h rfl ⟨a1, rfl, h1⟩
theorem PolysC.get {F : FH} {cs : List Value} {xs : List PolyT} (h : PolysC F cs xs) {i : Nat} (hi : i < xs.length) : ∃ a1, IntsF F a1 (xs.getD i (0, [])).2 ∧ (∀ j u, ([.int .i64 (xs.getD i (0, [])).1, a1] : List Value)[j]? = some u → cs[i * 2 + j]? = some u) := by
  obtain ⟨es, hl, ⟨a1, rfl, h1⟩, hr⟩ := CO.get h hi
  exact ⟨a1, h1, hr⟩
abbrev LineT := Int × List (List Int) × List Int
def LineF (F : FH) (es : List Value) (x : LineT) : Prop := ∃ a1 a2, es = [.int .i64 x.1, a1, a2] ∧ RowsF F a1 x.2.1 ∧ IntsF F a2 x.2.2
theorem LineF.mono {F F' : FH} (le : F ≤ F') (es : List Value) (x : LineT) (h : LineF F es x) : LineF F' es x := by
  obtain ⟨a1, a2, e, h1, h2⟩ := h
  exact ⟨a1, a2, e, h1.mono le, h2.mono le⟩
def LinesF : FH → Value → List LineT → Prop := SlOf 3 LineF (0, [], [])
theorem LinesF.mono {F F' : FH} {v : Value} {xs : List LineT} (h : LinesF F v xs) (le : F ≤ F') : LinesF F' v xs := SlOf.mono (LineF.mono le) h le
theorem LinesF.slv {F : FH} {L : List HP} {v : Value} {xs : List LineT} (h : LinesF F v xs) : SlV F L v xs.length := SlOf.slv h
theorem LinesF.isSl {F : FH} {v : Value} {xs : List LineT} (h : LinesF F v xs) : IsSl v := by obtain ⟨_, h, _⟩ := h; exact h.isSl
theorem LinesF.rd {F : FH} {v : Value} {xs : List LineT} (h : LinesF F v xs) {i : Nat} (hi : i < xs.length) : ∃ a1 a2, RowsF F a1 (xs.getD i (0, [], [])).2.1 ∧ IntsF F a2 (xs.getD i (0, [], [])).2.2 ∧ (∀ L j u, ([.int .i64 (xs.getD i (0, [], [])).1, a1, a2] : List Value)[j]? = some u → Rd F L (elemA v (i * 3 + j)) u) ∧ True := by
  obtain ⟨es, hl, ⟨a1, a2, rfl, h1, h2⟩, hr⟩ := SlOf.get h hi
  exact ⟨a1, a2, h1, h2, hr, trivial⟩
def LinesC (F : FH) (cs : List Value) (xs : List LineT) : Prop := CO 3 LineF (0, [], []) F cs xs
theorem LinesC.mono {F F' : FH} {cs : List Value} {xs : List LineT} (h : LinesC F cs xs) (le : F ≤ F') : LinesC F' cs xs := CO.mono (LineF.mono le) h
theorem LinesC.snoc {F : FH} {cs : List Value} {xs : List LineT} {a1 a2 : Value} {y0 : Int} {y1 : List (List Int)} {y2 : List Int} (h : LinesC F cs xs) (h1 : RowsF F a1 y1) (h2 : IntsF F a2 y2) : LinesC F (cs ++ [.int .i64 y0, a1, a2]) (xs ++ [(y0, y1, y2)]) := CO.snoc h rfl ⟨a1, a2, rfl, h1, h2⟩
theorem LinesC.get {F : FH} {cs : List Value} {xs : List LineT} (h : LinesC F cs xs) {i : Nat} (hi : i < xs.length) : ∃ a1 a2, RowsF F a1 (xs.getD i (0, [], [])).2.1 ∧ IntsF F a2 (xs.getD i (0, [], [])).2.2 ∧ (∀ j u, ([.int .i64 (xs.getD i (0, [], [])).1, a1, a2] : List Value)[j]? = some u → cs[i * 3 + j]? = some u) := by
  obtain ⟨es, hl, ⟨a1, a2, rfl, h1, h2⟩, hr⟩ := CO.get h hi
  exact ⟨a1, a2, h1, h2, hr⟩
abbrev CRuleT := List Int × List Int × List (List Int × List Int)
def CRuleF (F : FH) (es : List Value) (x : CRuleT) : Prop := ∃ a0 a1 a2, es = [a0, a1, a2] ∧ IntsF F a0 x.1 ∧ IntsF F a1 x.2.1 ∧ PairsF F a2 x.2.2
theorem CRuleF.mono {F F' : FH} (le : F ≤ F') (es : List Value) (x : CRuleT) (h : CRuleF F es x) : CRuleF F' es x := by
  obtain ⟨a0, a1, a2, e, h0, h1, h2⟩ := h
  exact ⟨a0, a1, a2, e, h0.mono le, h1.mono le, h2.mono le⟩
def CRulesF : FH → Value → List CRuleT → Prop := SlOf 3 CRuleF ([], [], [])
theorem CRulesF.mono {F F' : FH} {v : Value} {xs : List CRuleT} (h : CRulesF F v xs) (le : F ≤ F') : CRulesF F' v xs := SlOf.mono (CRuleF.mono le) h le
theorem CRulesF.slv {F : FH} {L : List HP} {v : Value} {xs : List CRuleT} (h : CRulesF F v xs) : SlV F L v xs.length := SlOf.slv h
theorem CRulesF.isSl {F : FH} {v : Value} {xs : List CRuleT} (h : CRulesF F v xs) : IsSl v := by obtain ⟨_, h, _⟩ := h; exact h.isSl
theorem CRulesF.rd {F : FH} {v : Value} {xs : List CRuleT} (h : CRulesF F v xs) {i : Nat} (hi : i < xs.length) : ∃ a0 a1 a2, IntsF F a0 (xs.getD i ([], [], [])).1 ∧ IntsF F a1 (xs.getD i ([], [], [])).2.1 ∧ PairsF F a2 (xs.getD i ([], [], [])).2.2 ∧ (∀ L j u, ([a0, a1, a2] : List Value)[j]? = some u → Rd F L (elemA v (i * 3 + j)) u) ∧ True := by
  obtain ⟨es, hl, ⟨a0, a1, a2, rfl, h0, h1, h2⟩, hr⟩ := SlOf.get h hi
  exact ⟨a0, a1, a2, h0, h1, h2, hr, trivial⟩
def CRulesC (F : FH) (cs : List Value) (xs : List CRuleT) : Prop := CO 3 CRuleF ([], [], []) F cs xs
theorem CRulesC.mono {F F' : FH} {cs : List Value} {xs : List CRuleT} (h : CRulesC F cs xs) (le : F ≤ F') : CRulesC F' cs xs := CO.mono (CRuleF.mono le) h
theorem CRulesC.snoc {F : FH} {cs : List Value} {xs : List CRuleT} {a0 a1 a2 : Value} {y0 : List Int} {y1 : List Int} {y2 : List (List Int × List Int)} (h : CRulesC F cs xs) (h0 : IntsF F a0 y0) (h1 : IntsF F a1 y1) (h2 : PairsF F a2 y2) : CRulesC F (cs ++ [a0, a1, a2]) (xs ++ [(y0, y1, y2)]) := CO.snoc h rfl ⟨a0, a1, a2, rfl, h0, h1, h2⟩
theorem CRulesC.get {F : FH} {cs : List Value} {xs : List CRuleT} (h : CRulesC F cs xs) {i : Nat} (hi : i < xs.length) : ∃ a0 a1 a2, IntsF F a0 (xs.getD i ([], [], [])).1 ∧ IntsF F a1 (xs.getD i ([], [], [])).2.1 ∧ PairsF F a2 (xs.getD i ([], [], [])).2.2 ∧ (∀ j u, ([a0, a1, a2] : List Value)[j]? = some u → cs[i * 3 + j]? = some u) := by
  obtain ⟨es, hl, ⟨a0, a1, a2, rfl, h0, h1, h2⟩, hr⟩ := CO.get h hi
  exact ⟨a0, a1, a2, h0, h1, h2, hr⟩
end Go.Proofs.Ytmaaifhmhclhdaa.X
set_option linter.unusedSimpArgs false
set_option linter.unusedVariables false
namespace Go.Proofs.Ytmaaifhmhclhdaa.X
open Go
def XStepsF (F : FH) (v : Value) (xs : List StepT) (cs : List Value) : Prop := ArrF F 3 v xs.length cs ∧ StepsC F cs xs
theorem XStepsF.mono {F F' : FH} {v : Value} {xs : List StepT} {cs : List Value} (h : XStepsF F v xs cs) (le : F ≤ F') : XStepsF F' v xs cs := ⟨h.1.mono le, h.2.mono le⟩
theorem XStepsF.steps {F : FH} {v : Value} {xs : List StepT} {cs : List Value} (h : XStepsF F v xs cs) : StepsF F v xs := ⟨cs, h.1, h.2.2⟩
theorem XStepsF.slv {F : FH} {L : List HP} {v : Value} {xs : List StepT} {cs : List Value} (h : XStepsF F v xs cs) : SlV F L v xs.length := SlV.arr h.1
theorem XStepsF.isSl {F : FH} {v : Value} {xs : List StepT} {cs : List Value} (h : XStepsF F v xs cs) : IsSl v := h.1.isSl
theorem XStepsF.rd {F : FH} {v : Value} {xs : List StepT} {cs : List Value} (h : XStepsF F v xs cs) {i : Nat} (hi : i < xs.length) : ∃ c, IntsF F c (xs.getD i (0, 0, [])).2.2 ∧ (∀ L, Rd F L (elemA v (i * 3)) (.int .i64 (xs.getD i (0, 0, [])).1)) ∧ (∀ L, Rd F L (elemA v (i * 3 + 1)) (.int .i64 (xs.getD i (0, 0, [])).2.1)) ∧ (∀ L, Rd F L (elemA v (i * 3 + 2)) c) ∧ cs[i * 3 + 2]? = some c := by
  obtain ⟨es, h1, h2, c, rfl, hc⟩ := h.2.2 i hi
  have hq : ∀ j u, ([.int .i64 (xs.getD i (0, 0, [])).1, .int .i64 (xs.getD i (0, 0, [])).2.1, c] : List Value)[j]? = some u → cs[i * 3 + j]? = some u := by
    intro j u hu
    rw [← h2, List.getElem?_take] at hu
    split at hu
    · rwa [List.getElem?_drop] at hu
    · cases hu
  have hr : ∀ L j u, ([.int .i64 (xs.getD i (0, 0, [])).1, .int .i64 (xs.getD i (0, 0, [])).2.1, c] : List Value)[j]? = some u → Rd F L (elemA v (i * 3 + j)) u := by
    intro L j u hu
    have := Rd.arrN (L := L) (k := i * 3) (vs := [.int .i64 (xs.getD i (0, 0, [])).1, .int .i64 (xs.getD i (0, 0, [])).2.1, c]) h.1 (by rw [h1]; exact h2) j u hu
    rwa [elemA_add] at this
  exact ⟨c, hc, fun L => by simpa using hr L 0 _ rfl, fun L => hr L 1 _ rfl, fun L => hr L 2 _ rfl, hq 2 _ rfl⟩
section
variable {F F' : FH} {A B M : List HP} {h : HP}
theorem Fresh.none (k : Fresh F F' (star (A ++ B))) : Fresh F F' (star A) := by
  obtain ⟨m, hm, nd, hp⟩ := k
  obtain ⟨a, b, ha, hb, rfl⟩ := star_append.1 hm
  refine ⟨a, ha, ?_, fun p h' => hp p (List.mem_append_left _ h')⟩
  rw [List.map_append] at nd
  exact (List.nodup_append.1 nd).1
end
def FrStepsF (F0 F : FH) (e : TypeId) (v : Value) (xs : List StepT) : Prop := ∃ acs Ls, XStepsF F v xs acs ∧ DeepL 3 (StepO e) acs xs Ls ∧ Fresh F0 F (star Ls)
theorem FrStepsF.mono {F0 F F' : FH} {e : TypeId} {v : Value} {xs : List StepT} (h : FrStepsF F0 F e v xs) (le : F ≤ F') : FrStepsF F0 F' e v xs := by
  obtain ⟨acs, Ls, h1, h2, h3⟩ := h
  exact ⟨acs, Ls, h1.mono le, h2, h3.mono le⟩
theorem FrStepsF.base {F0 F F1 : FH} {e : TypeId} {v : Value} {xs : List StepT} (h : FrStepsF F1 F e v xs) (le : F0 ≤ F1) : FrStepsF F0 F e v xs := by
  obtain ⟨acs, Ls, h1, h2, h3⟩ := h
  exact ⟨acs, Ls, h1, h2, h3.base le⟩
theorem FrStepsF.isSl {F0 F : FH} {e : TypeId} {v : Value} {xs : List StepT} (h : FrStepsF F0 F e v xs) : IsSl v := by
  obtain ⟨acs, Ls, h1, _, _⟩ := h
  exact h1.isSl
theorem FrStepsF.steps {F0 F : FH} {e : TypeId} {v : Value} {xs : List StepT} (h : FrStepsF F0 F e v xs) : StepsF F v xs := by
  obtain ⟨acs, Ls, h1, _, _⟩ := h
  exact h1.steps
end Go.Proofs.Ytmaaifhmhclhdaa.X
set_option linter.unusedSimpArgs false
set_option linter.unusedVariables false
namespace Go.Proofs.Ytmaaifhmhclhdaa.M
section
variable {ar : List Int} {rs : Rules} {a b t : List Int} {ts : RowL} {n : Int} {m k : Nat}
end
end Go.Proofs.Ytmaaifhmhclhdaa.M
set_option linter.unusedSimpArgs false
set_option linter.unusedVariables false
namespace Go.Proofs.Ytmaaifhmhclhdaa.M
section
variable {α : Type} {q : α → Bool} {l : List α} {d : α} {k : Nat}
end
section
variable {ar : List Int} {rs es : Rules} {a b : List Int} {n : Int} {m k : Nat}
end
end Go.Proofs.Ytmaaifhmhclhdaa.M
set_option linter.unusedSimpArgs false
set_option linter.unusedVariables false
namespace Go.Proofs.Ytmaaifhmhclhdaa.M
abbrev StepV := Int × Int × List Int
def stepOne (ar : List Int) (rs : Rules) (t : List Int) (p r : Nat) : List StepV := match stepL ar rs t p r with | some u => [((p : Int), (r : Int), u)] | none => []
def stepsRow (ar : List Int) (rs : Rules) (t : List Int) (p k : Nat) : List StepV := (List.range k).flatMap (stepOne ar rs t p)
def stepsTo (ar : List Int) (rs : Rules) (t : List Int) (p : Nat) : List StepV := (List.range p).flatMap fun q => stepsRow ar rs t q rs.length
def stepsL (ar : List Int) (rs : Rules) (t : List Int) : List StepV := stepsTo ar rs t t.length
def longOne (ar : List Int) (rs : Rules) (t : List Int) (p r : Nat) : Bool := isRedex ar rs t p r && !(stepL ar rs t p r).isSome
section
variable {ar t : List Int} {rs : Rules} {p r k : Nat} {u : List Int}
theorem stepsRow_succ : stepsRow ar rs t p (k + 1) = stepsRow ar rs t p k ++ stepOne ar rs t p k := by simp [stepsRow, List.range_succ]
theorem stepsTo_succ : stepsTo ar rs t (p + 1) = stepsTo ar rs t p ++ stepsRow ar rs t p rs.length := by simp [stepsTo, List.range_succ]
theorem redex_step (h : isRedex ar rs t p r = false) : stepL ar rs t p r = none := stepL_nomatch (by unfold isRedex at h; exact h)
theorem step_redex (h : (stepL ar rs t p r).isSome = true) : isRedex ar rs t p r = true := by
  cases hx : isRedex ar rs t p r with
  | true => rfl
  | false => rw [redex_step hx] at h; cases h
theorem one_some (h : (stepL ar rs t p r).isSome = true) : stepOne ar rs t p r = [((p : Int), (r : Int), (stepL ar rs t p r).getD [])] ∧ longOne ar rs t p r = false := by
  obtain ⟨u, hu⟩ := Option.isSome_iff_exists.1 h
  refine ⟨by unfold stepOne; rw [hu]; rfl, by unfold longOne; rw [h]; simp⟩
theorem stepOne_no (h : (stepL ar rs t p r).isSome = false) : stepOne ar rs t p r = [] := by
  unfold stepOne
  cases hx : stepL ar rs t p r with
  | none => rfl
  | some u => rw [hx] at h; cases h
theorem stepOne_len : (stepOne ar rs t p r).length ≤ 1 := by unfold stepOne; split <;> simp
theorem stepsRow_len : ∀ k, (stepsRow ar rs t p k).length ≤ k
  | 0 => by simp [stepsRow]
  | k + 1 => by have := stepsRow_len k; have := stepOne_len (ar := ar) (rs := rs) (t := t) (p := p) (r := k); rw [stepsRow_succ, List.length_append]; omega
theorem stepsTo_len (h : rs.length ≤ 12) : ∀ p, (stepsTo ar rs t p).length ≤ 12 * p
  | 0 => by simp [stepsTo]
  | p + 1 => by have := stepsTo_len h p; have := stepsRow_len (ar := ar) (rs := rs) (t := t) (p := p) rs.length; rw [stepsTo_succ, List.length_append]; omega
end
abbrev FoundV := List Int × Int × StepV × Int
def isIn (all : List FoundV) (t : List Int) : Bool := all.any fun x => decide (x.1 = t)
section
variable {ar t : List Int} {rs : Rules} {n d : Int} {k f : Nat} {all : List FoundV} {ss : List StepV}
abbrev EL (all : List FoundV) (k : Nat) : FoundV := all.getD k ([], 0, (0, 0, []), 0)
def AllOk (ar : List Int) (all : List FoundV) : Prop := ∀ i, i < all.length → termOk ar (EL all i).1 = true
theorem AllOk.snoc {x : FoundV} (h : AllOk ar all) (hx : termOk ar x.1 = true) : AllOk ar (all ++ [x]) := by
  intro i hi
  rw [List.length_append, List.length_singleton] at hi
  rcases Nat.lt_or_ge i all.length with h1 | h1
  · have := h i h1; unfold EL at *; rwa [List.getD_eq_getElem?_getD, List.getElem?_append_left h1, ← List.getD_eq_getElem?_getD]
  · obtain rfl : i = all.length := by omega
    unfold EL; simp [List.getD]; exact hx
def DeepOk (n : Int) (all : List FoundV) : Prop := ∀ i, i < all.length → 0 ≤ (EL all i).2.2.2 ∧ (EL all i).2.2.2 ≤ n
theorem DeepOk.snoc {x : FoundV} (h : DeepOk n all) (hx : 0 ≤ x.2.2.2 ∧ x.2.2.2 ≤ n) : DeepOk n (all ++ [x]) := by
  intro i hi
  rw [List.length_append, List.length_singleton] at hi
  rcases Nat.lt_or_ge i all.length with h1 | h1
  · have := h i h1; unfold EL at *; rwa [List.getD_eq_getElem?_getD, List.getElem?_append_left h1, ← List.getD_eq_getElem?_getD]
  · obtain rfl : i = all.length := by omega
    unfold EL; simp [List.getD]; exact hx
theorem isIn_some {i : Nat} {u : List Int} (hi : i < all.length) (h : (EL all i).1 = u) : isIn all u = true := by
  unfold isIn
  rw [List.any_eq_true]
  refine ⟨EL all i, ?_, by simpa using h⟩
  unfold EL; simp [List.getD, hi]
end
section
variable {all : List FoundV} {x : FoundV} {i : Nat}
theorem EL_snoc {k : Nat} (hk : k < all.length) : EL (all ++ [x]) k = EL all k := by unfold EL; rw [List.getD_eq_getElem?_getD, List.getElem?_append_left hk, ← List.getD_eq_getElem?_getD]
end
end Go.Proofs.Ytmaaifhmhclhdaa.M
set_option linter.unusedSimpArgs false
set_option linter.unusedVariables false
namespace Go.Proofs.Ytmaaifhmhclhdaa.X
open Go
theorem yielded_undef {n : Nat} {a : Act} {ρ : Env} (r : Rep n a ρ) {ops : Array Oper} {g : Nat} {t : Tmp} (ht : (ops[g]?).bind (·.dst) = some t) (hv : ρ t = undef) : yielded ops a.tmps g = none := by
  unfold yielded
  rw [ht]
  have := r.get t
  rw [hv, Array.getD_eq_getD_getElem?] at this
  cases hx : a.tmps[t]? with
  | none => simp [hx]
  | some x => rw [hx] at this; simp at this; subst this; simp [hx, undef]
theorem XL.noU {P : Program} {n : Nat} {ops : Array Oper} {l : List Oper} {Q : QX} {ρ : Env} {F : FH} {L : List HP}
    {d : Option Tmp} {op : Op} {ty : TypeId} {pos : String} {af : Array Edge} {g : Nat} {b : Bool} {t : Tmp} (ht : (ops[g]?).bind (·.dst) = some t) (hv : ρ t = undef)
    (h : XL P n ops l Q (putE ρ d undef) F L) : XL P n ops (⟨d, op, ty, pos, af, some (g, b)⟩ :: l) Q ρ F L := by
  intro ok a w r H
  simp only [opsOk, List.all_cons, Bool.and_eq_true] at ok
  unfold wpList
  rw [if_neg (by simp [Region.wanted, yielded_undef r ht hv])]
  exact h ok.2 _ _ (r.put ok.1 undef) H
def FrIntsF (F0 F : FH) (e : TypeId) (v : Value) (xs : List Int) : Prop := Fresh F0 F (intsH e v xs)
theorem FrIntsF.mono {F0 F F' : FH} {e : TypeId} {v : Value} {xs : List Int} (h : FrIntsF F0 F e v xs) (le : F ≤ F') : FrIntsF F0 F' e v xs := Fresh.mono h le
theorem FrIntsF.base {F0 F F1 : FH} {e : TypeId} {v : Value} {xs : List Int} (h : FrIntsF F1 F e v xs) (le : F0 ≤ F1) : FrIntsF F0 F e v xs := Fresh.base h le
end Go.Proofs.Ytmaaifhmhclhdaa.X
set_option linter.unusedSimpArgs false
set_option linter.unusedVariables false
namespace Go.Proofs.Ytmaaifhmhclhdaa.X
open Go
end Go.Proofs.Ytmaaifhmhclhdaa.X
set_option linter.unusedSimpArgs false
set_option linter.unusedVariables false
namespace Go.Proofs.Ytmaaifhmhclhdaa.X
open Go
section
variable {F F' G F1 F2 : FH} {D D' : HP} {L M : List HP} {P : Program} {o : Oper} {ρ : Env} {K : Post} {e E : TypeId}
theorem Fresh.perm {A B : List HP} (h : Fresh F F' (star A)) (p : A.Perm B) : Fresh F F' (star B) := by
  obtain ⟨m, hm, nd, hp⟩ := h
  obtain ⟨l, hl, pl⟩ := star_perm p m hm
  exact ⟨l, hl, ((pl.map Prod.fst).nodup_iff).2 nd, fun q hq => hp q (pl.mem_iff.1 hq)⟩
theorem Fresh.deepM {s n : Nat} {α : Type} {R : List Value → α → List HP → Prop} {v : Value} {cs : List Value} {xs : List α} {Ls : List HP} (hd : DeepL s R cs xs Ls) (h : Fresh F G (star (M ++ Ls))) (le0 : F ≤ G) (k : Fresh G F' (slH E s v n cs)) (hn : n = xs.length) (le : G ≤ F') : Fresh F F' (star (M ++ [deepH s R E v xs])) := by
  subst hn
  obtain ⟨m, hm, nd, hp⟩ := Fresh.cons h le0 k le
  obtain ⟨p, r, h1, h2, rfl⟩ := hm
  obtain ⟨x, q, hx, hq, rfl⟩ := star_append.1 h2
  have hpm : (p ++ (x ++ q)).Perm (x ++ ((p ++ q) ++ [])) := by
    rw [List.append_nil, ← List.append_assoc, ← List.append_assoc]
    exact List.perm_append_comm.append_right q
  exact ⟨x ++ ((p ++ q) ++ []), star_append.2 ⟨x, (p ++ q) ++ [], hx, ⟨p ++ q, [], ⟨cs, Ls, hd, p, q, h1, hq, rfl⟩, rfl, rfl⟩, rfl⟩, ((hpm.map Prod.fst).nodup_iff).1 nd, fun w hw => hp w (hpm.mem_iff.2 hw)⟩
theorem Fresh.left {A B : List HP} (h : Fresh F F' (star (A ++ B))) : Fresh F F' (star A) := h.none
theorem Fresh.right {A B : List HP} (h : Fresh F F' (star (A ++ B))) : Fresh F F' (star B) := (h.perm List.perm_append_comm).none
theorem StepsC.get {F : FH} {cs : List Value} {xs : List StepT} (h : StepsC F cs xs) {i : Nat} (hi : i < xs.length) :
    ∃ a, IntsF F a (xs.getD i (0, 0, [])).2.2 ∧ cs[i * 3]? = some (.int .i64 (xs.getD i (0, 0, [])).1) ∧ cs[i * 3 + 1]? = some (.int .i64 (xs.getD i (0, 0, [])).2.1) ∧ cs[i * 3 + 2]? = some a := by
  obtain ⟨es, _, ⟨a, rfl, ha⟩, hg⟩ := CO.get h hi
  exact ⟨a, ha, by simpa using hg 0 _ rfl, hg 1 _ rfl, hg 2 _ rfl⟩
def FreshsF (F0 F : FH) (D : HP) : Prop := Fresh F0 F D
theorem FreshsF.mono {F0 F F' : FH} {D : HP} (h : FreshsF F0 F D) (le : F ≤ F') : FreshsF F0 F' D := Fresh.mono h le
theorem slH.isSl {s n : Nat} {v : Value} {cs : List Value} {l : OH} (h : slH E s v n cs l) : IsSl v := by
  rcases h.2 with ⟨b, rfl, _⟩ | ⟨b, c, sp, rfl, _⟩
  · exact ⟨_, _, _, rfl⟩
  · exact ⟨_, _, _, rfl⟩
theorem Holds.openD {α : Type} {s : Nat} {R : List Value → α → List HP → Prop} {v : Value} {xs : List α} {A B : List HP} {w : World} (H : Holds F (A ++ deepH s R E v xs :: B) w) :
    ∃ cs Ls F2, F ≤ F2 ∧ IsSl v ∧ DeepL s R cs xs Ls ∧ Fresh F F2 (star Ls) ∧ Holds F2 (A ++ slH E s v xs.length cs :: B) w := by
  obtain ⟨h1, h2, h3, h4, l, hl, nd, hp⟩ := H
  obtain ⟨a, m, c, ha, ⟨cs, Ls, hd, x, y, hx, hy, rfl⟩, hc, rfl⟩ := star_mid.1 hl
  have H2 : Holds F ((A ++ [slH E s v xs.length cs]) ++ star Ls :: B) w := ⟨h1, h2, h3, h4, (a ++ x) ++ (y ++ c), star_append.2 ⟨a ++ x, y ++ c, star_append.2 ⟨a, x, ha, ⟨x, [], hx, rfl, by simp⟩, rfl⟩, ⟨y, c, hy, hc, rfl⟩, rfl⟩, by simpa using nd, fun p hq => hp p (by simpa using hq)⟩
  obtain ⟨F2, le, hz, H3, _⟩ := H2.lendF
  exact ⟨cs, Ls, F2, le, hx.isSl, hd, hz, by simpa using H3⟩
theorem XL.openD {n : Nat} {ops : Array Oper} {l : List Oper} {Q : QX} {α : Type} {s : Nat} {R : List Value → α → List HP → Prop} {v : Value} {xs : List α} (A B : List HP) (hL : L = A ++ deepH s R E v xs :: B)
    (H : ∀ cs Ls F2, F ≤ F2 → IsSl v → DeepL s R cs xs Ls → Fresh F F2 (star Ls) → XL P n ops l Q ρ F2 (A ++ slH E s v xs.length cs :: B)) : XL P n ops l Q ρ F L := by
  subst hL
  intro ok a w r Hw
  obtain ⟨cs, Ls, F2, le, hs, hd, hz, H'⟩ := Hw.openD
  exact wpList_mono (fun _ _ _ q => low_le le q) _ _ _ (H cs Ls F2 le hs hd hz ok a w r H')
end
end Go.Proofs.Ytmaaifhmhclhdaa.X
set_option linter.unusedSimpArgs false
set_option linter.unusedVariables false
namespace Go.Proofs.Ytmaaifhmhclhdaa.X
open Go
section
variable {F F' G : FH} {e E : TypeId} {v : Value}
def MoveO (e : TypeId) (es : List Value) (x : MoveT) (K : List HP) : Prop := ∃ c, es = [.int .i64 x.1, .int .i64 x.2.1, .bool x.2.2.1, c] ∧ K = [intsH e c x.2.2.2]
abbrev movesD (e E : TypeId) (v : Value) (xs : List MoveT) : HP := deepH 4 (MoveO e) E v xs
theorem MoveO.fz (es : List Value) (x : MoveT) (K : List HP) (h : MoveO e es x K) (hz : ∃ l, star K l ∧ ∀ p ∈ l, F.cells p.1 = some p.2) : MoveF F es x := by
  obtain ⟨c, rfl, rfl⟩ := h
  exact ⟨c, rfl, intsH.fz (E := e) (frozen_star hz _ (by simp))⟩
theorem movesD.fz {xs : List MoveT} (h : Fz (movesD e E v xs) F) : MovesF F v xs := deepH.fz MoveO.fz h
end
section
variable {P : Program} {ρ : Env} {F : FH} {L : List HP} {K : Post} {d : Option Tmp} {ty : TypeId} {pos : String} {af : Array Edge} {g : Option (Nat × Bool)}
theorem XOp.remC {x y : Operand} {t u : TypeId} {k : IntKind} {a b : Int} (hx : evO ρ x = .int k a) (hy : evO ρ y = .int k b) (h0 : 0 ≤ a) (hb : b ≠ 0) (kk : K (.int k (a % b)) F L) : XOp P ⟨d, .binOp .rem t x y u, ty, pos, af, g⟩ ρ F L K :=
  XOp.value (fun w _ => by simp [execOp, hx, hy, eqGuard, binOp, Op.intDiv, hb, IntWalk.rem_in _ _ h0]) kk
end
theorem StepsC.ones {F : FH} {cs : List Value} {xs : List StepT} (h : StepsC F cs xs) : ∀ u ∈ cs, u.oneCell' = true := by
  intro u hu
  obtain ⟨q, hq, rfl⟩ := List.getElem_of_mem hu
  have hl := h.1
  obtain ⟨es, h1, ⟨c, rfl, hc⟩, hg⟩ := CO.get h (i := q / 3) (by omega)
  have hj : q % 3 < 3 := Nat.mod_lt _ (by decide)
  have e : q / 3 * 3 + q % 3 = q := by omega
  have hx : ∀ v, [Value.int .i64 (xs.getD (q / 3) (0, 0, [])).1, .int .i64 (xs.getD (q / 3) (0, 0, [])).2.1, c][q % 3]? = some v → cs[q] = v := fun v hv => by
    have := hg (q % 3) v hv
    rw [e, List.getElem?_eq_getElem hq] at this
    exact Option.some.inj this
  obtain ⟨b, n, k, rfl⟩ := IntsF.isSl hc
  match hm : q % 3, hj with
  | 0, _ => rw [hx _ (by rw [hm]; rfl)]; rfl
  | 1, _ => rw [hx _ (by rw [hm]; rfl)]; rfl
  | 2, _ => rw [hx _ (by rw [hm]; rfl)]; rfl
end Go.Proofs.Ytmaaifhmhclhdaa.X
set_option linter.unusedSimpArgs false
set_option linter.unusedVariables false
namespace Go.Proofs.Ytmaaifhmhclhdaa.X
open Go
def WKJ (F0 : FH) (e ES T : TypeId) (bw : Nat) (fv : Value) (tl : List HP) (I : Nat → List StepT → Prop) (k : Nat) (Fy : FH) (Ly : List HP) : Prop :=
  ∃ (sv : Value) (ss : List StepT) (cs : List Value) (Ls : List HP) (m : Nat), IsSl sv ∧ StepsC Fy cs ss ∧ m = ss.length ∧ DeepL 3 (StepO e) cs ss Ls ∧ Fresh F0 Fy (star Ls) ∧ I k ss ∧ Ly = cellsH bw [fv, sv] T :: slH ES 3 sv m cs :: tl
theorem WKJ.mono {F0 F F' : FH} {e ES T : TypeId} {bw k : Nat} {fv : Value} {tl L : List HP} {I : Nat → List StepT → Prop} (h : WKJ F0 e ES T bw fv tl I k F L) (le : F ≤ F') : WKJ F0 e ES T bw fv tl I k F' L :=
  let ⟨sv, ss, cs, Ls, m, h1, h2, h3, h4, h5, h6, h7⟩ := h
  ⟨sv, ss, cs, Ls, m, h1, h2.mono le, h3, h4, h5.mono le, h6, h7⟩
section
variable {P : Program} {fn : Func} {Q : Post} {ρ : Env} {F F0 : FH} {L : List HP}
theorem Does.at {f : FuncId} {args : List Value} {Q : Value → FH → Prop} {h : HP} (A : List HP) {B : List HP} (H : Does P f args F (h :: (A ++ B)) fun v F' L' => Q v F' ∧ h :: (A ++ B) = L') : Does P f args F (A ++ h :: B) fun v F' L' => Q v F' ∧ A ++ h :: B = L' := fun w Hw =>
  (H w (Sub.front.holds Hw)).mono fun _ _ ⟨v, F', L', he, le, H', hq, hl⟩ => ⟨v, F', _, he, le, Sub.back.holds (hl ▸ H'), hq, rfl⟩
end
section
variable {P : Program} {ρ : Env} {F : FH} {L : List HP} {K : Post} {d : Option Tmp} {ty : TypeId} {pos : String} {af : Array Edge} {g : Option (Nat × Bool)}
end
end Go.Proofs.Ytmaaifhmhclhdaa.X
set_option linter.unusedSimpArgs false
set_option linter.unusedVariables false
namespace Go.Proofs.Ytmaaifhmhclhdaa.X
open Go
section
variable {P : Program} {ρ : Env} {F : FH} {L : List HP} {K : Post} {d : Option Tmp} {ty : TypeId} {pos : String} {af : Array Edge} {g : Option (Nat × Bool)}
theorem XOp.addW {x y : Operand} {t u : TypeId} {k : IntKind} {a b : Int} (hx : evO ρ x = .int k a) (hy : evO ρ y = .int k b) (kk : ∀ r, K (.int k r) F L) : XOp P ⟨d, .binOp .add t x y u, ty, pos, af, g⟩ ρ F L K :=
  XOp.value (v := .int k (k.wrap (a + b))) (fun w _ => by simp [execOp, hx, hy, eqGuard, binOp, Op.intArith]) (kk _)
theorem XOp.mulW {x y : Operand} {t u : TypeId} {k : IntKind} {a b : Int} (hx : evO ρ x = .int k a) (hy : evO ρ y = .int k b) (kk : ∀ r, K (.int k r) F L) : XOp P ⟨d, .binOp .mul t x y u, ty, pos, af, g⟩ ρ F L K :=
  XOp.value (v := .int k (k.wrap (a * b))) (fun w _ => by simp [execOp, hx, hy, eqGuard, binOp, Op.intArith]) (kk _)
theorem XOp.xorW {x y : Operand} {t u : TypeId} {k : IntKind} {a b : Int} (hx : evO ρ x = .int k a) (hy : evO ρ y = .int k b) (kk : ∀ r, K (.int k r) F L) : XOp P ⟨d, .binOp .xor t x y u, ty, pos, af, g⟩ ρ F L K :=
  XOp.value (v := .int k (k.wrap (BitVec.ofInt k.bits a ^^^ BitVec.ofInt k.bits b).toNat)) (fun w _ => by simp [execOp, hx, hy, eqGuard, binOp, Op.intBits]) (kk _)
theorem XOp.shrW {x y : Operand} {t u : TypeId} {k k' : IntKind} {a b : Int} (hx : evO ρ x = .int k a) (hy : evO ρ y = .int k' b) (hb : 0 ≤ b) (kk : ∀ r, K (.int k r) F L) : XOp P ⟨d, .binOp .shr t x y u, ty, pos, af, g⟩ ρ F L K :=
  XOp.value (v := .int k (a.fdiv (2 ^ min b.toNat k.bits))) (fun w _ => by simp [execOp, hx, hy, eqGuard, binOp, Op.shift, show ¬ b < 0 by omega]) (kk _)
theorem and_range {k : IntKind} (hk : k.bits = 64) {a b : Int} (hb : 0 ≤ b ∧ b < 4611686018427387904) : 0 ≤ k.wrap (BitVec.ofInt k.bits a &&& BitVec.ofInt k.bits b).toNat ∧ k.wrap (BitVec.ofInt k.bits a &&& BitVec.ofInt k.bits b).toNat ≤ b := by
  have h1 : ((BitVec.ofInt k.bits a &&& BitVec.ofInt k.bits b).toNat : Int) ≤ b := by
    rw [BitVec.toNat_and]
    have h2 : (BitVec.ofInt k.bits a).toNat &&& (BitVec.ofInt k.bits b).toNat ≤ (BitVec.ofInt k.bits b).toNat := Nat.and_le_right
    have h3 : ((BitVec.ofInt k.bits b).toNat : Int) = b := by
      rw [BitVec.toNat_ofInt, hk]
      have : b % ((2 ^ 64 : Nat) : Int) = b := Int.emod_eq_of_lt hb.1 (by omega)
      rw [this]; omega
    omega
  have h0 : (0 : Int) ≤ ((BitVec.ofInt k.bits a &&& BitVec.ofInt k.bits b).toNat : Int) := Int.natCast_nonneg _
  generalize ((BitVec.ofInt k.bits a &&& BitVec.ofInt k.bits b).toNat : Int) = r at h0 h1
  have e : k.wrap r = r := by
    cases k <;> first | exact IntWalk.i64_in _ ⟨by omega, by omega⟩ | exact IntWalk.u64_in _ ⟨by omega, by omega⟩ | (exfalso; revert hk; decide)
  rw [e]
  exact ⟨h0, h1⟩
theorem XOp.andW {x y : Operand} {t u : TypeId} {k : IntKind} {a b : Int} (hk : k.bits = 64) (hx : evO ρ x = .int k a) (hy : evO ρ y = .int k b) (hb : 0 ≤ b ∧ b < 4611686018427387904) (kk : ∀ r, 0 ≤ r ∧ r ≤ b → K (.int k r) F L) : XOp P ⟨d, .binOp .and t x y u, ty, pos, af, g⟩ ρ F L K :=
  XOp.value (v := .int k (k.wrap (BitVec.ofInt k.bits a &&& BitVec.ofInt k.bits b).toNat)) (fun w _ => by simp [execOp, hx, hy, eqGuard, binOp, Op.intBits]) (kk _ (and_range hk hb))
theorem XOp.remV {x y : Operand} {t u : TypeId} {k : IntKind} {a b : Int} (hx : evO ρ x = .int k a) (hy : evO ρ y = .int k b) (h0 : 0 ≤ a) (hb : 0 < b) (kk : ∀ r, 0 ≤ r ∧ r < b → K (.int k r) F L) : XOp P ⟨d, .binOp .rem t x y u, ty, pos, af, g⟩ ρ F L K :=
  XOp.remC hx hy h0 (by omega) (kk _ ⟨Int.emod_nonneg a (by omega), Int.emod_lt_of_pos a hb⟩)
end
def ByteE (F : FH) (es : List Value) (x : Int) : Prop := es = [.int .u8 x] ∧ 0 ≤ x ∧ x ≤ 255
theorem ByteE.mono {F F' : FH} (es : List Value) (x : Int) (h : ByteE F es x) : ByteE F' es x := h
def BytesF : FH → Value → List Int → Prop := SlOf 1 ByteE 0
theorem BytesF.mono {F F' : FH} {v : Value} {xs : List Int} (h : BytesF F v xs) (le : F ≤ F') : BytesF F' v xs := SlOf.mono ByteE.mono h le
theorem BytesF.slv {F : FH} {L : List HP} {v : Value} {xs : List Int} (h : BytesF F v xs) : SlV F L v xs.length := SlOf.slv h
theorem BytesF.isSl {F : FH} {v : Value} {xs : List Int} (h : BytesF F v xs) : IsSl v := by obtain ⟨_, h, _⟩ := h; exact h.isSl
theorem BytesF.rd {F : FH} {v : Value} {xs : List Int} (h : BytesF F v xs) {i : Nat} (hi : i < xs.length) : ∀ L, Rd F L (elemA v i) (.int .u8 (xs.getD i 0)) := by
  obtain ⟨es, hl, ⟨rfl, _⟩, hr⟩ := SlOf.get h hi
  intro L
  have := hr L 0 _ rfl
  simpa using this
theorem BytesF.range {F : FH} {v : Value} {xs : List Int} (h : BytesF F v xs) {i : Nat} (hi : i < xs.length) : 0 ≤ xs.getD i 0 ∧ xs.getD i 0 ≤ 255 := by
  obtain ⟨es, hl, ⟨rfl, h2⟩, hr⟩ := SlOf.get h hi
  exact h2
def curH (k : IntKind) (E : TypeId) (b : Nat) (bv : Value) (n : Nat) : HP := fun l => ∃ i h : Int, 0 ≤ i ∧ i ≤ n ∧ cellsH b [bv, .int .i64 i, .int k h] E l
theorem curH.of {k : IntKind} {E : TypeId} {b : Nat} {bv : Value} {n : Nat} {i h : Int} (h0 : 0 ≤ i) (h1 : i ≤ n) : ∀ l, cellsH b [bv, .int .i64 i, .int k h] E l → curH k E b bv n l := fun l hl => ⟨i, h, h0, h1, hl⟩
theorem Holds.uncur {k : IntKind} {E : TypeId} {b : Nat} {bv : Value} {n : Nat} {F : FH} {L : List HP} {w : World} (H : Holds F (curH k E b bv n :: L) w) : ∃ i h : Int, 0 ≤ i ∧ i ≤ n ∧ Holds F (cellsH b [bv, .int .i64 i, .int k h] E :: L) w := by
  obtain ⟨h1, h2, h3, h4, l, hl, nd, hp⟩ := H
  obtain ⟨a, c, ⟨i, h, q1, q2, hm⟩, hc, rfl⟩ := hl
  exact ⟨i, h, q1, q2, h1, h2, h3, h4, _, ⟨a, c, hm, hc, rfl⟩, nd, hp⟩
theorem Does.cur {P : Program} {f : FuncId} {args : List Value} {k : IntKind} {E : TypeId} {b : Nat} {bv : Value} {n : Nat} {F : FH} {L : List HP} {Q : Value → FH → Prop}
    (H : ∀ i h : Int, 0 ≤ i → i ≤ n → Does P f args F (cellsH b [bv, .int .i64 i, .int k h] E :: L) fun v F' L' => Q v F' ∧ ∃ i' h' : Int, 0 ≤ i' ∧ i' ≤ n ∧ cellsH b [bv, .int .i64 i', .int k h'] E :: L = L') :
    Does P f args F (curH k E b bv n :: L) fun v F' L' => Q v F' ∧ curH k E b bv n :: L = L' := by
  intro w Hw
  obtain ⟨i, h, q1, q2, Hw'⟩ := Hw.uncur
  refine (H i h q1 q2 w Hw').mono ?_
  rintro e w' ⟨v, F', L', he, le, H', hq, i', h', q3, q4, rfl⟩
  exact ⟨v, F', _, he, le, (Sub.keep (curH.of q3 q4) (Sub.refl _)).holds H', hq, rfl⟩
def intAt : Value → Int
  | .int _ n => n
  | _ => 0
def boolAt : Value → Bool
  | .bool b => b
  | _ => false
end Go.Proofs.Ytmaaifhmhclhdaa.X
set_option linter.unusedSimpArgs false
set_option linter.unusedVariables false
namespace Go.Proofs.Ytmaaifhmhclhdaa.X
open Go
theorem Holds.ex {ι : Type} {h : HP} {k : ι → HP} {p : ι → Prop} {F : FH} {A B : List HP} {w : World} (e : ∀ l, h l → ∃ i, p i ∧ k i l) (H : Holds F (A ++ h :: B) w) : ∃ i, p i ∧ Holds F (A ++ k i :: B) w := by
  obtain ⟨h1, h2, h3, h4, l, hl, nd, hp⟩ := H
  obtain ⟨a, m, c, ha, hm, hc, rfl⟩ := star_mid.1 hl
  obtain ⟨i, hi, hk⟩ := e m hm
  exact ⟨i, hi, h1, h2, h3, h4, _, star_mid.2 ⟨a, m, c, ha, hk, hc, rfl⟩, nd, hp⟩
def drawnH (e : TypeId) (v : Value) (Q : List Int → Prop) : HP := fun l => ∃ t, Q t ∧ intsH e v t l
theorem drawnH.of {e : TypeId} {v : Value} {Q : List Int → Prop} {t : List Int} (h : Q t) : ∀ l, intsH e v t l → drawnH e v Q l := fun l hl => ⟨t, h, hl⟩
section
variable {P : Program} {n : Nat} {ops : Array Oper} {l : List Oper} {Q : QX} {ρ : Env} {F : FH} {L : List HP} {c : Code}
theorem XL.undraw {e : TypeId} {v : Value} {R : List Int → Prop} (A : List HP) {B : List HP} (hL : L = A ++ drawnH e v R :: B) (h : ∀ t, R t → XL P n ops l Q ρ F (A ++ intsH e v t :: B)) : XL P n ops l Q ρ F L := by
  subst hL
  intro ok a w r H
  obtain ⟨t, ht, H'⟩ := Holds.ex (fun _ h => h) H
  exact h t ht ok a w r H'
end
def SomesF (F : FH) (v : Value) (Q : List Int → Prop) : Prop := ∃ t, IntsF F v t ∧ Q t
theorem SomesF.mono {F F' : FH} {v : Value} {Q : List Int → Prop} (h : SomesF F v Q) (le : F ≤ F') : SomesF F' v Q := let ⟨t, h1, h2⟩ := h; ⟨t, h1.mono le, h2⟩
theorem SomesF.isSl {F : FH} {v : Value} {Q : List Int → Prop} (h : SomesF F v Q) : IsSl v := let ⟨_, h1, _⟩ := h; h1.isSl
def SomeRowsF (F : FH) (v : Value) (Q : List (List Int) → Prop) : Prop := ∃ t, RowsF F v t ∧ Q t
theorem SomeRowsF.mono {F F' : FH} {v : Value} {Q : List (List Int) → Prop} (h : SomeRowsF F v Q) (le : F ≤ F') : SomeRowsF F' v Q := let ⟨t, h1, h2⟩ := h; ⟨t, h1.mono le, h2⟩
theorem SomeRowsF.isSl {F : FH} {v : Value} {Q : List (List Int) → Prop} (h : SomeRowsF F v Q) : IsSl v := let ⟨_, h1, _⟩ := h; h1.isSl
theorem Does.atO {P : Program} {f : FuncId} {args : List Value} {F : FH} {ι : Type} {O : ι → HP} {Q : ι → Value → FH → Prop} {h : HP} (A : List HP) {B : List HP} (H : Does P f args F (h :: (A ++ B)) fun v F' L' => ∃ i, Q i v F' ∧ O i :: h :: (A ++ B) = L') :
    Does P f args F (A ++ h :: B) fun v F' L' => ∃ i, Q i v F' ∧ O i :: (A ++ h :: B) = L' := fun w Hw =>
  (H w (Sub.front.holds Hw)).mono fun _ _ ⟨v, F', L', he, le, H', i, hq, hl⟩ => ⟨v, F', _, he, le, (Sub.cons Sub.back).holds (hl ▸ H'), i, hq, rfl⟩
section
variable {P : Program} {ρ : Env} {F : FH} {L : List HP} {K : Post} {d : Option Tmp} {ty : TypeId} {pos : String} {af : Array Edge} {g : Option (Nat × Bool)}
theorem XOp.sliceC {α : Type} {R : FH → List Value → α → Prop} {dd : α} {x : Operand} {lo hi : Option Operand} {t e : TypeId} {s : Nat} {v : Value} {xs : List α} (l h : Nat)
    (hu : ∀ w, (underlying t).run P w = .ok (.slice e) w) (hs : ∀ w, (sizeOf e).run P w = .ok s w) (hx : evO ρ x = v) (hv : SlOf s R dd F v xs) (hlo : OptIs ρ lo l 0) (hhi : OptIs ρ hi h xs.length) (hlh : l ≤ h) (hhn : h ≤ xs.length)
    (k : ∀ v', SlOf s R dd F v' ((xs.drop l).take (h - l)) → K v' F L) : XOp P ⟨d, .slice t x lo hi none, ty, pos, af, g⟩ ρ F L K := by
  obtain ⟨cs, ha, hr⟩ := hv
  refine XOp.sliceF hu hs hx ha hlo hhi hlh hhn fun v' h1 _ => k v' ⟨(cs.drop (l * s)).take ((h - l) * s), ?_, fun i hi' => ?_⟩
  · have e1 : ((xs.drop l).take (h - l)).length = h - l := by rw [List.length_take, List.length_drop]; omega
    rw [e1]; exact h1
  · have hi2 : i < h - l := by rw [List.length_take, List.length_drop] at hi'; omega
    obtain ⟨es, q1, q2, q3⟩ := hr (l + i) (by omega)
    refine ⟨es, q1, ?_, ?_⟩
    · have hm : (i + 1) * s ≤ (h - l) * s := Nat.mul_le_mul_right s (by omega)
      rw [Nat.succ_mul] at hm
      rw [List.drop_take, List.take_take, Nat.min_eq_left (by omega), List.drop_drop, ← Nat.add_mul]
      exact q2
    · have e2 : ((xs.drop l).take (h - l)).getD i dd = xs.getD (l + i) dd := by
        simp only [List.getD_eq_getElem?_getD]
        rw [List.getElem?_take, if_pos hi2, List.getElem?_drop]
      rw [e2]; exact q3
end
end Go.Proofs.Ytmaaifhmhclhdaa.X
set_option linter.unusedSimpArgs false
set_option linter.unusedVariables false
namespace Go.Proofs.Ytmaaifhmhclhdaa.M
section
variable {ar : List Int} {rs : Rules} {a b t : List Int} {ts : RowL} {n : Int} {k : Nat}
end
end Go.Proofs.Ytmaaifhmhclhdaa.M
set_option linter.unusedSimpArgs false
set_option linter.unusedVariables false
namespace Go.Proofs.Ytmaaifhmhclhdaa.M
section
variable {ar t u : List Int} {n : Nat} {f : Int}
def goodN (ar t : List Int) (n : Nat) : Prop := (∀ x ∈ t, -24 ≤ x) ∧ ∀ r, endGo ar (t ++ r) n = some t.length
def goodT (ar t : List Int) : Prop := goodN ar t 1
theorem goodN.nil : goodN ar [] 0 := ⟨fun x hx => (List.not_mem_nil hx).elim, fun r => by cases r <;> rfl⟩
theorem goodN.snoc (h : goodN ar t n) (k : goodT ar u) : goodN ar (t ++ u) (n + 1) := by
  refine ⟨fun x hx => (List.mem_append.1 hx).elim (h.1 x) (k.1 x), fun r => ?_⟩
  have h1 := h.2 (u ++ r)
  have h2 : endGo ar ((t ++ (u ++ r)).drop t.length) 1 = some u.length := by rw [List.drop_left]; exact k.2 r
  rw [List.append_assoc, endGo_join h1 h2, List.length_append]
theorem goodT.one (hf : -24 ≤ f) (hl : f < ar.length) (ha : arity ar f = 0) : goodT ar [f] := by
  refine ⟨fun x hx => by obtain rfl := List.mem_singleton.1 hx; exact hf, fun r => ?_⟩
  show endGo ar (f :: r) (0 + 1) = some 1
  unfold endGo
  rw [if_pos hl, ha]
  cases r <;> rfl
theorem goodT.var (hf : -24 ≤ f) (h0 : f < 0) : goodT ar [f] := goodT.one hf (by omega) (by rw [arity, if_pos h0])
theorem goodT.node (h0 : 0 ≤ f) (hl : f < ar.length) (ha : arity ar f = (n : Int)) (h : goodN ar t n) : goodT ar (f :: t) := by
  refine ⟨fun x hx => (List.mem_cons.1 hx).elim (fun e => by omega) (h.1 x), fun r => ?_⟩
  show endGo ar (f :: (t ++ r)) (0 + 1) = some (t.length + 1)
  unfold endGo
  rw [if_pos hl, ha, show 0 + (n : Int).toNat = n from by omega, h.2 r]
  rfl
theorem goodT.ok (hs : sigOk ar = true) (hl : 1 ≤ t.length ∧ t.length ≤ 60) (h : goodT ar t) : termOk ar t = true := by
  have e := h.2 []
  rw [List.append_nil] at e
  exact termOk_iff.2 ⟨hs, hl.1, hl.2, h.1, e⟩
def szB : Nat → Nat
  | 0 => 1
  | d + 1 => 1 + 2 * szB d
def szT : Nat → Nat
  | 0 => 1
  | d + 1 => 1 + 3 * szT d
theorem szB_pos : ∀ d, 1 ≤ szB d
  | 0 => by simp [szB]
  | d + 1 => by simp only [szB]; omega
theorem szB_next {d : Nat} (h : 1 ≤ d) : szB d = 1 + 2 * szB (d - 1) := by
  obtain ⟨e, rfl⟩ : ∃ e, d = e + 1 := ⟨d - 1, by omega⟩
  rfl
theorem szB_le : ∀ {d e : Nat}, d ≤ e → szB d ≤ szB e
  | 0, e, _ => szB_pos e
  | d + 1, 0, h => by omega
  | d + 1, e + 1, h => by have := szB_le (d := d) (e := e) (by omega); simp only [szB]; omega
theorem szT_pos : ∀ d, 1 ≤ szT d
  | 0 => by simp [szT]
  | d + 1 => by simp only [szT]; omega
theorem szT_next {d : Nat} (h : 1 ≤ d) : szT d = 1 + 3 * szT (d - 1) := by
  obtain ⟨e, rfl⟩ : ∃ e, d = e + 1 := ⟨d - 1, by omega⟩
  rfl
theorem szT_le : ∀ {d e : Nat}, d ≤ e → szT d ≤ szT e
  | 0, e, _ => szT_pos e
  | d + 1, 0, h => by omega
  | d + 1, e + 1, h => by have := szT_le (d := d) (e := e) (by omega); simp only [szT]; omega
theorem sigOk_snoc {x : Int} (h : sigOk ar = true) (hl : ar.length ≤ 7) (hx : 0 ≤ x ∧ x ≤ 3) : sigOk (ar ++ [x]) = true := by
  have h1 := sigOk_spec h
  refine sigOk_of (by simp) (by simp; omega) (fun i hi => ?_)
  rcases Nat.lt_or_ge i ar.length with h' | h'
  · have := h1.2.2 i h'
    simpa [List.getD, List.getElem?_append_left h'] using this
  · have e : i = ar.length := by simp at hi; omega
    subst e
    simpa [List.getD] using hx
theorem rows_snoc {N : Nat} {os : List (List Int)} {x : List Int} (h : ∀ i, (os.getD i []).length ≤ N) (hx : x.length ≤ N) : ∀ i, ((os ++ [x]).getD i []).length ≤ N := fun i => by
  rcases Nat.lt_or_ge i os.length with h' | h'
  · have := h i
    simpa [List.getD, List.getElem?_append_left h'] using this
  · rcases Nat.eq_or_lt_of_le h' with e | e
    · subst e; simpa [List.getD] using hx
    · simp [List.getD, List.getElem?_eq_none (show (os ++ [x]).length ≤ i by simp; omega)]
theorem sub_le {t : List Int} {p : Nat} : (sub ar t p).length ≤ t.length := by
  unfold sub
  rw [List.length_take, List.length_drop]
  omega
theorem fill_le60 {s : RowL} {t : List Int} : ((fillL s t).getD []).length ≤ 60 := by
  cases h : fillL s t with
  | none => simp
  | some u => exact (fillL_len h).1
theorem put_le60 {t u : List Int} {p : Nat} : ((putL ar t p u).getD []).length ≤ 60 := by
  unfold putL
  split
  · simp
  · rename_i h; simpa using h
def smallS (ar : List Int) (rs : Rules) : Prop := ar.length ≤ 20 ∧ rs.length ≤ 20 ∧ ∀ i, i < rs.length → (rs.getD i ([], [])).1.length ≤ 2000 ∧ (rs.getD i ([], [])).2.length ≤ 2000
def smallR (rs : Rules) : Prop := ∀ i, i < rs.length → (rs.getD i ([], [])).1.length ≤ 2000 ∧ (rs.getD i ([], [])).2.length ≤ 2000
theorem smallR.nil : smallR [] := fun i hi => by simp at hi
theorem smallR.snoc {l r : List Int} {rs : Rules} (h : smallR rs) (hl : l.length ≤ 2000) (hr : r.length ≤ 2000) : smallR (rs ++ [(l, r)]) := fun i hi => by
  rcases Nat.lt_or_ge i rs.length with h' | h'
  · have := h i h'
    simpa [List.getD, List.getElem?_append_left h'] using this
  · have e : i = rs.length := by simp at hi; omega
    subst e
    simpa [List.getD] using And.intro hl hr
theorem smallS.mk' {rs : Rules} (ha : ar.length ≤ 20) (hn : rs.length ≤ 20) (h : smallR rs) : smallS ar rs := ⟨ha, hn, h⟩
theorem smallS.la {rs : Rules} (h : smallS ar rs) : ar.length ≤ 4000000 := by have := h.1; omega
theorem smallS.lr {rs : Rules} (h : smallS ar rs) : rs.length ≤ 4000000 := by have := h.2.1; omega
theorem smallS.each {rs : Rules} (h : smallS ar rs) : ∀ i, i < rs.length → (rs.getD i ([], [])).1.length ≤ 4000000 ∧ (rs.getD i ([], [])).2.length ≤ 4000000 := fun i hi => by have := h.2.2 i hi; omega
variable {rs : Rules} {a b : List Int} {ts : RowL} {m : Int} {i k : Nat}
end
end Go.Proofs.Ytmaaifhmhclhdaa.M
set_option linter.unusedSimpArgs false
set_option linter.unusedVariables false
namespace Go.Proofs.Ytmaaifhmhclhdaa.M
section
variable {ar t : List Int} {rs : Rules} {p r : Int} {k : Nat}
def stepsS (ar : List Int) (rs : Rules) (t : List Int) : List StepV := if rightB ar rs t = true then stepsL ar rs t else []
def redAtL (ar : List Int) (rs : Rules) (t : List Int) (p r : Int) : Bool := stepAtOk ar rs t p r && isRedex ar rs t p.toNat r.toNat
theorem stepsS_yes (h : rightB ar rs t = true) : stepsS ar rs t = stepsL ar rs t := if_pos h
theorem stepsS_no (h : rightB ar rs t = false) : stepsS ar rs t = [] := if_neg (by rw [h]; simp)
theorem mem_steps2 {s : StepV} (h : s ∈ stepsL ar rs t) : ∃ q k : Nat, q < t.length ∧ k < rs.length ∧ s.1 = q ∧ s.2.1 = k ∧ stepL ar rs t q k = some s.2.2 := by
  unfold stepsL stepsTo at h
  obtain ⟨q, hq, h⟩ := List.mem_flatMap.1 h
  unfold stepsRow at h
  obtain ⟨k, hk, h⟩ := List.mem_flatMap.1 h
  refine ⟨q, k, List.mem_range.1 hq, List.mem_range.1 hk, ?_⟩
  unfold stepOne at h
  cases hx : stepL ar rs t q k with
  | none => rw [hx] at h; cases h
  | some u => rw [hx] at h; obtain rfl := List.mem_singleton.1 h; exact ⟨rfl, rfl, rfl⟩
theorem steps_law (hk : k < (stepsS ar rs t).length) : stepAtL ar rs t ((stepsS ar rs t).getD k (0, 0, [])).1 ((stepsS ar rs t).getD k (0, 0, [])).2.1 = some ((stepsS ar rs t).getD k (0, 0, [])).2.2 ∧
    redAtL ar rs t ((stepsS ar rs t).getD k (0, 0, [])).1 ((stepsS ar rs t).getD k (0, 0, [])).2.1 = true := by
  cases hr : rightB ar rs t with
  | false => rw [stepsS_no hr] at hk; simp at hk
  | true =>
    rw [stepsS_yes hr] at hk ⊢
    generalize hs : (stepsL ar rs t).getD k (0, 0, []) = s
    have hm : s ∈ stepsL ar rs t := by rw [← hs]; simp [List.getD, hk]
    obtain ⟨q, j, hq, hj, e1, e2, hu⟩ := mem_steps2 hm
    have hok : stepAtOk ar rs t s.1 s.2.1 = true := by
      unfold stepAtOk
      rw [hr, e1, e2]
      simp; omega
    have hn1 : s.1.toNat = q := by omega
    have hn2 : s.2.1.toNat = j := by omega
    refine ⟨by rw [stepAtL, if_pos hok, hn1, hn2]; exact hu, ?_⟩
    unfold redAtL
    rw [hok, hn1, hn2, step_redex (by rw [hu]; rfl)]
    rfl
end
end Go.Proofs.Ytmaaifhmhclhdaa.M
set_option linter.unusedSimpArgs false
set_option linter.unusedVariables false
namespace Go.Proofs.Ytmaaifhmhclhdaa.M
section
variable {ar : List Int} {rs : Rules} {t f now : List Int} {ss acc : List StepL} {s : RowL} {k : Nat}
def movedL (s : RowL) (t : List Int) (k : Nat) : Nat := ((t.take k).flatMap (lk s)).length
theorem movedL_zero : movedL s t 0 = 0 := rfl
theorem movedL_succ (h : k < t.length) : movedL s t (k + 1) = movedL s t k + (lk s (t.getD k 0)).length := by
  unfold movedL
  rw [take_succ_getD 0 h, List.flatMap_append, List.length_append]; simp
theorem movedL_le {N : Nat} (h1 : 1 ≤ N) (hs : ∀ i, (s.getD i []).length ≤ N) : ∀ k, k ≤ t.length → movedL s t k ≤ k * N
  | 0, _ => by simp [movedL_zero]
  | k + 1, hk => by
    have h2 := movedL_le h1 hs k (by omega)
    have h3 := lk_bound h1 hs (t.getD k 0)
    rw [movedL_succ (by omega), Nat.succ_mul]; omega
theorem take_getD {p : Nat} (h : k < p) : ((t.drop 0).take (p - 0)).getD k 0 = t.getD k 0 := by
  simp [List.getD_eq_getElem?_getD, List.getElem?_take, h]
theorem now_ok (hw : walkOkL ar rs f ss = true) (hk : k ≤ ss.length) (hn : now = nowL f ss k) : termOk ar now = true := by
  obtain ⟨h1, _, h3⟩ := walkOkL_iff.1 hw
  rw [hn]
  exact (right_iff.1 (goOk_now h3 h1 k hk).1).2
theorem walkOk_at2 (h : walkOkL ar rs f ss = true) (hk : k < ss.length) (hn : now = nowL f ss k) : 0 ≤ (ss.getD k (0, 0, [])).1 ∧ (ss.getD k (0, 0, [])).1 < (now.length : Int) := by
  have h1 := walkOk_step h hk
  have h2 := (stepAtL_ok h1).2
  simp only [stepAtOk, Bool.and_eq_true, decide_eq_true_eq] at h2
  rw [hn]
  omega
def undGo (s : RowL) : List Int → List StepL → Option (List StepL)
  | _, [] => some []
  | now, x :: ss => match fillL s x.2.2 with
    | none => none
    | some u => (undGo s x.2.2 ss).map (fun r => (((movedL s now x.1.toNat : Nat) : Int), x.2.1, u) :: r)
def undB (ar : List Int) (rs : Rules) (f : List Int) (ss : List StepL) (s : RowL) : List Int × List StepL × Bool :=
  if walkOkL ar rs f ss = true ∧ substOk ar s = true then
    match fillL s f, undGo s f ss with
    | some f', some ss' => (f', ss', true)
    | _, _ => ([], [], false)
  else ([], [], false)
theorem undGo_next (hk : k < ss.length) (h : undGo s f ss = (undGo s now (ss.drop k)).map (fun r => acc ++ r)) (hu : (fillL s (ss.getD k (0, 0, [])).2.2).isSome = true) :
    undGo s f ss = (undGo s (ss.getD k (0, 0, [])).2.2 (ss.drop (k + 1))).map (fun r => (acc ++ [(((movedL s now (ss.getD k (0, 0, [])).1.toNat : Nat) : Int), (ss.getD k (0, 0, [])).2.1, (fillL s (ss.getD k (0, 0, [])).2.2).getD [])]) ++ r) := by
  obtain ⟨v, hv⟩ := Option.isSome_iff_exists.1 hu
  rw [h, drop_get (0, 0, []) hk]
  show (match fillL s (ss.getD k (0, 0, [])).2.2 with | none => none | some u => (undGo s (ss.getD k (0, 0, [])).2.2 (ss.drop (k + 1))).map (fun r => (((movedL s now (ss.getD k (0, 0, [])).1.toNat : Nat) : Int), (ss.getD k (0, 0, [])).2.1, u) :: r)).map (fun r => acc ++ r) = _
  rw [hv]
  cases undGo s (ss.getD k (0, 0, [])).2.2 (ss.drop (k + 1)) with
  | none => rfl
  | some r => simp
theorem undGo_fail (hk : k < ss.length) (h : undGo s f ss = (undGo s now (ss.drop k)).map (fun r => acc ++ r)) (hu : (fillL s (ss.getD k (0, 0, [])).2.2).isSome = false) : undGo s f ss = none := by
  rw [h, drop_get (0, 0, []) hk]
  show (match fillL s (ss.getD k (0, 0, [])).2.2 with | none => none | some u => (undGo s (ss.getD k (0, 0, [])).2.2 (ss.drop (k + 1))).map (fun r => (((movedL s now (ss.getD k (0, 0, [])).1.toNat : Nat) : Int), (ss.getD k (0, 0, [])).2.1, u) :: r)).map (fun r => acc ++ r) = _
  cases hx : fillL s (ss.getD k (0, 0, [])).2.2 with
  | none => rfl
  | some v => rw [hx] at hu; cases hu
theorem undGo_end (hk : ss.length ≤ k) (h : undGo s f ss = (undGo s now (ss.drop k)).map (fun r => acc ++ r)) : undGo s f ss = some acc := by
  rw [h, List.drop_eq_nil_of_le hk]
  simp [undGo]
theorem undGo_start : undGo s f ss = (undGo s f (ss.drop 0)).map (fun r => [] ++ r) := by simp
theorem undB_no (h : ¬ (walkOkL ar rs f ss = true ∧ substOk ar s = true)) : undB ar rs f ss s = ([], [], false) := if_neg h
theorem undB_from (h : (fillL s f).isSome = false) : undB ar rs f ss s = ([], [], false) := by
  unfold undB
  cases hx : fillL s f with
  | none => simp
  | some v => rw [hx] at h; cases h
theorem undB_steps (h : undGo s f ss = none) : undB ar rs f ss s = ([], [], false) := by
  unfold undB
  rw [h]
  cases fillL s f <;> simp
theorem undB_yes (hw : walkOkL ar rs f ss = true) (hs : substOk ar s = true) (h1 : (fillL s f).isSome = true) (h2 : undGo s f ss = some acc) : undB ar rs f ss s = ((fillL s f).getD [], acc, true) := by
  obtain ⟨v, hv⟩ := Option.isSome_iff_exists.1 h1
  rw [undB, if_pos ⟨hw, hs⟩, hv, h2]
  rfl
theorem undGo_len : ∀ (now : List Int) (ss r : List StepL), undGo s now ss = some r → r.length = ss.length
  | _, [], r, h => by simp [undGo] at h; subst h; rfl
  | now, x :: ss, r, h => by
    unfold undGo at h
    split at h
    · cases h
    · obtain ⟨q, hq, rfl⟩ := Option.map_eq_some_iff.1 h
      simp [undGo_len _ ss q hq]
theorem undGo_to : ∀ (now : List Int) (ss r : List StepL), undGo s now ss = some r → ∀ i, i < r.length → (r.getD i (0, 0, [])).2.2.length ≤ 60
  | _, [], r, h, i, hi => by simp [undGo] at h; subst h; simp at hi
  | now, x :: ss, r, h, i, hi => by
    unfold undGo at h
    split at h
    · cases h
    · rename_i u hu
      obtain ⟨q, hq, rfl⟩ := Option.map_eq_some_iff.1 h
      cases i with
      | zero => exact (fillL_len hu).1
      | succ i =>
        have := undGo_to _ ss q hq i (by simpa using hi)
        simpa using this
theorem undB_bounds : (undB ar rs f ss s).1.length ≤ 60 ∧ (∀ i, i < (undB ar rs f ss s).2.1.length → ((undB ar rs f ss s).2.1.getD i (0, 0, [])).2.2.length ≤ 60) ∧ ((undB ar rs f ss s).2.1.flatMap flatStep).length ≤ 4000 ∧ (undB ar rs f ss s).2.1.length ≤ 60 := by
  have nil : (([], [], false) : List Int × List StepL × Bool).1.length ≤ 60 ∧ (∀ i, i < (([], [], false) : List Int × List StepL × Bool).2.1.length → ((([], [], false) : List Int × List StepL × Bool).2.1.getD i (0, 0, [])).2.2.length ≤ 60) ∧ ((([], [], false) : List Int × List StepL × Bool).2.1.flatMap flatStep).length ≤ 4000 ∧ (([], [], false) : List Int × List StepL × Bool).2.1.length ≤ 60 :=
    ⟨by simp, fun i hi => by simp at hi, by simp, by simp⟩
  unfold undB
  split
  · rename_i h
    obtain ⟨hw, _⟩ := h
    split
    · rename_i f' ss' h1 h2
      have hf := walkOkL_iff.1 hw
      have e2 := undGo_to f ss ss' h2
      have e3 := undGo_len f ss ss' h2
      refine ⟨(fillL_len h1).1, e2, ?_, by show ss'.length ≤ 60; omega⟩
      have h4 := flatStep_len ss'
      have h5 := gTo_bound e2 _ (Nat.le_refl _)
      have h6 : ss'.length * 60 ≤ 60 * 60 := Nat.mul_le_mul_right 60 (by omega)
      show (ss'.flatMap flatStep).length ≤ 4000
      omega
    · exact nil
  · exact nil
end
end Go.Proofs.Ytmaaifhmhclhdaa.M
set_option linter.unusedSimpArgs false
set_option linter.unusedVariables false
namespace Go.Proofs.Ytmaaifhmhclhdaa.M
def Link (all : List FoundV) : Prop := (0 < all.length ∧ (EL all 0).2.1 = -1 ∧ (EL all 0).2.2.2 = 0) ∧ ∀ i, 0 < i → i < all.length → 0 ≤ (EL all i).2.1 ∧ (EL all i).2.1 < (i : Int) ∧ (EL all i).2.2.2 = (EL all (EL all i).2.1.toNat).2.2.2 + 1 ∧ (EL all i).2.2.1.2.2 = (EL all i).1
def Dist (all : List FoundV) : Prop := ∀ i j, i < j → j < all.length → (EL all i).1 ≠ (EL all j).1
section
variable {ar t : List Int} {rs : Rules} {n : Int} {all : List FoundV}
theorem EL_last {x : FoundV} : EL (all ++ [x]) all.length = x := by unfold EL; simp [List.getD]
theorem Link.snoc {k : Nat} {s : StepV} {d : Int} (h : Link all) (hk : k < all.length) (hd : d = (EL all k).2.2.2) : Link (all ++ [(s.2.2, (k : Int), s, d + 1)]) := by
  obtain ⟨⟨h0, h2, h3⟩, h4⟩ := h
  refine ⟨⟨by simp, by rw [EL_snoc h0]; exact h2, by rw [EL_snoc h0]; exact h3⟩, fun i hi hl => ?_⟩
  rw [List.length_append, List.length_singleton] at hl
  rcases Nat.lt_or_ge i all.length with h | h
  · obtain ⟨a, b, c, d⟩ := h4 i hi h
    rw [EL_snoc h]
    exact ⟨a, b, by rw [EL_snoc (by omega)]; exact c, d⟩
  · obtain rfl : i = all.length := by omega
    rw [EL_last]
    refine ⟨by dsimp only; omega, by dsimp only; omega, ?_, rfl⟩
    dsimp only
    rw [show ((k : Int)).toNat = k from by omega, EL_snoc hk, hd]
theorem Dist.snoc {x : FoundV} (h : Dist all) (hx : isIn all x.1 = false) : Dist (all ++ [x]) := by
  intro i j hij hj
  rw [List.length_append, List.length_singleton] at hj
  rcases Nat.lt_or_ge j all.length with h1 | h1
  · rw [EL_snoc h1, EL_snoc (by omega)]; exact h i j hij h1
  · obtain rfl : j = all.length := by omega
    rw [EL_last, EL_snoc hij]
    intro he
    rw [isIn_some hij he] at hx
    cases hx
end
end Go.Proofs.Ytmaaifhmhclhdaa.M
set_option linter.unusedSimpArgs false
set_option linter.unusedVariables false
namespace Go.Proofs.Ytmaaifhmhclhdaa.M
def WalkB (f : List Int) (ss : List StepV) : Prop := f.length ≤ 60 ∧ ss.length ≤ 60 ∧ (∀ i, i < ss.length → (ss.getD i (0, 0, [])).2.2.length ≤ 60) ∧ (ss.flatMap flatStep).length ≤ 4000
theorem WalkB.nil : WalkB [] [] := ⟨by simp, by simp, fun i hi => by simp at hi, by simp⟩
theorem WalkB.mk {f : List Int} {ss : List StepV} (hf : f.length ≤ 60) (hs : ss.length ≤ 60) (h : ∀ s ∈ ss, s.2.2.length ≤ 60) : WalkB f ss := by
  have h0 : ∀ i, i < ss.length → (ss.getD i (0, 0, [])).2.2.length ≤ 60 := fun i hi => h _ (by simp [List.getD, hi])
  refine ⟨hf, hs, h0, ?_⟩
  have h1 := flatStep_len ss
  have h2 := gTo_bound h0 _ (Nat.le_refl _)
  have h4 : ss.length * 60 ≤ 60 * 60 := Nat.mul_le_mul_right 60 hs
  omega
section
variable {ar t u a b : List Int} {rs : Rules} {n : Int} {all : List FoundV} {k : Nat}
end
end Go.Proofs.Ytmaaifhmhclhdaa.M
set_option linter.unusedSimpArgs false
set_option linter.unusedVariables false
namespace Go.Proofs.Ytmaaifhmhclhdaa.M
section
variable {ar f g : List Int} {rs : Rules} {xs ys : List StepV}
abbrev WalkV := List Int × List StepV × Bool
def joinW (f : List Int) (xs : List StepV) (g : List Int) (ys : List StepV) : WalkV := if endL f xs = g ∧ xs.length + ys.length ≤ 60 then (f, xs ++ ys, true) else ([], [], false)
theorem joinW_yes (h : endL f xs = g) (hl : xs.length + ys.length ≤ 60) : joinW f xs g ys = (f, xs ++ ys, true) := if_pos ⟨h, hl⟩
theorem joinW_no (h : endL f xs ≠ g) : joinW f xs g ys = ([], [], false) := if_neg (fun hc => h hc.1)
theorem joinW_long (h : ¬ xs.length + ys.length ≤ 60) : joinW f xs g ys = ([], [], false) := if_neg (fun hc => h hc.2)
def joinedF (ar : List Int) (rs : Rules) (f : List Int) (xs : List StepV) (g : List Int) (ys : List StepV) : WalkV := if walkOkL ar rs f xs = true ∧ walkOkL ar rs g ys = true then joinW f xs g ys else ([], [], false)
theorem joinedF_yes (h : walkOkL ar rs f xs = true) (h2 : walkOkL ar rs g ys = true) : joinedF ar rs f xs g ys = joinW f xs g ys := if_pos ⟨h, h2⟩
theorem joinedF_no (h : ¬ (walkOkL ar rs f xs = true ∧ walkOkL ar rs g ys = true)) : joinedF ar rs f xs g ys = ([], [], false) := if_neg h
theorem walkOk_bnd (h : walkOkL ar rs f xs = true) : f.length ≤ 60 ∧ xs.length ≤ 60 ∧ ∀ i, i < xs.length → (xs.getD i (0, 0, [])).2.2.length ≤ 60 :=
  have h1 := walkOkL_iff.1 h
  ⟨(termOk_len (right_iff.1 h1.1).2).2, h1.2.1, fun i hi => (termOk_len (walkOk_to h hi)).2⟩
end
end Go.Proofs.Ytmaaifhmhclhdaa.M
set_option linter.unusedSimpArgs false
set_option linter.unusedVariables false
namespace Go.Proofs.Ytmaaifhmhclhdaa.X
open Go
theorem CO.setOne {α : Type} {s : Nat} {R : FH → List Value → α → Prop} {d : α} {F : FH} {cs : List Value} {xs : List α} {x : α} {u : Value} (h : CO s R d F cs xs) {j o : Nat} (hj : j < xs.length) (ho : o < s) (hR : ∀ es, es.length = s → R F es (xs.getD j d) → R F (es.set o u) x) :
    CO s R d F (cs.set (j * s + o) u) (xs.set j x) := by
  obtain ⟨es, h1, h2, h3⟩ := h.2 j hj
  have hb : j * s + s ≤ cs.length := by
    rw [h.1]
    have : (j + 1) * s ≤ xs.length * s := Nat.mul_le_mul_right s hj
    rwa [Nat.succ_mul] at this
  have k := CO.setN h hj (es := es.set o u) (by rw [List.length_set]; exact h1) (hR es h1 h3)
  have hA : (cs.take (j * s)).length = j * s := by rw [List.length_take]; omega
  have e1 : cs = cs.take (j * s) ++ (es ++ cs.drop (j * s + s)) := by
    have : cs.drop (j * s) = es ++ cs.drop (j * s + s) := by
      rw [← h2, ← List.drop_drop, List.take_append_drop]
    rw [← this, List.take_append_drop]
  have e2 : cs.set (j * s + o) u = cs.take (j * s) ++ es.set o u ++ cs.drop (j * s + (es.set o u).length) := by
    rw [List.length_set, h1]
    conv => lhs; rw [e1]
    rw [List.set_append_right _ _ (by omega), hA, Nat.add_sub_cancel_left, List.set_append_left _ _ (by omega), List.append_assoc]
  rw [e2]
  exact k
theorem StepsC.setAt {F : FH} {cs : List Value} {xs : List StepT} {a : Int} (h : StepsC F cs xs) {j : Nat} (hj : j < xs.length) : StepsC F (cs.set (j * 3) (.int .i64 a)) (xs.set j (a, (xs.getD j (0, 0, [])).2)) :=
  CO.setOne (o := 0) h hj (by omega) (fun es _ ⟨c, h1, h2⟩ => ⟨c, by rw [h1]; rfl, h2⟩)
theorem StepsC.setRule {F : FH} {cs : List Value} {xs : List StepT} {a : Int} (h : StepsC F cs xs) {j : Nat} (hj : j < xs.length) : StepsC F (cs.set (j * 3 + 1) (.int .i64 a)) (xs.set j ((xs.getD j (0, 0, [])).1, a, (xs.getD j (0, 0, [])).2.2)) :=
  CO.setOne (o := 1) h hj (by omega) (fun es _ ⟨c, h1, h2⟩ => ⟨c, by rw [h1]; rfl, h2⟩)
theorem StepsC.setTo {F : FH} {cs : List Value} {xs : List StepT} {a : Value} {y : List Int} (h : StepsC F cs xs) {j : Nat} (hj : j < xs.length) (ha : IntsF F a y) : StepsC F (cs.set (j * 3 + 2) a) (xs.set j ((xs.getD j (0, 0, [])).1, (xs.getD j (0, 0, [])).2.1, y)) :=
  CO.setOne (o := 2) h hj (by omega) (fun es _ ⟨c, h1, h2⟩ => ⟨a, by rw [h1]; rfl, ha⟩)
section
variable {P : Program} {ρ : Env} {F : FH} {L : List HP} {K : Post} {d : Option Tmp} {ty : TypeId} {pos : String} {af : Array Edge} {g : Option (Nat × Bool)}
theorem XOp.quoN {x y : Operand} {t u : TypeId} {n m : Nat} (hx : evO ρ x = .int .i64 (n : Int)) (hy : evO ρ y = .int .i64 (m : Int)) (hm : 1 ≤ m) (hn : n ≤ 9223372036854775807) (kk : K (.int .i64 ((n / m : Nat) : Int)) F L) : XOp P ⟨d, .binOp .quo t x y u, ty, pos, af, g⟩ ρ F L K := by
  refine XOp.value (fun w _ => ?_) kk
  have h0 : m ≠ 0 := by omega
  have h1 := IntWalk.i64_quo (n : Int) (m : Int) ⟨by omega, by omega, by omega⟩
  rw [Int.tdiv_eq_ediv_of_nonneg (by omega)] at h1
  simp [execOp, hx, hy, eqGuard, binOp, Op.intDiv, h0, h1]
end
end Go.Proofs.Ytmaaifhmhclhdaa.X
set_option linter.unusedSimpArgs false
set_option linter.unusedVariables false
namespace Go.Proofs.Ytmaaifhmhclhdaa.M
section
variable {ar t u f : List Int} {rs : Rules} {ss : List StepL} {st n : Int}
theorem endL_cons' {s : StepL} : endL t (s :: ss) = endL s.2.2 ss := by
  unfold endL
  cases ss with
  | nil => rfl
  | cons a l => simp
end
end Go.Proofs.Ytmaaifhmhclhdaa.M
set_option linter.unusedSimpArgs false
set_option linter.unusedVariables false
namespace Go.Proofs.Ytmaaifhmhclhdaa.M
section
variable {ar t f u v w g A R : List Int} {rs : Rules} {p q r : Nat} {ss xs : List StepL}
theorem endN_go (ht : termOk ar t = true) (hp : p < t.length) : endGo ar (t.drop p) 1 = some (endN ar t p - p) := by
  obtain ⟨e, he, _⟩ := endAt_some ht hp
  have hN : endN ar t p = e := by simp [endN, he]
  unfold endAt at he
  cases hg : endGo ar (t.drop p) 1 with
  | none => rw [hg] at he; simp at he
  | some a => rw [hg] at he; simp at he; congr 1; omega
theorem endN_of {e : Nat} (h : endGo ar (t.drop p) 1 = some e) : endN ar t p = p + e := by simp [endN, endAt, h]
theorem putL_eq (h : putL ar t p u = some v) : v = t.take p ++ u ++ t.drop (endN ar t p) := by
  unfold putL at h
  split at h
  · cases h
  · cases h; rfl
theorem stepAtL_iff {p r : Int} : stepAtL ar rs t p r = some u ↔ stepAtOk ar rs t p r = true ∧ stepL ar rs t p.toNat r.toNat = some u := by
  unfold stepAtL
  split
  · rename_i h; exact ⟨fun e => ⟨h, e⟩, fun e => e.2⟩
  · rename_i h; exact ⟨fun e => (by cases e), fun e => absurd e.1 h⟩
theorem stepAtOk_iff {p r : Int} : stepAtOk ar rs t p r = true ↔ (sysOk ar rs = true ∧ termOk ar t = true) ∧ (0 ≤ p ∧ p < (t.length : Int)) ∧ 0 ≤ r ∧ r < (rs.length : Int) := by
  simp only [stepAtOk, Bool.and_eq_true, decide_eq_true_eq, right_iff, and_assoc]
theorem in_drop (hq : q ≤ f.length) : (A ++ f ++ R).drop (A.length + q) = f.drop q ++ R := by
  rw [List.append_assoc, List.drop_length_add_append, List.drop_append_of_le_length hq]
theorem in_end (hf : termOk ar f = true) (hq : q < f.length) : endN ar (A ++ f ++ R) (A.length + q) = A.length + endN ar f q := by
  have h := endGo_more (b := R) (endN_go hf hq)
  rw [← in_drop (A := A) (by omega)] at h
  have := endN_spec hf hq
  rw [endN_of h]; omega
theorem in_sub (hf : termOk ar f = true) (hq : q < f.length) : sub ar (A ++ f ++ R) (A.length + q) = sub ar f q := by
  have := endN_spec hf hq
  unfold sub
  rw [in_end hf hq, in_drop (by omega), show A.length + endN ar f q - (A.length + q) = endN ar f q - q from by omega, List.take_append_of_le_length (by rw [List.length_drop]; omega)]
theorem in_put (hf : termOk ar f = true) (hq : q < f.length) (h : putL ar f q u = some g) (hl : (A ++ g ++ R).length ≤ 60) : putL ar (A ++ f ++ R) (A.length + q) u = some (A ++ g ++ R) := by
  have he := endN_spec hf hq
  have hg := putL_eq h
  refine putL_some ?_ (by omega)
  rw [in_end hf hq, in_drop (by omega), hg, List.append_assoc A f R, List.take_length_add_append, List.take_append_of_le_length (by omega)]
  simp [List.append_assoc]
theorem in_step (hf : termOk ar f = true) (hq : q < f.length) (h : stepL ar rs f q r = some g) (hl : (A ++ g ++ R).length ≤ 60) : stepL ar rs (A ++ f ++ R) (A.length + q) r = some (A ++ g ++ R) := by
  unfold stepL at h ⊢
  rw [in_sub hf hq]
  split at h
  · cases h
  · rename_i b hb
    split at h
    · cases h
    · rename_i u hu
      exact in_put hf hq h hl
theorem sub_zero' (hg : termOk ar g = true) : sub ar g 0 = g := by
  have h : endGo ar (g.drop 0) 1 = some g.length := (termOk_iff.1 hg).whole
  unfold sub
  rw [endN_of h]
  simp
theorem sub_put (hp : p < t.length) (hg : termOk ar g = true) (h : putL ar t p g = some w) : sub ar w p = g := by
  have hA : (t.take p).length = p := by rw [List.length_take]; omega
  have := in_sub (A := t.take p) (R := t.drop (endN ar t p)) hg (q := 0) (by have := termOk_len hg; omega)
  rw [← putL_eq h, hA, Nat.add_zero, sub_zero' hg] at this
  exact this
theorem ins_step (hs : sysOk ar rs = true) (ht : termOk ar t = true) (hp : p < t.length) (hv : putL ar t p f = some v) (hw : putL ar t p g = some w) {q r : Int} (h : stepAtL ar rs f q r = some g) : stepAtL ar rs v (q + (p : Int)) r = some w := by
  obtain ⟨h1, h2⟩ := stepAtL_iff.1 h
  obtain ⟨⟨_, hf⟩, hq, hk⟩ := stepAtOk_iff.1 h1
  have hA : (t.take p).length = p := by rw [List.length_take]; omega
  have hvo := put_ok ht hp hf hv
  have hwl := (termOk_len (put_ok ht hp (right_iff.1 (stepAtL_ok h).1).2 hw)).2
  have e1 := putL_eq hv
  have e2 := putL_eq hw
  have hvl : v.length = p + f.length + (t.drop (endN ar t p)).length := by rw [e1, List.length_append, List.length_append, hA]
  refine stepAtL_iff.2 ⟨stepAtOk_iff.2 ⟨⟨hs, hvo⟩, by omega, hk⟩, ?_⟩
  rw [show (q + (p : Int)).toNat = (t.take p).length + q.toNat from by rw [hA]; omega, e1, e2]
  exact in_step hf (by omega) h2 (by rw [← e2]; exact hwl)
theorem ins_go (hs : sysOk ar rs = true) (ht : termOk ar t = true) (hp : p < t.length) : ∀ (ss xs : List StepL) (f v : List Int), putL ar t p f = some v → goOk ar rs f ss = true → insGo ar t p ss = some xs → goOk ar rs v xs = true ∧ putL ar t p (endL f ss) = some (endL v xs)
  | [], xs, f, v, hv, hg, h => by
    simp [insGo] at h; subst h
    exact ⟨rfl, by simpa [endL] using hv⟩
  | s :: ss, xs, f, v, hv, hg, h => by
    unfold insGo at h
    split at h
    · cases h
    · rename_i u hu
      obtain ⟨q, hq, rfl⟩ := Option.map_eq_some_iff.1 h
      simp only [goOk, Bool.and_eq_true, decide_eq_true_eq] at hg ⊢
      obtain ⟨h1, h2⟩ := ins_go hs ht hp ss q s.2.2 u hu hg.2 hq
      exact ⟨⟨ins_step hs ht hp hv hu hg.1, h1⟩, by rw [endL_cons', endL_cons']; exact h2⟩
theorem insR_law (hw : walkOkL ar rs f ss = true) (ht : termOk ar t = true) (hp : p < t.length) (h : (insR ar f ss t p).2.2 = true) :
    walkOkL ar rs (insR ar f ss t p).1 (insR ar f ss t p).2.1 = true ∧ (insR ar f ss t p).2.1.length = ss.length ∧ putL ar t p (endL f ss) = some (endL (insR ar f ss t p).1 (insR ar f ss t p).2.1) ∧ putL ar t p f = some (insR ar f ss t p).1 := by
  unfold insR at h ⊢
  split at h
  · rename_i v xs hv hx
    obtain ⟨h1, h2, h3⟩ := walkOkL_iff.1 hw
    obtain ⟨hs, hf⟩ := right_iff.1 h1
    obtain ⟨g1, g2⟩ := ins_go hs ht hp ss xs f v hv h3 hx
    have hl := insGo_len ss xs hx
    exact ⟨walkOkL_iff.2 ⟨right_iff.2 ⟨hs, put_ok ht hp hf hv⟩, by show xs.length ≤ 60; omega, g1⟩, hl, g2, hv⟩
  · cases h
theorem endT_yes (h : walkOkL ar rs f ss = true) : endT ar rs f ss = endL f ss := if_pos h
theorem endT_no (h : ¬ walkOkL ar rs f ss = true) : endT ar rs f ss = [] := if_neg h
theorem insB_law {p : Int} (h : (insB ar rs f ss t p).2.2 = true) :
    walkOkL ar rs (insB ar rs f ss t p).1 (insB ar rs f ss t p).2.1 = true ∧ (insB ar rs f ss t p).2.1.length = ss.length ∧
    posOk ar (endT ar rs (insB ar rs f ss t p).1 (insB ar rs f ss t p).2.1) p = true ∧ sub ar (endT ar rs (insB ar rs f ss t p).1 (insB ar rs f ss t p).2.1) p.toNat = endT ar rs f ss := by
  by_cases hc : walkOkL ar rs f ss = true ∧ posOk ar t p = true
  · rw [insB_R hc.1 hc.2] at h ⊢
    obtain ⟨ht, hp0, hp1⟩ := posOk_iff.1 hc.2
    obtain ⟨h1, h2, h3, _⟩ := insR_law hc.1 ht (by omega) h
    have he := (right_iff.1 (walkOk_end hc.1)).2
    rw [endT_yes h1, endT_yes hc.1]
    have hvo := put_ok ht (by omega) he h3
    have hvl := congrArg List.length (putL_eq h3)
    have := termOk_len he
    simp only [List.length_append, List.length_take] at hvl
    exact ⟨h1, h2, posOk_iff.2 ⟨hvo, hp0, by omega⟩, sub_put (by omega) he h3⟩
  · rw [insB_no hc] at h; cases h
end
section
variable {ar t f u v w g : List Int} {rs : Rules} {p q r k n : Nat} {ss xs : List StepL} {s b b' : RowL}
abbrev FM (s : RowL) (t : List Int) : List Int := t.flatMap (lk s)
theorem fm_split (k : Nat) : FM s t = FM s (t.take k) ++ FM s (t.drop k) := by rw [← List.flatMap_append, List.take_append_drop]
theorem fm_drop : (FM s t).drop (movedL s t q) = FM s (t.drop q) := by
  rw [fm_split q]; exact List.drop_left
theorem fm_take : (FM s t).take (movedL s t q) = FM s (t.take q) := by
  rw [fm_split q]; exact List.take_left
theorem movedL_add (a c : Nat) : movedL s t (a + c) = movedL s t a + (FM s ((t.drop a).take c)).length := by
  unfold movedL
  rw [List.take_add, List.flatMap_append, List.length_append]
theorem fm_pos (h : t ≠ []) : 1 ≤ (FM s t).length := by
  cases t with
  | nil => exact absurd rfl h
  | cons x l => have := lk_pos (s := s) (n := x); simp only [FM, List.flatMap_cons, List.length_append]; omega
theorem fm_ne (h : t ≠ []) : FM s t ≠ [] := fun e => by have := fm_pos (s := s) h; rw [e] at this; simp at this
theorem fm_lt (h : q < t.length) : movedL s t q < (FM s t).length := by
  have h1 := congrArg List.length (fm_split (s := s) (t := t) q)
  have h2 := fm_pos (s := s) (t := t.drop q) (fun e => by have := congrArg List.length e; simp at this; omega)
  rw [List.length_append] at h1
  show (FM s (t.take q)).length < (FM s t).length
  omega
theorem fm_endGo (hr : RowsOk ar s) (hs : sigOk ar = true) {l : List Int} {e : Nat} (h : endGo ar l n = some e) : endGo ar (FM s l) n = some (FM s (l.take e)).length := by
  have h1 := endGo_le h
  have h2 : Forest ar (l.take e) n := by
    unfold Forest
    rw [endGo_take h, List.length_take]
    congr 1; omega
  have h3 := Forest.fill (fun x hx => lk_forest hr hs x hx) _ _ h2
  have h4 := endGo_more (b := FM s (l.drop e)) h3
  rwa [← fm_split e] at h4
theorem fm_end (hr : RowsOk ar s) (ht : termOk ar t = true) (hq : q < t.length) : endN ar (FM s t) (movedL s t q) = movedL s t (endN ar t q) := by
  have he := endN_spec ht hq
  have h := fm_endGo hr (termOk_sig ht) (endN_go ht hq)
  rw [← fm_drop] at h
  rw [endN_of h, ← movedL_add, show q + (endN ar t q - q) = endN ar t q from by omega]
theorem fm_sub (hr : RowsOk ar s) (ht : termOk ar t = true) (hq : q < t.length) : sub ar (FM s t) (movedL s t q) = FM s (sub ar t q) := by
  have he := endN_spec ht hq
  have h1 : movedL s t (endN ar t q) = movedL s t q + (FM s ((t.drop q).take (endN ar t q - q))).length := by rw [← movedL_add, show q + (endN ar t q - q) = endN ar t q from by omega]
  unfold sub
  rw [fm_end hr ht hq, fm_drop, h1, Nat.add_sub_cancel_left]
  have e := fm_split (s := s) (t := t.drop q) (endN ar t q - q)
  generalize FM s (t.drop q) = X at e ⊢
  rw [e]
  exact List.take_left
theorem map_fm (k : Nat) : (b.map (FM s)).getD k [] = FM s (b.getD k []) := by
  simp only [List.getD_eq_getElem?_getD, List.getElem?_map]
  cases b[k]? <;> rfl
theorem getD_zero_drop {l : List Int} {i : Nat} : l.getD i 0 = (l.drop i).getD 0 0 := by simp [List.getD]
theorem mGo_up (hr : RowsOk ar s) (ht : termOk ar t = true) : ∀ (p : List Int) (i : Nat) (b b' : RowL), mGo ar t p i b = some b' → mGo ar (FM s t) p (movedL s t i) (b.map (FM s)) = some (b'.map (FM s))
  | [], i, b, b', h => by simp [mGo] at h; subst h; rfl
  | n :: p, i, b, b', h => by
    rw [mGo] at h
    split at h
    · cases h
    · rename_i hi
      have hi2 : i < t.length := by omega
      have hlt := fm_lt (s := s) hi2
      rw [mGo, if_neg (by omega)]
      split at h
      · rename_i h0
        rw [if_pos h0]
        split at h
        · rename_i he
          have hd : (FM s t).getD (movedL s t i) 0 = n := by
            rw [getD_zero_drop, fm_drop, drop_get 0 hi2, FM, List.flatMap_cons, he, lk_sym h0]
            rfl
          rw [if_pos hd]
          have := mGo_up hr ht p (i + 1) b b' h
          rw [movedL_succ hi2, he, lk_sym h0] at this
          exact this
        · cases h
      · rename_i h0
        rw [if_neg h0, map_fm, fm_sub hr ht hi2]
        have hne := sub_ne ht hi2
        have hmv : movedL s t i + (FM s (sub ar t i)).length = movedL s t (i + (sub ar t i).length) := by
          rw [movedL_add, sub_length ht hi2]
          rfl
        split at h
        · rename_i he
          rw [he, if_pos (show FM s [] = [] from rfl), hmv, ← List.map_set]
          exact mGo_up hr ht p _ _ _ h
        · rename_i he
          split at h
          · rename_i hq
            rw [if_neg (fm_ne he), hq, if_pos rfl, hmv]
            exact mGo_up hr ht p _ _ _ h
          · cases h
theorem matchB_up (hr : RowsOk ar s) (ht : termOk ar t = true) {p : List Int} (h : matchB ar p t = some b) : matchB ar p (FM s t) = some (b.map (FM s)) := by
  unfold matchB at h ⊢
  have := mGo_up hr ht p 0 _ _ h
  rw [movedL_zero, List.map_replicate] at this
  exact this
theorem mGo_keep {t : List Int} : ∀ (p : List Int) (i : Nat) (b b' : RowL) (k : Nat), mGo ar t p i b = some b' → b.getD k [] ≠ [] → b'.getD k [] ≠ []
  | [], i, b, b', k, h, hk => by simp [mGo] at h; subst h; exact hk
  | n :: p, i, b, b', k, h, hk => by
    rw [mGo] at h
    split at h
    · cases h
    · split at h
      · split at h
        · exact mGo_keep p _ _ _ k h hk
        · cases h
      · split at h
        · rename_i he
          refine mGo_keep p _ _ _ k h ?_
          have hne : varIx n ≠ k := fun e => hk (e ▸ he)
          rw [List.getD_eq_getElem?_getD, List.getElem?_set_ne hne, ← List.getD_eq_getElem?_getD]
          exact hk
        · split at h
          · exact mGo_keep p _ _ _ k h hk
          · cases h
theorem mGo_bind {t : List Int} (ht : termOk ar t = true) : ∀ (p : List Int) (i : Nat) (b b' : RowL), (∀ x ∈ p, -24 ≤ x) → b.length = 24 → mGo ar t p i b = some b' → ∀ n ∈ p, n < 0 → b'.getD (varIx n) [] ≠ []
  | [], i, b, b', hp, hb, h, n, hn, h0 => by simp at hn
  | m :: p, i, b, b', hp, hb, h, n, hn, h0 => by
    have hp' : ∀ x ∈ p, -24 ≤ x := fun x hx => hp x (List.mem_cons_of_mem _ hx)
    rw [mGo] at h
    split at h
    · cases h
    · rename_i hi
      split at h
      · rename_i hm
        split at h
        · rcases List.mem_cons.1 hn with rfl | hn
          · omega
          · exact mGo_bind ht p _ _ _ hp' hb h n hn h0
        · cases h
      · rename_i hm
        split at h
        · rename_i he
          rcases List.mem_cons.1 hn with rfl | hn
          · refine mGo_keep p _ _ _ _ h ?_
            have hv : varIx n < b.length := by have := hp n (by simp); unfold varIx; omega
            rw [List.getD_eq_getElem?_getD, List.getElem?_set_self hv]
            exact sub_ne ht (by omega)
          · exact mGo_bind ht p _ _ _ hp' (by rw [List.length_set]; exact hb) h n hn h0
        · rename_i he
          split at h
          · rcases List.mem_cons.1 hn with rfl | hn
            · exact mGo_keep p _ _ _ _ h he
            · exact mGo_bind ht p _ _ _ hp' hb h n hn h0
          · cases h
theorem matchB_bind (ht : termOk ar t = true) {p : List Int} (hp : ∀ x ∈ p, -24 ≤ x) (h : matchB ar p t = some b) : ∀ n ∈ p, n < 0 → b.getD (varIx n) [] ≠ [] := mGo_bind ht p 0 _ _ hp (by simp) h
theorem fm_fm (h : ∀ n ∈ t, n < 0 → b.getD (varIx n) [] ≠ []) : FM (b.map (FM s)) t = FM s (FM b t) := by
  induction t with
  | nil => rfl
  | cons x l ih =>
    simp only [FM, List.flatMap_cons, List.flatMap_append] at ih ⊢
    rw [ih (fun n hn => h n (List.mem_cons_of_mem _ hn))]
    congr 1
    by_cases h0 : 0 ≤ x
    · rw [lk_sym h0, lk_sym h0, List.flatMap_cons, List.flatMap_nil, List.append_nil, lk_sym h0]
    · have hx := h x (by simp) (by omega)
      rw [lk_some (by omega) (by rw [map_fm]; exact fm_ne hx), lk_some (by omega) hx, map_fm]
theorem fillGo_of : ∀ (t acc : List Int), (acc ++ FM s t).length ≤ 60 → fillGo s t acc = some (acc ++ FM s t)
  | [], acc, h => by simp [fillGo]
  | n :: t, acc, h => by
    have e : acc ++ FM s (n :: t) = (acc ++ lk s n) ++ FM s t := by simp [FM]
    rw [e] at h ⊢
    rw [fillGo, if_neg (by rw [List.length_append] at h; omega)]
    exact fillGo_of t _ h
theorem fillL_of (h : (FM s t).length ≤ 60) : fillL s t = some (FM s t) := fillGo_of t [] h
theorem und_step (hr : RowsOk ar s) (hv : fillL s f = some v) (hw : fillL s g = some w) {q r : Int} (h : stepAtL ar rs f q r = some g) : stepAtL ar rs v ((movedL s f q.toNat : Nat) : Int) r = some w := by
  obtain ⟨h1, h2⟩ := stepAtL_iff.1 h
  obtain ⟨⟨hs, hf⟩, hq, hk⟩ := stepAtOk_iff.1 h1
  have hq2 : q.toNat < f.length := by omega
  have hvo := fill_ok hr hf hv
  have hwl := (fillL_len hw).1
  have e1 := fillL_flat hv
  have e2 := fillL_flat hw
  have hlt := fm_lt (s := s) hq2
  refine stepAtL_iff.2 ⟨stepAtOk_iff.2 ⟨⟨hs, hvo⟩, by rw [e1]; exact ⟨by omega, by exact_mod_cast hlt⟩, hk⟩, ?_⟩
  rw [show (((movedL s f q.toNat : Nat) : Int)).toNat = movedL s f q.toNat from by omega]
  have hR := ruleOk_iff.1 ((sysOk_iff.1 hs).2.2 r.toNat (by omega))
  unfold stepL at h2 ⊢
  split at h2
  · cases h2
  · rename_i b hb
    split at h2
    · cases h2
    · rename_i u hu
      have e3 := putL_eq h2
      have e4 := fillL_flat hu
      have hso := sub_ok hf hq2
      have hb2 := matchB_up hr hso hb
      have hbd := matchB_bind hso (fun x hx => (termOk_iff.1 hR.left).ge x hx) hb
      have e5 : FM (b.map (FM s)) (rs.getD r.toNat ([], [])).2 = FM s u := by rw [fm_fm (fun n hn h0 => hbd n (hR.vars n hn h0) h0), e4]
      have e6 : w = FM s (f.take q.toNat) ++ FM s u ++ FM s (f.drop (endN ar f q.toNat)) := by rw [e2, e3]; simp only [FM, List.flatMap_append]
      have hul : (FM s u).length ≤ 60 := by rw [e6] at hwl; simp only [List.length_append] at hwl; omega
      rw [e1, fm_sub hr hf hq2, hb2]
      dsimp only
      rw [fillL_of (by rw [e5]; exact hul), e5]
      dsimp only
      refine putL_some ?_ (by omega)
      rw [fm_end hr hf hq2, fm_drop, fm_take, e6]
theorem und_go (hr : RowsOk ar s) : ∀ (ss xs : List StepL) (f v : List Int), fillL s f = some v → goOk ar rs f ss = true → undGo s f ss = some xs → goOk ar rs v xs = true ∧ fillL s (endL f ss) = some (endL v xs)
  | [], xs, f, v, hv, hg, h => by
    simp [undGo] at h; subst h
    exact ⟨rfl, by simpa [endL] using hv⟩
  | x :: ss, xs, f, v, hv, hg, h => by
    unfold undGo at h
    split at h
    · cases h
    · rename_i u hu
      obtain ⟨q, hq, rfl⟩ := Option.map_eq_some_iff.1 h
      simp only [goOk, Bool.and_eq_true, decide_eq_true_eq] at hg ⊢
      obtain ⟨h1, h2⟩ := und_go hr ss q x.2.2 u hu hg.2 hq
      exact ⟨⟨und_step hr hv hu hg.1, h1⟩, by rw [endL_cons', endL_cons']; exact h2⟩
theorem undB_law (h : (undB ar rs f ss s).2.2 = true) :
    walkOkL ar rs f ss = true ∧ walkOkL ar rs (undB ar rs f ss s).1 (undB ar rs f ss s).2.1 = true ∧ (undB ar rs f ss s).2.1.length = ss.length ∧ fillL s f = some (undB ar rs f ss s).1 ∧ fillL s (endL f ss) = some (endL (undB ar rs f ss s).1 (undB ar rs f ss s).2.1) := by
  by_cases hc : walkOkL ar rs f ss = true ∧ substOk ar s = true
  · unfold undB at h ⊢
    rw [if_pos hc] at h ⊢
    split at h
    · rename_i v xs hv hx
      obtain ⟨h1, h2, h3⟩ := walkOkL_iff.1 hc.1
      obtain ⟨hs, hf⟩ := right_iff.1 h1
      have hr := substOk_rows hc.2
      obtain ⟨g1, g2⟩ := und_go (rs := rs) hr ss xs f v hv h3 hx
      have hl := undGo_len f ss xs hx
      exact ⟨hc.1, walkOkL_iff.2 ⟨right_iff.2 ⟨hs, fill_ok hr hf hv⟩, by show xs.length ≤ 60; omega, g1⟩, hl, hv, g2⟩
    · cases h
  · rw [undB_no hc] at h; cases h
end
section
variable {ar t f : List Int} {rs : Rules} {ss xs : List StepL} {k : Nat}
theorem goOk_take : ∀ (ss : List StepL) (f : List Int) (k : Nat), goOk ar rs f ss = true → goOk ar rs f (ss.take k) = true
  | [], f, k, h => by simp [goOk]
  | s :: ss, f, 0, h => by simp [goOk]
  | s :: ss, f, k + 1, h => by
    simp only [List.take_succ_cons, goOk, Bool.and_eq_true] at h ⊢
    exact ⟨h.1, goOk_take ss s.2.2 k h.2⟩
theorem walkOk_take (h : walkOkL ar rs f ss = true) (k : Nat) : walkOkL ar rs f (ss.take k) = true := by
  obtain ⟨h1, h2, h3⟩ := walkOkL_iff.1 h
  exact walkOkL_iff.2 ⟨h1, by rw [List.length_take]; omega, goOk_take ss f k h3⟩
theorem walkOk_drop (h : walkOkL ar rs f ss = true) (hk : k ≤ ss.length) : walkOkL ar rs (endL f (ss.take k)) (ss.drop k) = true := by
  obtain ⟨h1, h2, h3⟩ := walkOkL_iff.1 h
  obtain ⟨g1, g2⟩ := goOk_now h3 h1 k hk
  exact walkOkL_iff.2 ⟨g1, by rw [List.length_drop]; omega, g2⟩
theorem halves_law (h : walkOkL ar rs f ss = true) (hk : k ≤ ss.length) : joinedF ar rs f (ss.take k) (endT ar rs f (ss.take k)) (ss.drop k) = (f, ss, true) := by
  have h1 := walkOk_take h k
  rw [endT_yes h1, joinedF_yes h1 (walkOk_drop h hk), joinW_yes rfl, List.take_append_drop]
  rw [List.length_take, List.length_drop]
  have := (walkOkL_iff.1 h).2.1
  omega
end
theorem halves_law2 {ar f : List Int} {rs : Rules} {ss : List StepL} {k : Nat} (h : walkOkL ar rs f ss = true) (hk : k ≤ ss.length) : joinedF ar rs f (ss.take k) (endT ar rs f (ss.take k)) ((ss.drop k).take (ss.length - k)) = (f, ss, true) := by
  rw [show (ss.drop k).take (ss.length - k) = ss.drop k from List.take_of_length_le (by rw [List.length_drop]; exact Nat.le_refl _)]
  exact halves_law h hk
theorem stepsS_len2 {ar t : List Int} {rs : Rules} : (stepsS ar rs t).length ≤ 720 := by
  unfold stepsS
  split
  · rename_i h
    have h1 := right_iff.1 h
    have h2 := stepsTo_len (ar := ar) (t := t) (rs := rs) (sysOk_iff.1 h1.1).2.1 t.length
    have h3 := termOk_len h1.2
    unfold stepsL; omega
  · simp
section
variable {f : List Int} {ss : List StepL} {s : StepL} {k : Nat}
def smallT (ss : List StepL) : Prop := ∀ i, (ss.getD i (0, 0, [])).2.2.length ≤ 2000
theorem smallT.nil : smallT [] := fun i => by simp
theorem smallT.snoc (h : smallT ss) (hs : s.2.2.length ≤ 2000) : smallT (ss ++ [s]) := fun i => by
  rcases Nat.lt_trichotomy i ss.length with g | g | g
  · rw [List.getD_eq_getElem?_getD, List.getElem?_append_left g, ← List.getD_eq_getElem?_getD]; exact h i
  · subst g; simpa [List.getD_eq_getElem?_getD] using hs
  · rw [List.getD_eq_getElem?_getD, List.getElem?_eq_none (by simp; omega)]; simp
theorem smallT.set (h : smallT ss) (hs : s.2.2.length ≤ 2000) (k : Nat) : smallT (ss.set k s) := fun i => by
  by_cases e : k = i
  · subst e
    rcases Nat.lt_or_ge k ss.length with g | g
    · simpa [List.getD_eq_getElem?_getD, g] using hs
    · rw [List.set_eq_of_length_le g]; exact h k
  · rw [List.getD_eq_getElem?_getD, List.getElem?_set_ne e, ← List.getD_eq_getElem?_getD]; exact h i
theorem smallT.take (h : smallT ss) (k : Nat) : smallT (ss.take k) := fun i => by
  rcases Nat.lt_or_ge i k with g | g
  · rw [List.getD_eq_getElem?_getD, List.getElem?_take, if_pos g, ← List.getD_eq_getElem?_getD]; exact h i
  · rw [List.getD_eq_getElem?_getD, List.getElem?_take, if_neg (by omega)]; simp
theorem smallT.drop (h : smallT ss) (k : Nat) : smallT (ss.drop k) := fun i => by
  rw [List.getD_eq_getElem?_getD, List.getElem?_drop, ← List.getD_eq_getElem?_getD]; exact h _
def smallW (f : List Int) (ss : List StepL) : Prop := f.length ≤ 2000 ∧ ss.length ≤ 5 ∧ smallT ss
end
end Go.Proofs.Ytmaaifhmhclhdaa.M
set_option linter.unusedSimpArgs false
set_option linter.unusedVariables false
namespace Go.Proofs.Ytmaaifhmhclhdaa.X
open Go Go.WideShapes Go.ChangeShapes Go.RowKit
def fhOf (w : World) : FH := ⟨fun b => w.heap[b]?, w.os, w.output, w.tape⟩
theorem holds_fhOf (w : World) : Holds (fhOf w) [] w := ⟨rfl, rfl, rfl, fun _ _ h => h, [], rfl, List.nodup_nil, fun p hp => absurd hp (by simp)⟩
theorem cell_fhOf (w : World) (a : Addr) : (fhOf w).cell? a = w.cell? a := by
  unfold FH.cell? World.cell? fhOf
  rfl
theorem below_of_holds {w w' : World} {F' : FH} {L' : List HP} (le : fhOf w ≤ F') (h : Holds F' L' w') : Below w.heap.size w w' := by
  have key : ∀ k o, w.heap[k]? = some o → w'.heap[k]? = some o := fun k o hk => h.cells k o (le.cells k o hk)
  refine ⟨h.os.trans le.os, h.tape.trans le.tape, h.output.trans le.output, ?_, fun k hk => ?_⟩
  · rcases Nat.eq_zero_or_pos w.heap.size with h0 | h0
    · omega
    · have h1 : w.heap[w.heap.size - 1]? = some (w.heap[w.heap.size - 1]'(by omega)) := Array.getElem?_eq_getElem (by omega)
      have h2 := (Array.getElem?_eq_some_iff.1 (key _ _ h1)).1
      omega
  · have h1 : w.heap[k]? = some (w.heap[k]'hk) := Array.getElem?_eq_getElem hk
    rw [h1]
    exact key _ _ h1
def Opens (P : Program) (t : TypeId) {α : Type} (R : FH → List Value → α → Prop) (B : α → Prop) : Prop :=
  ∀ (H : Type) (enc : TypeId × Value → H) (w : World) (base : Nat) (spare : Nat → Bool) (held : Bool) (fuel : Nat) (cs : List Value) (x : DataW H × List MemPlace),
    DataW.trod enc P w base spare held fuel t cs = some x → ∃ a, R (fhOf w) cs a ∧ B a
variable {P : Program} {t e : TypeId}
theorem opens_slice {α : Type} {R : FH → List Value → α → Prop} {B : α → Prop} {s : Nat} (d : α) (ht : P.underlying t = some (.slice e)) (hc : P.cellsOf e = s) (ho : Opens P e R B) :
    Opens P t (fun F cs (xs : List α) => ∃ v, cs = [v] ∧ SlOf s R d F v xs) (fun xs => xs.length ≤ 9223372036854775807 ∧ ∀ i, i < xs.length → B (xs.getD i d)) := by
  intro H enc w base spare held fuel cs x h
  rcases Go.Deep.open_slice ht h with ⟨rfl, _⟩ | ⟨a, len, cap, m, n, D, Pl, rfl, hb, hl, hm, hmm, _, hx⟩
  · exact ⟨[], ⟨_, rfl, [], ⟨by simp, none, 0, rfl, by simp, fun _ => rfl, fun a h => by cases h⟩, fun i hi => by simp at hi⟩, by simp, fun i hi => by simp at hi⟩
  · have hlm : len ≤ m := by rw [hmm]; split <;> omega
    rw [hc] at hx
    have each : ∀ i, i < len → ∃ q : α, ∃ cs' : List Value, cs'.length = s ∧ (∀ r, r < s → w.cell? (a.add (i * s + r)) = cs'[r]?) ∧ R (fhOf w) cs' q ∧ B q := by
      intro i hi
      obtain ⟨cs', h1, h2⟩ := hx i (by omega)
      obtain ⟨_, hlen, hcell⟩ := World.cells?_some h1
      obtain ⟨q, hq, hbq⟩ := ho H enc w base spare held n cs' _ h2
      exact ⟨q, cs', hlen, fun r hr => by rw [← hcell r hr, add_add], hq, hbq⟩
    have ⟨q, hq⟩ : ∃ q : Nat → α, ∀ i, i < len → ∃ cs' : List Value, cs'.length = s ∧ (∀ r, r < s → w.cell? (a.add (i * s + r)) = cs'[r]?) ∧ R (fhOf w) cs' (q i) ∧ B (q i) := by
      haveI : Inhabited α := ⟨d⟩
      exact Go.Deep.choose_lt each
    let V : Nat → Value := fun j => (w.cell? (a.add j)).getD undef
    have hV : ∀ j, j < len * s → w.cell? (a.add j) = some (V j) := by
      intro j hj
      have hs : 0 < s := by rcases Nat.eq_zero_or_pos s with h0 | h0; subst h0; simp at hj; exact h0
      have hdiv : j / s < len := (Nat.div_lt_iff_lt_mul hs).2 hj
      obtain ⟨cs', hl', hcell, _⟩ := hq (j / s) hdiv
      have hr := hcell (j % s) (Nat.mod_lt _ hs)
      have e1 : j / s * s + j % s = j := by rw [Nat.mul_comm]; exact Nat.div_add_mod j s
      rw [e1] at hr
      have hlt : j % s < cs'.length := by rw [hl']; exact Nat.mod_lt _ hs
      rw [List.getElem?_eq_getElem hlt] at hr
      show w.cell? (a.add j) = some ((w.cell? (a.add j)).getD undef)
      rw [hr]; rfl
    have hxl : ((List.range len).map q).length = len := by simp
    have hgd : ∀ i, i < len → ((List.range len).map q).getD i d = q i := fun i hi => by simp [List.getD, hi]
    refine ⟨(List.range len).map q, ⟨_, rfl, (List.range (len * s)).map V, ⟨by simp, some a, cap, by rw [hxl], by omega, (fun h => by cases h), ?_⟩, ?_⟩, by rw [hxl]; unfold maxLen at hm; omega, fun i hi => ?_⟩
    · intro a' ha i u hu
      obtain rfl := Option.some.inj ha
      have hi : i < len * s := by have := (List.getElem?_eq_some_iff.1 hu).1; simpa using this
      rw [cell_fhOf, hV i hi]
      rw [List.getElem?_map, List.getElem?_range hi] at hu
      exact hu
    · intro i hi
      rw [hxl] at hi
      obtain ⟨cs', hl', hcell, hR, _⟩ := hq i hi
      refine ⟨cs', hl', ?_, by rw [hgd i hi]; exact hR⟩
      have hle : i * s + s ≤ len * s := by
        have : (i + 1) * s ≤ len * s := Nat.mul_le_mul_right s hi
        rwa [Nat.succ_mul] at this
      apply List.ext_getElem?
      intro r
      rcases Nat.lt_or_ge r s with hr | hr
      · rw [List.getElem?_take, if_pos hr, List.getElem?_drop, List.getElem?_map, List.getElem?_range (by omega), ← hcell r hr, hV _ (by omega)]; rfl
      · rw [List.getElem?_eq_none (by simp; omega), List.getElem?_eq_none (by omega)]
    · rw [hxl] at hi
      obtain ⟨_, _, _, _, hB⟩ := hq i hi
      rw [hgd i hi]
      exact hB
theorem Opens.mono {α : Type} {R R' : FH → List Value → α → Prop} {B B' : α → Prop} (h : Opens P t R B) (hR : ∀ F cs a, R F cs a → R' F cs a) (hB : ∀ a, B a → B' a) : Opens P t R' B' := fun H enc w base spare held fuel cs x hx =>
  let ⟨a, h1, h2⟩ := h H enc w base spare held fuel cs x hx
  ⟨a, hR _ _ _ h1, hB _ h2⟩
theorem Opens.slv {α : Type} {R : FH → List Value → α → Prop} {B : α → Prop} (h : Opens P t R B) (ht : P.underlying t = some (.slice e)) {H : Type} {enc : TypeId × Value → H} {w : World} {r : Reach} {base b0 : Nat} {spare : Nat → Bool} {held : Bool} {v : Value} {d : DataW H} {ps : List MemPlace}
    (hv : Value.okWide P w r b0 t v) (ht' : DataW.Trod enc P w base spare held t v d ps) : ∃ a, R (fhOf w) [v] a ∧ B a := by
  obtain ⟨a, l, c, rfl⟩ := okWide_slice ht hv
  obtain ⟨n, hn⟩ := ht'
  exact h H enc w base spare held n _ _ hn
theorem Opens.agg {α : Type} {R : FH → List Value → α → Prop} {B : α → Prop} (h : Opens P t R B) {fs : Array Field} (ht : P.underlying t = some (.struct fs)) {H : Type} {enc : TypeId × Value → H} {w : World} {r : Reach} {base b0 : Nat} {spare : Nat → Bool} {held : Bool} {v : Value} {d : DataW H} {ps : List MemPlace}
    (hv : Value.okWide P w r b0 t v) (ht' : DataW.Trod enc P w base spare held t v d ps) : ∃ cs : List Value, v = .agg cs.toArray ∧ ∃ a, R (fhOf w) cs a ∧ B a := by
  obtain ⟨cs, rfl, _⟩ := okWide_struct ht hv
  obtain ⟨n, hn⟩ := ht'
  exact ⟨cs.toList, by simp, h H enc w base spare held n _ _ hn⟩
theorem Opens.int {k : IntKind} (ht : P.underlying t = some (.int k)) {H : Type} {enc : TypeId × Value → H} {w : World} {r : Reach} {base b0 : Nat} {spare : Nat → Bool} {held : Bool} {v : Value} {d : DataW H} {ps : List MemPlace}
    (hv : Value.okWide P w r b0 t v) (ht' : DataW.Trod enc P w base spare held t v d ps) : ∃ n, v = .int k n ∧ (Lit.int k n).wf = true := by
  obtain ⟨n, rfl, _, _, hw⟩ := open_int ht hv ht'
  exact ⟨n, rfl, hw⟩
theorem trodAll_below {H : Type} {enc : TypeId × Value → H} (hl : laidOutB P = true) {W W' : World} (hb : Below W.heap.size W W') {sp : Nat → Bool} :
    ∀ {ts : List TypeId} {vs : List Value} {ds : List (DataW H)} {ps : List MemPlace}, (ts.all fun t => P.readableRec t && decide (t < P.types.size)) = true → DataW.TrodAll enc P W 0 (fun _ => true) true ts vs ds ps →
      (∀ x ∈ ps, x.block < W.heap.size) → (∀ p ∈ ps, sp p.block = true) → DataW.TrodAll enc P W' 0 sp true ts vs ds ps
  | [], [], [], _, _, h, _, _ => h
  | [], _ :: _, _, _, _, h, _, _ => by cases h
  | [], [], _ :: _, _, _, h, _, _ => by cases h
  | _ :: _, [], _, _, _, h, _, _ => by cases h
  | _ :: _, _ :: _, [], _, _, h, _, _ => by cases h
  | t :: ts, v :: vs, d :: ds, ps, hr, h, hlt, hsp => by
    obtain ⟨p, q, h1, h2, rfl⟩ := h
    simp only [List.all_cons, Bool.and_eq_true, decide_eq_true_eq] at hr
    exact ⟨p, q, Go.WideElems.Trod_stays hl hr.1.1 hr.1.2 h1 (fun x hx => hb.same (hlt x (List.mem_append_left _ hx))) (fun x hx => hsp x (List.mem_append_left _ hx)),
      trodAll_below hl hb hr.2 h2 (fun x hx => hlt x (List.mem_append_right _ hx)) (fun x hx => hsp x (List.mem_append_right _ hx)), rfl⟩
theorem post_of_law {H : Type} {enc : TypeId × Value → H} {f : Func} {s : ChangeSpec} {apart fresh handsOn : Bool} {W W' : World} {args : Array Value} {ds gs : List (DataW H)} {before : List MemPlace} {tb : TypeId}
    (hs : s.vars = []) (hfn : s.fn H (ds ++ gs) = { results := [.lit (.bool true)], args := ds }) (hl : laidOutB P = true) (hr : (f.params.toList.all fun t => P.readableRec t && decide (t < P.types.size)) = true)
    (hres : f.resultTypes = #[tb]) (htb : P.underlying tb = some .bool) (hW : DataW.Whole enc P f.params.toList s.vars apart W args.toList ds gs before) (hb : Below W.heap.size W W') : s.post enc P f apart fresh handsOn false W args (.bool true) W' := by
  have hlt := hW.lt
  have hW' := hW
  obtain ⟨p, q, hA, hV, rfl, _, _⟩ := hW
  rw [hs] at hV
  obtain ⟨rfl, rfl⟩ := trodVars_none hV
  refine ⟨ds, [], p ++ [], [], p, [], hW', ?_, ?_, ?_, ?_, fun h => by cases h⟩
  · rw [hfn, hres]
    exact trodAll_cons_mk (shut_bool htb _) trodAll_mk0
  · rw [hfn]
    exact trodAll_below hl hb hr hA (fun x hx => hlt x (by simpa using hx)) (fun x hx => by simpa using hlt x (by simpa using hx))
  · rw [hfn, hs]; rfl
  · exact World.keptBut_mono (fun x hx => ⟨hx, .inr (.inl (by simpa using hx))⟩) (hb.frame (· ∈ p ++ []))
theorem Does.atTop {f : FuncId} {args : List Value} {W : World} (h : Does P f args (fhOf W) [] fun v _ _ => v = .bool true) : Calls P f args.toArray W fun e W' => e = .returned (.bool true) ∧ Below W.heap.size W W' :=
  (h W (holds_fhOf W)).mono fun _ _ ⟨_, _, _, he, le, H, hv⟩ => ⟨by rw [he, hv], below_of_holds le H⟩
end Go.Proofs.Ytmaaifhmhclhdaa.X
set_option linter.unusedSimpArgs false
set_option linter.unusedVariables false
namespace Go.Proofs.Ytmaaifhmhclhdaa.X
open Go Go.WideShapes Go.ChangeShapes Go.RowKit
variable {P : Program} {t e : TypeId}
end Go.Proofs.Ytmaaifhmhclhdaa.X
set_option linter.unusedSimpArgs false
set_option linter.unusedVariables false
namespace Go.Proofs.Ytmaaifhmhclhdaa.X
open Go Go.ChangeShapes Go.WideShapes Go.ChangeAt
variable {P : Program} {t e : TypeId}
theorem opens_byte (ht : P.underlying e = some (.int .u8)) : Opens P e ByteE (fun _ => True) := by
  intro H enc w base spare held fuel cs x h
  obtain ⟨n, rfl, _, hw⟩ := DataW.trod_int ht h
  refine ⟨n, ⟨rfl, ?_⟩, trivial⟩
  simp [Lit.wf, IntKind.min, IntKind.max, IntKind.signed, IntKind.bits] at hw
  omega
theorem opens_bytes (ht : P.underlying t = some (.slice e)) (he : P.underlying e = some (.int .u8)) (hc : P.cellsOf e = 1) :
    Opens P t (fun F cs (xs : List Int) => ∃ v, cs = [v] ∧ BytesF F v xs) (fun xs => xs.length ≤ 9223372036854775807) :=
  (opens_slice 0 ht hc (opens_byte he)).mono (fun _ _ _ h => h) (fun _ h => h.1)
end Go.Proofs.Ytmaaifhmhclhdaa.X
