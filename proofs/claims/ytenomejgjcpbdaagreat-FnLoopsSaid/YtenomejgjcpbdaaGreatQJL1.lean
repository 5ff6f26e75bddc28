/-
  What the walks rest on (part 2).
-/
import Derived.Orders
import Derived.Tactics
import Derived.Below
import Derived.Laws.CopyRow
import Derived.Laws.AppendOwn
import Derived.IntWalk
import Derived.Lib.AppendZeros
import Derived.OrdersIn
import Derived.TacticsIn
import Derived.RangeFuncSeq
import Derived.RangeFuncRecord
import Derived.RangeFuncLeaves
import Derived.Scope
import Derived.Laws.Append
import Derived.WalkKit
import Derived.ProofKit
import Derived.OpenShut
import Derived.JoinedCond
import Derived.Carry
import Derived.Deep.Slices
import Derived.Test.YtenomejgjcpbdaaGreatQJL0
set_option linter.unusedSimpArgs false
set_option linter.unusedVariables false
namespace Go.Proofs.YtenomejgjcpbdaaGreat.M
def Forest (ar l : List Int) (n : Nat) : Prop := endGo ar l n = some l.length
theorem endGo_more {ar : List Int} : ∀ {a b : List Int} {n e : Nat}, endGo ar a n = some e → endGo ar (a ++ b) n = some e
 | a, b, 0, e, h => by simp [endGo] at h; subst h; simp [endGo]
 | [], b, n + 1, e, h => by simp [endGo] at h
 | x :: a, b, n + 1, e, h => by
  simp only [endGo, List.cons_append] at h ⊢
  split at h
  ·rename_i hx
   rw [if_pos hx]
   cases hr : endGo ar a (n + (arity ar x).toNat) with
   | none => rw [hr] at h; simp at h
   | some q => rw [hr] at h; rw [endGo_more hr]; exact h
  ·cases h
theorem Forest.append {ar a b : List Int} {n m : Nat} (h : Forest ar a n) (k : Forest ar b m) : Forest ar (a ++ b) (n + m) := by
 unfold Forest at *
 have h1 := endGo_more (b := b) h
 have := endGo_join (m := m) (e2 := b.length) h1 (by rw [List.drop_left]; exact k)
 rw [this, List.length_append]
theorem Forest.cons {ar r : List Int} {x : Int} {n : Nat} (hx : x < ar.length) : Forest ar (x :: r) (n + 1) ↔ Forest ar r (n + (arity ar x).toNat) := by
 unfold Forest
 simp only [endGo, if_pos hx, List.length_cons]
 cases endGo ar r (n + (arity ar x).toNat) <;> simp
theorem Forest.lt {ar r : List Int} {x : Int} {n : Nat} (h : Forest ar (x :: r) n) : ∃ m, n = m + 1 ∧ x < ar.length := by
 unfold Forest at h
 cases n with
 | zero => simp [endGo] at h
 | succ m =>
  refine ⟨m, rfl, ?_⟩
  simp only [endGo] at h
  split at h
  ·assumption
  ·cases h
theorem arity_var {ar : List Int} {x : Int} (h : x < 0) : arity ar x = 0 := by simp [arity]; omega
theorem Forest.fill {ar : List Int} {s : RowL} (hs : ∀ x : Int, x < 0 → Forest ar (lk s x) 1) : ∀ (t : List Int) (n : Nat), Forest ar t n → Forest ar (t.flatMap (lk s)) n
 | [], n, h => h
 | x :: t, n, h => by
  obtain ⟨m, rfl, hx⟩ := h.lt
  have h1 := (Forest.cons hx).1 h
  rw [List.flatMap_cons]
  by_cases h0 : x < 0
  ·rw [arity_var h0] at h1
   rw [Nat.add_comm]
   exact (hs x h0).append (Forest.fill hs t m (by simpa using h1))
  ·rw [lk_sym (by omega)]
   exact (Forest.cons hx).2 (Forest.fill hs t _ h1)
theorem fillGo_flat {s : RowL} : ∀ (t acc u : List Int), fillGo s t acc = some u → u = acc ++ t.flatMap (lk s)
 | [], acc, u, h => by simp [fillGo] at h; simp [h]
 | n :: t, acc, u, h => by
  rw [fillGo] at h
  split at h
  ·cases h
  ·rw [fillGo_flat t _ u h, List.flatMap_cons, List.append_assoc]
theorem fillL_flat {s : RowL} {t u : List Int} (h : fillL s t = some u) : u = t.flatMap (lk s) := by
 have := fillGo_flat t [] u h
 simpa using this
def RowsOk (ar : List Int) (s : RowL) : Prop := ∀ i, s.getD i [] = [] ∨ termOk ar (s.getD i []) = true
theorem lk_forest {ar : List Int} {s : RowL} (h : RowsOk ar s) (hs : sigOk ar = true) (x : Int) (hx : x < 0) : Forest ar (lk s x) 1 := by
 unfold lk
 rw [if_neg (by omega)]
 split
 ·have : Forest ar [x] (0 + 1) := (Forest.cons (by have := sigOk_spec hs; omega)).2 (by rw [arity_var hx]; rfl)
  exact this
 ·rename_i e
  exact (termOk_iff.1 ((h (varIx x)).resolve_left e)).whole
theorem lk_ge {ar : List Int} {s : RowL} (h : RowsOk ar s) {x : Int} (hx : -24 ≤ x) : ∀ y ∈ lk s x, -24 ≤ y := by
 intro y hy
 unfold lk at hy
 split at hy
 ·simp at hy; omega
 ·split at hy
  ·simp at hy; omega
  ·rename_i e; exact (termOk_iff.1 ((h (varIx x)).resolve_left e)).ge y hy
theorem fill_ok {ar : List Int} {s : RowL} {t u : List Int} (h : RowsOk ar s) (ht : termOk ar t = true) (hu : fillL s t = some u) : termOk ar u = true := by
 have hT := termOk_iff.1 ht
 have hl := fillL_len hu
 have hf := Forest.fill (lk_forest h hT.sig) t 1 hT.whole
 rw [← fillL_flat hu] at hf
 refine termOk_iff.2 ⟨hT.sig, by have := hT.pos; omega, hl.1, ?_, hf⟩
 rw [fillL_flat hu]
 intro y hy
 obtain ⟨x, hx, hy⟩ := List.mem_flatMap.1 hy
 exact lk_ge h (hT.ge x hx) y hy
theorem mGo_ok {ar t : List Int} (ht : termOk ar t = true) : ∀ (p : List Int) (i : Nat) (b r : RowL), mGo ar t p i b = some r → RowsOk ar b → RowsOk ar r
 | [], i, b, r, h, hb => by simp [mGo] at h; subst h; exact hb
 | n :: p, i, b, r, h, hb => by
  rw [mGo] at h
  split at h
  ·cases h
  ·rename_i hi
   split at h
   ·split at h
    ·exact mGo_ok ht p _ _ _ h hb
    ·cases h
   ·split at h
    ·refine mGo_ok ht p _ _ _ h (fun k => ?_)
     by_cases e : varIx n = k
     ·subst e
      rcases Nat.lt_or_ge (varIx n) b.length with hl | hl
      ·have : (b.set (varIx n) (sub ar t i)).getD (varIx n) [] = sub ar t i := by simp [List.getD_eq_getElem?_getD, hl]
       rw [this]; exact .inr (sub_ok ht (by omega))
      ·rw [List.set_eq_of_length_le hl]; exact hb _
     ·rw [List.getD_eq_getElem?_getD, List.getElem?_set_ne e, ← List.getD_eq_getElem?_getD]; exact hb k
    ·split at h
     ·exact mGo_ok ht p _ _ _ h hb
     ·cases h
theorem matchB_ok {ar p t : List Int} {b : RowL} (ht : termOk ar t = true) (h : matchB ar p t = some b) : RowsOk ar b := by
 refine mGo_ok ht p 0 _ b h (fun k => .inl ?_)
 rw [List.getD_eq_getElem?_getD, List.getElem?_replicate]
 split <;> rfl
theorem Forest.swap {ar S U B : List Int} (hS : Forest ar S 1) (hU : Forest ar U 1) (hp : S ≠ []) : ∀ (A : List Int) (n : Nat), Forest ar (A ++ S ++ B) n → Forest ar (A ++ U ++ B) n
 | [], n, h => by
  simp only [List.nil_append] at h ⊢
  cases S with
  | nil => exact absurd rfl hp
  | cons x S =>
   obtain ⟨m, rfl, _⟩ := Forest.lt h
   unfold Forest at h
   rw [Nat.add_comm] at h
   obtain ⟨e1, e2, h1, h2, h3⟩ := endGo_split h
   have h4 := endGo_more (b := B) hS
   rw [h4] at h1
   cases h1
   rw [List.drop_left] at h2
   have hB : Forest ar B m := by
    unfold Forest
    rw [h2]
    rw [List.length_append] at h3
    congr 1; omega
   rw [Nat.add_comm]
   exact hU.append hB
 | x :: A, n, h => by
  obtain ⟨m, rfl, hx⟩ := Forest.lt h
  exact (Forest.cons hx).2 (Forest.swap hS hU hp A _ ((Forest.cons hx).1 h))
theorem parts {ar t : List Int} {p : Nat} (ht : termOk ar t = true) (hp : p < t.length) : t = t.take p ++ sub ar t p ++ t.drop (endN ar t p) := by
 have he := endN_spec ht hp
 have : sub ar t p ++ t.drop (endN ar t p) = t.drop p := by
  unfold sub
  have e : t.drop (endN ar t p) = (t.drop p).drop (endN ar t p - p) := by rw [List.drop_drop]; congr 1; omega
  rw [e, List.take_append_drop]
 rw [List.append_assoc, this, List.take_append_drop]
theorem put_ok {ar t u v : List Int} {p : Nat} (ht : termOk ar t = true) (hp : p < t.length) (hu : termOk ar u = true) (h : putL ar t p u = some v) : termOk ar v = true := by
 unfold putL at h
 split at h
 ·cases h
 ·rename_i hl
  cases h
  have hT := termOk_iff.1 ht
  have hU := termOk_iff.1 hu
  refine termOk_iff.2 ⟨hT.sig, by have := hU.pos; simp; omega, by omega, ?_, ?_⟩
  ·intro x hx
   simp only [List.mem_append] at hx
   rcases hx with (hx | hx) | hx
   ·exact hT.ge x (List.mem_of_mem_take hx)
   ·exact hU.ge x hx
   ·exact hT.ge x (List.mem_of_mem_drop hx)
  ·have h1 : Forest ar (t.take p ++ sub ar t p ++ t.drop (endN ar t p)) 1 := by rw [← parts ht hp]; exact hT.whole
   exact Forest.swap (termOk_iff.1 (sub_ok ht hp)).whole hU.whole (sub_ne ht hp) _ _ h1
theorem stepL_ok {ar : List Int} {rs : Rules} {t u : List Int} {p r : Nat} (hs : sysOk ar rs = true) (ht : termOk ar t = true) (hp : p < t.length) (hr : r < rs.length) (h : stepL ar rs t p r = some u) : termOk ar u = true := by
 have hR := ruleOk_iff.1 ((sysOk_iff.1 hs).2.2 r hr)
 unfold stepL at h
 split at h
 ·cases h
 ·rename_i b hb
  split at h
  ·cases h
  ·rename_i w hw
   exact put_ok ht hp (fill_ok (matchB_ok (sub_ok ht hp) hb) hR.right hw) h
section
variable {ar : List Int} {rs : Rules} {t u : List Int} {st : Int} {m : Nat}
end
end Go.Proofs.YtenomejgjcpbdaaGreat.M
set_option linter.unusedSimpArgs false
set_option linter.unusedVariables false
namespace Go.Proofs.YtenomejgjcpbdaaGreat.M
section
variable {ar : List Int} {rs : Rules} {t : List Int} {p k j : Nat}
end
end Go.Proofs.YtenomejgjcpbdaaGreat.M
set_option linter.unusedSimpArgs false
set_option linter.unusedVariables false
namespace Go.Proofs.YtenomejgjcpbdaaGreat.M
end Go.Proofs.YtenomejgjcpbdaaGreat.M
set_option linter.unusedSimpArgs false
set_option linter.unusedVariables false
namespace Go.Proofs.YtenomejgjcpbdaaGreat.M
def flatRow (r : List Int) : List Int := r
def flatStep (s : Int × Int × List Int) : List Int := s.1 :: s.2.1 :: s.2.2
abbrev StepL := Int × Int × List Int
def stepAtOk (ar : List Int) (rs : Rules) (t : List Int) (p r : Int) : Bool := rightB ar rs t && decide (0 ≤ p ∧ p < (t.length : Int)) && decide (0 ≤ r ∧ r < (rs.length : Int))
def stepAtL (ar : List Int) (rs : Rules) (t : List Int) (p r : Int) : Option (List Int) := if stepAtOk ar rs t p r = true then stepL ar rs t p.toNat r.toNat else none
def goOk (ar : List Int) (rs : Rules) : List Int → List StepL → Bool
 | _, [] => true
 | t, s :: ss => decide (stepAtL ar rs t s.1 s.2.1 = some s.2.2) && goOk ar rs s.2.2 ss
def endL (f : List Int) (ss : List StepL) : List Int := if ss.length = 0 then f else (ss.getD (ss.length - 1) (0, 0, [])).2.2
def walkOkL (ar : List Int) (rs : Rules) (f : List Int) (ss : List StepL) : Bool := rightB ar rs f && decide (ss.length ≤ 60) && goOk ar rs f ss
variable {ar : List Int} {rs : Rules} {t f : List Int} {ss : List StepL}
theorem walkOkL_iff : walkOkL ar rs f ss = true ↔ rightB ar rs f = true ∧ ss.length ≤ 60 ∧ goOk ar rs f ss = true := by simp [walkOkL, and_assoc]
theorem stepAtL_ok {p r : Int} {u : List Int} (h : stepAtL ar rs t p r = some u) : rightB ar rs u = true ∧ stepAtOk ar rs t p r = true := by
 unfold stepAtL at h
 split at h
 ·rename_i hk
  have hk' := hk
  simp only [stepAtOk, Bool.and_eq_true, decide_eq_true_eq] at hk
  obtain ⟨⟨h1, h2⟩, h3⟩ := hk
  have hs := (right_iff.1 h1).1
  exact ⟨right_iff.2 ⟨hs, stepL_ok hs (right_iff.1 h1).2 (by omega) (by omega) h⟩, hk'⟩
 ·cases h
def nowL (f : List Int) (ss : List StepL) (k : Nat) : List Int := endL f (ss.take k)
theorem nowL_zero : nowL f ss 0 = f := by simp [nowL, endL]
theorem nowL_succ {k : Nat} (h : k < ss.length) : nowL f ss (k + 1) = (ss.getD k (0, 0, [])).2.2 := by
 have hl : (ss.take (k + 1)).length = k + 1 := by rw [List.length_take]; omega
 unfold nowL endL
 rw [hl, if_neg (by omega)]
 congr 2
 simp [List.getD, h]
theorem nowL_all : nowL f ss ss.length = endL f ss := by rw [nowL, List.take_length]
theorem goOk_drop {k : Nat} (h : k < ss.length) : goOk ar rs t (ss.drop k) = (decide (stepAtL ar rs t (ss.getD k (0, 0, [])).1 (ss.getD k (0, 0, [])).2.1 = some (ss.getD k (0, 0, [])).2.2) && goOk ar rs (ss.getD k (0, 0, [])).2.2 (ss.drop (k + 1))) := by
 rw [drop_get (0, 0, []) h]; rfl
theorem goOk_end {k : Nat} (h : ss.length ≤ k) : goOk ar rs t (ss.drop k) = true := by rw [List.drop_eq_nil_of_le h]; rfl
theorem goOk_now (h : goOk ar rs f ss = true) (hr : rightB ar rs f = true) : ∀ k, k ≤ ss.length → rightB ar rs (nowL f ss k) = true ∧ goOk ar rs (nowL f ss k) (ss.drop k) = true
 | 0, _ => by rw [nowL_zero]; exact ⟨hr, h⟩
 | k + 1, hk => by
  obtain ⟨h1, h2⟩ := goOk_now h hr k (by omega)
  rw [goOk_drop (by omega), Bool.and_eq_true, decide_eq_true_eq] at h2
  rw [nowL_succ (by omega)]
  exact ⟨(stepAtL_ok h2.1).1, h2.2⟩
theorem walkOk_end (h : walkOkL ar rs f ss = true) : rightB ar rs (endL f ss) = true := by
 obtain ⟨h1, _, h3⟩ := walkOkL_iff.1 h
 have := (goOk_now h3 h1 ss.length (Nat.le_refl _)).1
 rwa [nowL_all] at this
theorem walkOk_step (h : walkOkL ar rs f ss = true) {k : Nat} (hk : k < ss.length) : stepAtL ar rs (nowL f ss k) (ss.getD k (0, 0, [])).1 (ss.getD k (0, 0, [])).2.1 = some (ss.getD k (0, 0, [])).2.2 := by
 obtain ⟨h1, _, h3⟩ := walkOkL_iff.1 h
 have := (goOk_now h3 h1 k (by omega)).2
 rw [goOk_drop hk, Bool.and_eq_true, decide_eq_true_eq] at this
 exact this.1
theorem walkOk_to (h : walkOkL ar rs f ss = true) {k : Nat} (hk : k < ss.length) : termOk ar (ss.getD k (0, 0, [])).2.2 = true := (right_iff.1 (stepAtL_ok (walkOk_step h hk)).1).2
end Go.Proofs.YtenomejgjcpbdaaGreat.M
set_option linter.unusedSimpArgs false
set_option linter.unusedVariables false
namespace Go.Proofs.YtenomejgjcpbdaaGreat.M
section
variable {α : Type} {f : α → Nat} {l : List α} {k : Nat}
def gTo (f : α → Nat) (l : List α) (k : Nat) : Nat := ((l.take k).map f).sum
theorem gTo_succ (d : α) (h : k < l.length) : gTo f l k + f (l.getD k d) = gTo f l (k + 1) := by
 unfold gTo
 rw [take_succ_getD d h]
 simp
end
def lenS (s : StepL) : Nat := s.2.2.length
theorem flatStep_len (ss : List StepL) : (ss.flatMap flatStep).length ≤ 2 * ss.length + gTo lenS ss ss.length := by
 unfold gTo
 rw [List.take_length, List.length_flatMap]
 induction ss with
 | nil => simp
 | cons s ss ih => simp [flatStep, lenS] at ih ⊢; omega
section
variable {ar : List Int} {rs : Rules} {t u f : List Int} {ss : List StepL} {st : Int} {m k : Nat}
theorem goOk_next (hk : k < ss.length) (h1 : (stepAtL ar rs t (ss.getD k (0, 0, [])).1 (ss.getD k (0, 0, [])).2.1).isSome = true) (h2 : (stepAtL ar rs t (ss.getD k (0, 0, [])).1 (ss.getD k (0, 0, [])).2.1).getD [] = (ss.getD k (0, 0, [])).2.2) :
  goOk ar rs t (ss.drop k) = goOk ar rs ((stepAtL ar rs t (ss.getD k (0, 0, [])).1 (ss.getD k (0, 0, [])).2.1).getD []) (ss.drop (k + 1)) := by
 rw [goOk_drop hk]
 obtain ⟨v, hv⟩ := Option.isSome_iff_exists.1 h1
 rw [hv] at h2 ⊢
 simp only [Option.getD_some] at h2 ⊢
 subst h2
 simp
theorem goOk_fail (hk : k < ss.length) (h : (stepAtL ar rs t (ss.getD k (0, 0, [])).1 (ss.getD k (0, 0, [])).2.1).isSome = false ∨ (stepAtL ar rs t (ss.getD k (0, 0, [])).1 (ss.getD k (0, 0, [])).2.1).getD [] ≠ (ss.getD k (0, 0, [])).2.2) : goOk ar rs t (ss.drop k) = false := by
 rw [goOk_drop hk, Bool.and_eq_false_iff]
 refine .inl (decide_eq_false fun e => ?_)
 rw [e] at h
 rcases h with h | h
 ·cases h
 ·exact h rfl
theorem stepAt_of {p r : Nat} (hr : rightB ar rs t = true) (hp : p < t.length) (hrl : r < rs.length) : stepAtL ar rs t p r = stepL ar rs t p r := by
 rw [stepAtL, if_pos (by simp [stepAtOk, hr, hp, hrl])]; rfl
def endT (ar : List Int) (rs : Rules) (f : List Int) (ss : List StepL) : List Int := if walkOkL ar rs f ss = true then endL f ss else []
theorem gTo_bound {N : Nat} {l : List StepL} (h : ∀ i, i < l.length → (l.getD i (0, 0, [])).2.2.length ≤ N) : ∀ k, k ≤ l.length → gTo lenS l k ≤ k * N
 | 0, _ => by simp [gTo]
 | k + 1, hk => by
  have h1 := gTo_bound h k (by omega)
  have h2 := h k (by omega)
  rw [← gTo_succ ((0, 0, []) : StepL) (by omega), Nat.succ_mul]
  have : lenS (l.getD k (0, 0, [])) = (l.getD k (0, 0, [])).2.2.length := rfl
  omega
end
end Go.Proofs.YtenomejgjcpbdaaGreat.M
set_option linter.unusedSimpArgs false
set_option linter.unusedVariables false
namespace Go.Proofs.YtenomejgjcpbdaaGreat.M
section
variable {ar : List Int} {rs : Rules} {a b t : List Int} {ts : RowL} {n : Int} {m k : Nat}
end
end Go.Proofs.YtenomejgjcpbdaaGreat.M
set_option linter.unusedSimpArgs false
set_option linter.unusedVariables false
namespace Go.Proofs.YtenomejgjcpbdaaGreat.X
open Go
theorem FzC.rdN {F : FH} {L : List HP} {b o : Nat} {cs vs : List Value} (h : FzC F b cs) (hv : (cs.drop o).take vs.length = vs) : ∀ i u, vs[i]? = some u → Rd F L ((⟨b, o, none⟩ : Addr).add i) u := by
 intro i u hu
 rw [add_lit]
 refine Rd.fz (h (o + i) u ?_)
 rw [← hv, List.getElem?_take] at hu
 split at hu
 ·rwa [List.getElem?_drop] at hu
 ·cases hu
end Go.Proofs.YtenomejgjcpbdaaGreat.X
set_option linter.unusedSimpArgs false
set_option linter.unusedVariables false
namespace Go.Proofs.YtenomejgjcpbdaaGreat.M
section
variable {α : Type} {q : α → Bool} {l : List α} {d : α} {k : Nat}
def badG (q : α → Bool) (l : List α) : Int := match l.findIdx? (fun t => !q t) with | some i => i | none => -1
theorem badG_at (d : α) (hk : k < l.length) (h : q (l.getD k d) = false) (hall : ∀ i, i < k → q (l.getD i d) = true) : badG q l = k := by
 unfold badG
 have : l.findIdx? (fun t => !q t) = some k := by
  rw [List.findIdx?_eq_some_iff_getElem]
  refine ⟨hk, by simpa [List.getD, hk] using h, fun j hj => ?_⟩
  have := hall j hj
  simpa [List.getD, Nat.lt_trans hj hk] using this
 rw [this]
theorem badG_none (d : α) (hall : ∀ i, i < l.length → q (l.getD i d) = true) : badG q l = -1 := by
 unfold badG
 have : l.findIdx? (fun t => !q t) = none := by
  rw [List.findIdx?_eq_none_iff]
  intro x hx
  obtain ⟨i, hi, rfl⟩ := List.getElem_of_mem hx
  simpa [List.getD, hi] using hall i hi
 rw [this]
theorem badG_iff : (badG q l ≥ 0) ↔ l.all q = false := by
 unfold badG
 cases h : l.findIdx? (fun t => !q t) with
 | none =>
  rw [List.findIdx?_eq_none_iff] at h
  have : l.all q = true := List.all_eq_true.2 fun x hx => by simpa using h x hx
  simp [this]
 | some i =>
  rw [List.findIdx?_eq_some_iff_getElem] at h
  obtain ⟨hi, h1, _⟩ := h
  have : l.all q = false := by
   rw [List.all_eq_false]
   exact ⟨_, List.getElem_mem hi, by simpa using h1⟩
  simp [this]
end
section
variable {ar : List Int} {rs es : Rules} {a b : List Int} {n : Int} {m k : Nat}
end
end Go.Proofs.YtenomejgjcpbdaaGreat.M
set_option linter.unusedSimpArgs false
set_option linter.unusedVariables false
namespace Go.Proofs.YtenomejgjcpbdaaGreat.M
section
variable {ar : List Int} {rs : Rules} {a b t : List Int} {ts : RowL} {n : Int} {k : Nat}
end
end Go.Proofs.YtenomejgjcpbdaaGreat.M
set_option linter.unusedSimpArgs false
set_option linter.unusedVariables false
namespace Go.Proofs.YtenomejgjcpbdaaGreat.M
section
variable {ar : List Int} {rs : Rules} {t f u : List Int} {ss acc : List StepL} {p : Nat} {k : Nat}
def insGo (ar t : List Int) (p : Nat) : List StepL → Option (List StepL)
 | [] => some []
 | s :: ss => match putL ar t p s.2.2 with
  | none => none
  | some u => (insGo ar t p ss).map (fun r => (s.1 + (p : Int), s.2.1, u) :: r)
def insB (ar : List Int) (rs : Rules) (f : List Int) (ss : List StepL) (t : List Int) (p : Int) : List Int × List StepL × Bool :=
 if walkOkL ar rs f ss = true ∧ posOk ar t p = true then
  match putL ar t p.toNat f, insGo ar t p.toNat ss with
  | some f', some ss' => (f', ss', true)
  | _, _ => ([], [], false)
 else ([], [], false)
def insR (ar : List Int) (f : List Int) (ss : List StepL) (t : List Int) (p : Nat) : List Int × List StepL × Bool :=
 match putL ar t p f, insGo ar t p ss with
 | some f', some ss' => (f', ss', true)
 | _, _ => ([], [], false)
theorem insR_from (h : (putL ar t p f).isSome = false) : insR ar f ss t p = ([], [], false) := by
 unfold insR
 cases hx : putL ar t p f with
 | none => rfl
 | some v => rw [hx] at h; cases h
theorem insR_steps (h : insGo ar t p ss = none) : insR ar f ss t p = ([], [], false) := by
 unfold insR
 rw [h]
 cases putL ar t p f <;> rfl
theorem insR_yes (h1 : (putL ar t p f).isSome = true) (h2 : insGo ar t p ss = some acc) : insR ar f ss t p = ((putL ar t p f).getD [], acc, true) := by
 obtain ⟨v, hv⟩ := Option.isSome_iff_exists.1 h1
 rw [insR, hv, h2]
 rfl
theorem insGo_next (hk : k < ss.length) (h : insGo ar t p ss = (insGo ar t p (ss.drop k)).map (fun r => acc ++ r)) (hu : (putL ar t p (ss.getD k (0, 0, [])).2.2).isSome = true) :
  insGo ar t p ss = (insGo ar t p (ss.drop (k + 1))).map (fun r => (acc ++ [((ss.getD k (0, 0, [])).1 + (p : Int), (ss.getD k (0, 0, [])).2.1, (putL ar t p (ss.getD k (0, 0, [])).2.2).getD [])]) ++ r) := by
 obtain ⟨v, hv⟩ := Option.isSome_iff_exists.1 hu
 rw [h, drop_get (0, 0, []) hk]
 show (match putL ar t p (ss.getD k (0, 0, [])).2.2 with | none => none | some u => (insGo ar t p (ss.drop (k + 1))).map (fun r => ((ss.getD k (0, 0, [])).1 + (p : Int), (ss.getD k (0, 0, [])).2.1, u) :: r)).map (fun r => acc ++ r) = _
 rw [hv]
 cases insGo ar t p (ss.drop (k + 1)) with
 | none => rfl
 | some r => simp
theorem insGo_fail (hk : k < ss.length) (h : insGo ar t p ss = (insGo ar t p (ss.drop k)).map (fun r => acc ++ r)) (hu : (putL ar t p (ss.getD k (0, 0, [])).2.2).isSome = false) : insGo ar t p ss = none := by
 rw [h, drop_get (0, 0, []) hk]
 show (match putL ar t p (ss.getD k (0, 0, [])).2.2 with | none => none | some u => (insGo ar t p (ss.drop (k + 1))).map (fun r => ((ss.getD k (0, 0, [])).1 + (p : Int), (ss.getD k (0, 0, [])).2.1, u) :: r)).map (fun r => acc ++ r) = _
 cases hx : putL ar t p (ss.getD k (0, 0, [])).2.2 with
 | none => rfl
 | some v => rw [hx] at hu; cases hu
theorem insGo_end (hk : ss.length ≤ k) (h : insGo ar t p ss = (insGo ar t p (ss.drop k)).map (fun r => acc ++ r)) : insGo ar t p ss = some acc := by
 rw [h, List.drop_eq_nil_of_le hk]
 simp [insGo]
theorem insGo_start : insGo ar t p ss = (insGo ar t p (ss.drop 0)).map (fun r => [] ++ r) := by
 simp
theorem walkOk_at (h : walkOkL ar rs f ss = true) (hk : k < ss.length) : 0 ≤ (ss.getD k (0, 0, [])).1 ∧ (ss.getD k (0, 0, [])).1 < 60 := by
 have h1 := walkOk_step h hk
 have h2 := (stepAtL_ok h1).2
 simp only [stepAtOk, Bool.and_eq_true, decide_eq_true_eq] at h2
 have h3 := termOk_len (right_iff.1 h2.1.1).2
 omega
theorem insGo_len : ∀ (ss : List StepL) (r : List StepL), insGo ar t p ss = some r → r.length = ss.length
 | [], r, h => by simp [insGo] at h; subst h; rfl
 | s :: ss, r, h => by
  unfold insGo at h
  split at h
  ·cases h
  ·obtain ⟨q, hq, rfl⟩ := Option.map_eq_some_iff.1 h
   simp [insGo_len ss q hq]
end
end Go.Proofs.YtenomejgjcpbdaaGreat.M
set_option linter.unusedSimpArgs false
set_option linter.unusedVariables false
namespace Go.Proofs.YtenomejgjcpbdaaGreat.M
section
variable {ar : List Int} {rs : Rules} {t f : List Int} {ss : List StepL} {s : RowL} {p : Int}
def substOk (ar : List Int) (s : RowL) : Bool := sigOk ar && decide (s.length ≤ 24) && s.all (fun t => decide (t = []) || termOk ar t)
theorem substOk_iff : substOk ar s = true ↔ sigOk ar = true ∧ s.length ≤ 24 ∧ ∀ i, i < s.length → s.getD i [] = [] ∨ termOk ar (s.getD i []) = true := by
 unfold substOk
 simp only [Bool.and_eq_true, decide_eq_true_eq, List.all_eq_true, Bool.or_eq_true, and_assoc]
 refine and_congr_right fun _ => and_congr_right fun _ => ⟨fun h i hi => ?_, fun h x hx => ?_⟩
 ·exact h _ (by simp [List.getD, hi])
 ·obtain ⟨i, hi, rfl⟩ := List.getElem_of_mem hx
  simpa [List.getD, hi] using h i hi
theorem substOk_false (h : ¬ (sigOk ar = true ∧ s.length ≤ 24 ∧ ∀ i, i < s.length → s.getD i [] = [] ∨ termOk ar (s.getD i []) = true)) : substOk ar s = false := by
 cases hx : substOk ar s with
 | false => rfl
 | true => exact absurd (substOk_iff.1 hx) h
theorem substOk_rows (h : substOk ar s = true) : RowsOk ar s := fun i => by
 rcases Nat.lt_or_ge i s.length with hi | hi
 ·exact (substOk_iff.1 h).2.2 i hi
 ·left; rw [List.getD_eq_getElem?_getD, List.getElem?_eq_none hi]; rfl
theorem substOk_len (h : substOk ar s = true) (i : Nat) : (s.getD i []).length ≤ 60 := by
 rcases substOk_rows h i with h1 | h1
 ·rw [h1]; simp
 ·exact (termOk_len h1).2
def filledL (ar : List Int) (s : RowL) (t : List Int) : Option (List Int) := if substOk ar s = true ∧ termOk ar t = true then fillL s t else none
theorem len_nil {l : List Int} (h : ¬ ((l.length : Nat) : Int) > 0) : l = [] := List.eq_nil_of_length_eq_zero (by omega)
def loopOkL (ar : List Int) (rs : Rules) (f : List Int) (ss : List StepL) (p : Int) (s : RowL) : Bool :=
 decide (ss.length ≠ 0) && walkOkL ar rs f ss && posOk ar (endL f ss) p && substOk ar s && decide (fillL s f = some (sub ar (endL f ss) p.toNat))
theorem loopOkL_iff : loopOkL ar rs f ss p s = true ↔ ss.length ≠ 0 ∧ walkOkL ar rs f ss = true ∧ posOk ar (endL f ss) p = true ∧ substOk ar s = true ∧ fillL s f = some (sub ar (endL f ss) p.toNat) := by simp [loopOkL, and_assoc]
theorem loopOkL_no (h : ¬ (ss.length ≠ 0 ∧ walkOkL ar rs f ss = true ∧ posOk ar (endL f ss) p = true ∧ substOk ar s = true ∧ fillL s f = some (sub ar (endL f ss) p.toNat))) : loopOkL ar rs f ss p s = false := by
 cases hx : loopOkL ar rs f ss p s with
 | false => rfl
 | true => exact absurd (loopOkL_iff.1 hx) h
theorem posOk_iff : posOk ar t p = true ↔ termOk ar t = true ∧ 0 ≤ p ∧ p < (t.length : Int) := by simp [posOk]
theorem fill_none {v : List Int} (h : (fillL s f).isSome = false) : fillL s f ≠ some v := fun e => by rw [e] at h; cases h
theorem fill_eq {v : List Int} (h : (fillL s f).isSome = true) : fillL s f = some v ↔ (fillL s f).getD [] = v := by
 obtain ⟨x, hx⟩ := Option.isSome_iff_exists.1 h
 rw [hx]; simp
end
end Go.Proofs.YtenomejgjcpbdaaGreat.M
set_option linter.unusedSimpArgs false
set_option linter.unusedVariables false
namespace Go.Proofs.YtenomejgjcpbdaaGreat.X
open Go
def FR (r : Option Nat) : Fence := { Fence.wide with round := r }
theorem callsIn_FR {r : Option Nat} {n : Nat} {P : Program} {f : FuncId} {args : Array Value} {w : World} {R : Ending → World → Prop} (h : Calls P f args w R) : CallsIn (FR r) n P f args w R := by
 have h1 : CallsIn Fence.wide n P f args w R := callsIn_wide.2 h
 exact h1
structure RepD (n : Nat) (d : List Deferred) (a : Act) (ρ : Env) : Prop where
 size : a.tmps.size = n
 defers : a.defers = d
 get : ∀ i, a.tmps.getD i undef = ρ i
theorem RepD.eval {n : Nat} {d : List Deferred} {a : Act} {ρ : Env} (h : RepD n d a ρ) : a.eval = evO ρ := by
 funext x
 cases x <;> first | rfl | exact h.get _
theorem Rep.toD {n : Nat} {a : Act} {ρ : Env} (h : Rep n a ρ) : RepD n [] a ρ := ⟨h.size, h.defers, h.get⟩
theorem RepD.of {n : Nat} {a : Act} {ρ : Env} (h : RepD n [] a ρ) : Rep n a ρ := ⟨h.size, h.defers, h.get⟩
theorem RepD.put {n : Nat} {ds : List Deferred} {a : Act} {ρ : Env} (h : RepD n ds a ρ) {d : Option Tmp} (hd : dOk n d = true) (v : Value) : RepD n ds (a.put d v) (putE ρ d v) := by
 have h' : Rep n { a with defers := [] } ρ := ⟨h.size, rfl, h.get⟩
 have := h'.put hd v
 refine ⟨?_, ?_, ?_⟩
 ·have := this.size; cases d <;> exact this
 ·cases d <;> exact h.defers
 ·have := this.get; cases d <;> exact this
def notDef (o : Oper) : Bool := match o.op with | .defer _ => false | _ => true
theorem notDef_spec {o : Oper} (h : notDef o = true) : ∀ c, o.op ≠ .defer c := by
 intro c e; simp [notDef, e] at h
def opsOkI (n : Nat) (l : List Oper) : Bool := l.all fun o => dOk n o.dst && notDef o
theorem opsOkI_ops {n : Nat} {l : List Oper} (h : opsOkI n l = true) : opsOk n l = true := by
 simp only [opsOkI, opsOk, List.all_eq_true, Bool.and_eq_true] at h ⊢
 exact fun o ho => (h o ho).1
theorem opsOkI_def {n : Nat} {l : List Oper} (h : opsOkI n l = true) : ∀ o ∈ l, ∀ c, o.op ≠ .defer c := by
 simp only [opsOkI, List.all_eq_true, Bool.and_eq_true] at h
 exact fun o ho => notDef_spec (h o ho).2
def lowI (n : Nat) (d : List Deferred) (F : FH) (Q : QX) : Exit → Act → World → Prop := fun e a w => ∃ ρ F' L, RepD n d a ρ ∧ F ≤ F' ∧ Holds F' L w ∧ Q e ρ F' L
theorem lowI_le {n : Nat} {d : List Deferred} {F F' : FH} {Q : QX} (le : F ≤ F') {e : Exit} {a : Act} {w : World} (h : lowI n d F' Q e a w) : lowI n d F Q e a w :=
 let ⟨ρ, F'', L, r, l, H, q⟩ := h; ⟨ρ, F'', L, r, le.trans l, H, q⟩
theorem wpListIn_mono {F : Fence} {n : Nat} {P : Program} {ops : Array Oper} {Q Q' : Exit → Act → World → Prop} (h : ∀ e a w, Q e a w → Q' e a w) :
  ∀ (l : List Oper) (a : Act) (w : World), wpListIn F n P ops Q l a w → wpListIn F n P ops Q' l a w
 | [], a, w, k => h _ _ _ k
 | o :: l, a, w, k => by
  unfold wpListIn at *
  have hout : LetsOut Q → LetsOut Q' := fun ⟨a0, w0, hq⟩ => ⟨a0, w0, h _ _ _ hq⟩
  split
  ·rename_i hw
   rw [if_pos hw] at k
   refine ⟨k.1, ?_⟩
   have k := k.2
   generalize (o.semAt F.round a.eval).run P w = r at *
   cases r with
   | ok m w' =>
    cases m <;> simp only [Oper.uponIn] at k ⊢ <;>
     first
      | exact wpListIn_mono h l _ _ k
      | exact ⟨k.1, CallsIn.mono k.2 (fun e w'' he => by cases e <;> first | exact wpListIn_mono h l _ _ he | exact h _ _ _ he | exact hout he)⟩
      | exact ⟨k.1, RowsIn.mono k.2 (fun _ _ he => wpListIn_mono h l _ _ he)⟩
      | exact ⟨k.1, RoundIn.mono k.2 (fun e w'' he => by cases e <;> first | exact wpListIn_mono h l _ _ he | exact h _ _ _ he | exact hout he)⟩
   | halt x w' => cases x <;> simp only [Oper.uponIn] at k ⊢ <;> first | exact h _ _ _ k | exact k.elim
  ·rename_i hw
   rw [if_neg hw] at k
   exact ⟨k.1, wpListIn_mono h l _ _ k.2⟩
def XIL (P : Program) (n : Nat) (r0 : Option Nat) (d0 : List Deferred) (ops : Array Oper) (l : List Oper) (Q : QX) (ρ : Env) (F : FH) (L : List HP) : Prop :=
 opsOkI n l = true → ∀ a w, RepD n d0 a ρ → Holds F L w → wpListIn (FR r0) 9 P ops (lowI n d0 F Q) l a w
section
variable {P : Program} {n : Nat} {r0 : Option Nat} {d0 : List Deferred} {ops : Array Oper} {l : List Oper} {Q : QX} {ρ : Env} {F : FH} {L : List HP}
theorem XIL.nil (h : Q .normal ρ F L) : XIL P n r0 d0 ops [] Q ρ F L := fun _ _ _ r H => ⟨ρ, F, L, r, FLe.refl F, H, h⟩
theorem XIL.weaken {L' : List HP} (s : Sub L L') (h : XIL P n r0 d0 ops l Q ρ F L') : XIL P n r0 d0 ops l Q ρ F L := fun ok a w r H => h ok a w r (s.holds H)
theorem wpIn_of_XOp {o : Oper} {K : Post} {a : Act} {w : World} {Q : Exit → Act → World → Prop} {N : Act → World → Prop}
  (h : XOp P o ρ F L K) (r : RepD n d0 a ρ) (H : Holds F L w) (hd : dOk n o.dst = true) (hn : ∀ c, o.op ≠ .defer c)
  (hN : ∀ v F' L' w', F ≤ F' → Holds F' L' w' → K v F' L' → RepD n d0 (a.put o.dst v) (putE ρ o.dst v) → N (a.put o.dst v) w') : o.wpIn (FR r0) 9 P a w N Q := by
 refine ⟨fun _ _ => trivial, ?_⟩
 rw [Oper.semAt_eq _ _ _ hn, r.eval]
 rcases h w H with ⟨v, w', F', L', h1, h2, h3, h4⟩ | ⟨w', F', L', h1, h2, h3, h4⟩ | ⟨f, args, w', h1, h2⟩
 ·rw [h1]; exact hN v F' L' w' h2 h3 h4 (r.put hd v)
 ·rw [h1]; exact hN undef F' L' w' h2 h3 h4 (r.put hd undef)
 ·rw [h1]
  refine ⟨fun _ => by decide, callsIn_FR (h2.mono fun e w'' ⟨v, F', L', he, hle, hH, hk⟩ => ?_)⟩
  subst he
  exact hN v F' L' w'' hle hH hk (r.put hd v)
theorem XIL.cons {d : Option Tmp} {op : Op} {ty : TypeId} {pos : String} {af : Array Edge}
  (h : XOp P ⟨d, op, ty, pos, af, none⟩ ρ F L fun v F' L' => XIL P n r0 d0 ops l Q (putE ρ d v) F' L') : XIL P n r0 d0 ops (⟨d, op, ty, pos, af, none⟩ :: l) Q ρ F L := by
 intro ok a w r H
 have hd := opsOkI_def ok
 simp only [opsOkI, List.all_cons, Bool.and_eq_true] at ok
 unfold wpListIn
 rw [if_pos (by simp [Region.wanted])]
 exact wpIn_of_XOp h r H ok.1.1 (hd _ (by simp)) fun v F' L' w' le H' k r' => wpListIn_mono (fun _ _ _ q => lowI_le le q) _ _ _ (k ok.2 _ _ r' H')
def Yld (P : Program) (l : Nat) (args : List Value) (F : FH) (L : List HP) (K : Post) : Prop :=
 ∀ w, Holds F L w → YieldAt Fence.wide 9 P l args.toArray w fun e w' => ∃ v F' L', e = .returned v ∧ F ≤ F' ∧ Holds F' L' w' ∧ K v F' L'
theorem Yld.mono {k : Nat} {args : List Value} {K K' : Post} (h : Yld P k args F L K) (hk : ∀ v F' L', F ≤ F' → K v F' L' → K' v F' L') : Yld P k args F L K' := by
 intro w H
 obtain ⟨fn, tmps, assign, body, hy, hr⟩ := h w H
 exact ⟨fn, tmps, assign, body, hy, hr.mono fun e w' ⟨v, F', L', a, b, c, d⟩ => ⟨v, F', L', a, b, c, hk _ _ _ b d⟩⟩
theorem Yld.weaken {k : Nat} {args : List Value} {K : Post} {L' : List HP} (s : Sub L L') (h : Yld P k args F L' K) : Yld P k args F L K := fun w H => h w (s.holds H)
theorem roundIn_FR {r : Option Nat} {m m' k : Nat} {f : FuncId} {tmps : Array Value} {assign body : Code} {w : World} {R : Ending → World → Prop} (h : RoundIn Fence.wide m P k f tmps assign body w R) : RoundIn (FR r) m' P k f tmps assign body w R :=
 ⟨trivial, fun c cs hr => h.2 c cs (fun _ hd => by cases hd)⟩
theorem XIL.yield {k : Nat} {d : Option Tmp} {c : Operand} {as : List Operand} {ts : Array TypeId} {ty : TypeId} {pos : String} {af : Array Edge} {args : List Value}
  (hc : evO ρ c = .func (.yield k) #[] #[]) (ha : as.map (evO ρ) = args)
  (h : Yld P k args F L fun v F' L' => XIL P n r0 d0 ops l Q (putE ρ d v) F' L') :
  XIL P n r0 d0 ops (⟨d, .call { callee := .value c, args := as.toArray, argTypes := ts }, ty, pos, af, none⟩ :: l) Q ρ F L := by
 intro ok a w r H
 simp only [opsOkI, List.all_cons, Bool.and_eq_true] at ok
 unfold wpListIn
 rw [if_pos (by simp [Region.wanted])]
 refine ⟨fun _ _ => trivial, ?_⟩
 rw [Oper.semAt_eq _ _ _ (by simp), r.eval]
 obtain ⟨fn, tmps, assign, body, hy, hr⟩ := h w H
 have e : (execOp (evO ρ) ⟨d, .call { callee := .value c, args := as.toArray, argTypes := ts }, ty, pos, af, none⟩).run P w = .ok (.round k fn tmps assign body) w := by
  subst ha
  simp [execOp, resolve, hc, Deferred.ofValue, invoke, hy, Sem.run_bind, Sem.run_pure, Result.andThen]
 rw [e]
 refine ⟨fun _ => by decide, (roundIn_FR hr).mono ?_⟩
 rintro e w'' ⟨v, F', L', rfl, le, H', hk⟩
 exact wpListIn_mono (fun _ _ _ q => lowI_le le q) _ _ _ (hk ok.2 _ _ (r.put ok.1.1 v) H')
end
def cOkI (n : Nat) : Code → Bool
 | .region _ ops _ => opsOkI n ops.toList
 | .seq a b => cOkI n a && cOkI n b
 | .cond _ a b => cOkI n a && cOkI n b
 | .block _ a => cOkI n a
 | .loop a => cOkI n a
 | .scope a => cOkI n a
 | .rangeFunc _ _ a b => cOkI n a && cOkI n b
 | _ => true
def XI (P : Program) (n : Nat) (r0 : Option Nat) (d0 : List Deferred) (c : Code) (Q : QX) (ρ : Env) (F : FH) (L : List HP) : Prop :=
 cOkI n c = true → ∀ a w, RepD n d0 a ρ → Holds F L w → c.wpIn (FR r0) 9 P (lowI n d0 F Q) a w
section
variable {P : Program} {n : Nat} {r0 : Option Nat} {d0 : List Deferred} {Q : QX} {ρ : Env} {F : FH} {L : List HP}
theorem X.ofI {c : Code} (hok : cOkI n c = true) (h : XI P n none [] c Q ρ F L) : X P n c Q ρ F L := by
 intro _ a w r H
 refine Code.wp_mono ?_ (wpIn_wide.1 (h hok a w r.toD H))
 rintro e a' w' ⟨ρ', F', L', r', le, H', q⟩
 exact ⟨ρ', F', L', r'.of, le, H', q⟩
theorem XI.freezeF {c : Code} (A B : List HP) (h : HP) (hL : L = A ++ h :: B) (H : ∀ F', F ≤ F' → Fresh F F' h → XI P n r0 d0 c Q ρ F' (A ++ B)) : XI P n r0 d0 c Q ρ F L := by
 subst hL
 intro ok a w r Hw
 obtain ⟨F', le, fz, H', _⟩ := Hw.lendF
 exact wpIn_mono (H F' le fz ok a w r H') (fun _ _ _ q => lowI_le le q)
theorem XI.block {id : Nat} {c : Code} (h : XI P n r0 d0 c (blockQ id Q) ρ F L) : XI P n r0 d0 (.block id c) Q ρ F L := by
 intro ok a w r H
 refine wpIn_block (wpIn_mono (h ok a w r H) ?_)
 rintro e a' w' ⟨ρ', F', L', r', le, H', q⟩
 cases e with
 | exit i =>
  simp only [Exit.inBlock, blockQ] at q ⊢
  split
  ·rename_i hi; rw [if_pos hi] at q; exact ⟨ρ', F', L', r', le, H', q⟩
  ·rename_i hi; rw [if_neg hi] at q; exact ⟨ρ', F', L', r', le, H', q⟩
 | _ => exact ⟨ρ', F', L', r', le, H', q⟩
theorem XI.ret (h : Q .ret ρ F L) : XI P n r0 d0 .ret Q ρ F L := fun _ _ _ r H => wpIn_ret ⟨ρ, F, L, r, FLe.refl F, H, h⟩
theorem XI.seq {x y : Code} (h : XI P n r0 d0 x (thenQ (fun ρ' F' L' => XI P n r0 d0 y Q ρ' F' L') Q) ρ F L) : XI P n r0 d0 (.seq x y) Q ρ F L := by
 intro ok a w r H
 simp only [cOkI, Bool.and_eq_true] at ok
 refine wpIn_seq (wpIn_mono (h ok.1 a w r H) ?_)
 rintro e a' w' ⟨ρ', F', L', r', le, H', q⟩
 cases e with
 | normal => exact wpIn_mono (q ok.2 a' w' r' H') (fun _ _ _ q => lowI_le le q)
 | _ => exact ⟨ρ', F', L', r', le, H', q⟩
theorem XI.cond {c : Operand} {x y : Code} {t : Bool} (hc : evO ρ c = .bool t) (ht : t = true → XI P n r0 d0 x Q ρ F L) (hf : t = false → XI P n r0 d0 y Q ρ F L) : XI P n r0 d0 (.cond c x y) Q ρ F L := by
 intro ok a w r H
 simp only [cOkI, Bool.and_eq_true] at ok
 exact wpIn_cond_split (t := t) (by rw [r.eval]; exact hc) (fun h => ht h ok.1 a w r H) (fun h => hf h ok.2 a w r H)
theorem XI.condT {c : Operand} {x y : Code} (hc : evO ρ c = .bool true) (ht : XI P n r0 d0 x Q ρ F L) : XI P n r0 d0 (.cond c x y) Q ρ F L := XI.cond hc (fun _ => ht) (fun h => by cases h)
theorem XI.condF {c : Operand} {x y : Code} (hc : evO ρ c = .bool false) (hf : XI P n r0 d0 y Q ρ F L) : XI P n r0 d0 (.cond c x y) Q ρ F L := XI.cond hc (fun h => by cases h) (fun _ => hf)
theorem XI.region {id : Nat} {l : List Oper} (h : XIL P n r0 d0 l.toArray l Q ρ F L) : XI P n r0 d0 (.region id l.toArray false) Q ρ F L :=
 fun ok a w r H => wpIn_region_lit (h (by simpa [cOkI] using ok) a w r H)
theorem XI.slots {c : Code} (l : List (Nat × Value)) (hs : sat ρ l) (h : ∀ r, XI P n r0 d0 c Q (envs l r) F L) : XI P n r0 d0 c Q ρ F L := by
 have := h ρ
 rwa [envs_of_sat hs] at this
end
theorem XI.draw {P : Program} {n id : Nat} {r0 : Option Nat} {d0 : List Deferred} {Q : QX} {ρ : Env} {F : FH} {L : List HP} {l : List Oper} (Bs L0 : List HP) (m : Nat) (uses cls : List (List Nat)) (phi : Nat → List Value → Value → Prop) (own : Nat → List Value → Value → List HP)
  (hmix : P.follows .mixedOrders = true) (hL : L = Bs ++ L0) (hm : Nat.ble m l.length = true) (hok : drawOk l m uses cls = true)
  (hstep : stepsP P l ρ F Bs phi own uses cls (l.take m) 0)
  (hend : ∀ vals : Nat → Value, (∀ i, i < m → phi i ((uses.getD i []).map vals) (vals i)) → XIL P n r0 d0 l.toArray (l.drop m) Q (canon vals (l.take m) 0 ρ) F (made own uses vals (List.range m) ++ (Bs ++ L0))) :
  XI P n r0 d0 (.region id l.toArray true) Q ρ F L := by
 subst hL
 have hm' : m ≤ l.length := Nat.le_of_ble_eq_true hm
 have ok := drawOk_spec hok
 intro cok a w r H
 have cokI : opsOkI n l = true := by simpa [cOkI] using cok
 have cok' := opsOkI_ops cokI
 have cokD := opsOkI_def cokI
 refine wpIn_region_any hmix ?_
 have H1 : Holds F (Bs ++ L0) { w with drawn := w.drawn + 1 } := H.drew
 generalize { w with drawn := w.drawn + 1 } = w0 at H1
 -- the tail, in its text's order
 have tailP : ∀ (k : Nat) (fuel : Nat) (listed : Array Bool) (a : Act) (w : World), fuel + k = l.length → m ≤ k → listed.size = l.length → (∀ i, i < k → listed.getD i true = true) → (∀ i, k ≤ i → i < l.length → listed.getD i true = false) →
   wpListIn (FR r0) 9 P l.toArray (lowI n d0 F Q) (l.drop k) a w → wpAnyIn (FR r0) 9 P .any l.toArray (lowI n d0 F Q) fuel listed a w := by
  intro k fuel
  induction fuel generalizing k with
  | zero =>
   intro listed a w hk hmk hsz hin hout h
   have hk' : k = l.length := by omega
   subst hk'
   rw [List.drop_length] at h
   refine ⟨?_, h⟩
   unfold Region.ready
   rw [List.filter_eq_nil_iff]
   intro i hi
   have hi' : i < l.length := by simpa using hi
   simp [hin i hi']
  | succ fuel ih =>
   intro listed a w hk hmk hsz hin hout h
   have hkl : k < l.length := by omega
   obtain ⟨o, ho⟩ : ∃ o, l[k]? = some o := ⟨l[k], List.getElem?_eq_getElem hkl⟩
   have hready : ∀ i, i ∈ Region.ready .any l.toArray listed → i = k := by
    intro i hi
    obtain ⟨hun, oi, hoi, hall⟩ := mem_ready.1 hi
    have hoi' : l[i]? = some oi := by simpa using hoi
    have hil : i < l.length := (List.getElem?_eq_some_iff.1 hoi').1
    have hki : k ≤ i := by
     rcases Nat.lt_or_ge i k with h' | h'
     ·have := hin i h'; rw [this] at hun; cases hun
     ·exact h'
    rcases Nat.lt_or_ge k i with h' | h'
    · -- k is ahead of i: so some edge of i's leads to k, which is not listed
     exfalso
     have hmem := ok.tail i (by omega) hil k h'
     have key : ∀ (t j : Nat), (∀ oj : Oper, l[j]? = some oj → ∀ e ∈ oj.after, Region.binds .any e = true → listed.getD e.on false = true) → j ≤ t → k ∈ clo l j → (j < l.length) → False := by
      intro t
      induction t with
      | zero =>
       intro j hj hjt hkj hjl
       obtain ⟨e, he, hb, hlt, _⟩ := mem_clo (List.getElem?_eq_getElem hjl) hkj
       omega
      | succ t iht =>
       intro j hj hjt hkj hjl
       obtain ⟨e, he, hb, hlt, hor⟩ := mem_clo (List.getElem?_eq_getElem hjl) hkj
       have hl := hj _ (List.getElem?_eq_getElem hjl) e (by simpa using he) hb
       rcases hor with rfl | hmem
       ·have := hout _ (Nat.le_refl _) hkl
        simp only [Array.getD_eq_getD_getElem?] at this hl
        rw [Array.getElem?_eq_getElem (by omega)] at this hl
        simp at this hl
        rw [this] at hl; cases hl
       ·have hon : e.on < k := by
         rcases Nat.lt_or_ge e.on k with h'' | h''
         ·exact h''
         ·have := hout e.on h'' (by omega)
          simp only [Array.getD_eq_getD_getElem?] at this hl
          rw [Array.getElem?_eq_getElem (by omega)] at this hl
          simp at this hl
          rw [this] at hl; cases hl
        -- below k everything in the closure is below k
        obtain ⟨e2, he2, hb2, hlt2, hor2⟩ := mem_clo (List.getElem?_eq_getElem (show e.on < l.length by omega)) hmem
        have low : ∀ (t j : Nat), j ≤ t → j < k → k ∈ clo l j → False := by
         intro t
         induction t with
         | zero => intro j hjt hjk hkj; obtain ⟨e, _, _, hlt, _⟩ := mem_clo (List.getElem?_eq_getElem (show j < l.length by omega)) hkj; omega
         | succ t iht2 =>
          intro j hjt hjk hkj
          obtain ⟨e, _, _, hlt, hor⟩ := mem_clo (List.getElem?_eq_getElem (show j < l.length by omega)) hkj
          rcases hor with rfl | hmem
          ·omega
          ·exact iht2 e.on (by omega) (by omega) hmem
        exact low _ _ (Nat.le_refl _) hon hmem
     refine key i i (fun oj hoj e he hb => ?_) (Nat.le_refl _) hmem hil
     rw [hoi'] at hoj; cases hoj
     exact hall e he hb
    ·omega
   have hkready : k ∈ Region.ready .any l.toArray listed := by
    refine mem_ready.2 ⟨hout k (Nat.le_refl _) hkl, o, by simpa using ho, fun e he hb => ?_⟩
    have hlt := ok.back k o ho e (by simpa using he) hb
    have := hin e.on hlt
    simp only [Array.getD_eq_getD_getElem?] at this ⊢
    rw [Array.getElem?_eq_getElem (by omega)] at this ⊢
    simpa using this
   refine ⟨fun h0 => (by rw [h0] at hkready; cases hkready), fun i hi => ?_⟩
   obtain rfl := hready i hi
   have hdrop : l.drop i = o :: l.drop (i + 1) := by
    rw [List.drop_eq_getElem_cons hkl]
    have := (List.getElem?_eq_some_iff.1 ho).2
    rw [this]
   rw [hdrop] at h
   unfold wpListIn at h
   unfold wpOpIn
   have hoA : l.toArray[i]? = some o := by simpa using ho
   rw [hoA]
   have nxt : ∀ a' w', wpListIn (FR r0) 9 P l.toArray (lowI n d0 F Q) (l.drop (i + 1)) a' w' → wpAnyIn (FR r0) 9 P .any l.toArray (lowI n d0 F Q) fuel (listed.setIfInBounds i true) a' w' := by
    intro a' w' h'
    refine ih (i + 1) (listed.setIfInBounds i true) a' w' (by omega) (by omega) (by simp [hsz]) ?_ ?_ h'
    ·intro j hj
     simp only [Array.getD_eq_getD_getElem?, Array.getElem?_setIfInBounds]
     by_cases hij : i = j
     ·subst hij; simp [hsz, hkl]
     ·simp only [hij, if_false]
      have := hin j (by omega)
      simpa [Array.getD_eq_getD_getElem?] using this
    ·intro j hj hjl
     simp only [Array.getD_eq_getD_getElem?, Array.getElem?_setIfInBounds]
     have hij : ¬ i = j := by omega
     simp only [hij, if_false]
     have := hout j (by omega) hjl
     simpa [Array.getD_eq_getD_getElem?] using this
   show (if Region.wanted o (yielded l.toArray a.tmps) = true then _ else _)
   split
   ·rename_i hw
    rw [if_pos hw] at h
    exact Oper.wpIn_mono nxt h
   ·rename_i hw
    rw [if_neg hw] at h
    exact ⟨h.1, nxt _ _ h.2⟩
 -- all of the head is done
 have finish : ∀ (fuel : Nat) (listed : Array Bool) (ex : List Nat) (vals : Nat → Value) (a : Act) (w : World), fuel + ex.length = l.length → listed.size = l.length → ex.Nodup → (∀ i, i ∈ ex ↔ i < m) →
   (∀ i, i < l.length → (listed.getD i true = true ↔ i ∈ ex)) → (∀ i ∈ ex, phi i ((uses.getD i []).map vals) (vals i)) →
   a.tmps.size = n → a.defers = d0 → (∀ i ∈ ex, ∀ o : Oper, l[i]? = some o → ∀ s, o.dst = some s → a.tmps.getD s undef = vals i) → (∀ s, (∀ i ∈ ex, ∀ o : Oper, l[i]? = some o → o.dst ≠ some s) → a.tmps.getD s undef = ρ s) →
   Holds F (made own uses vals ex ++ (Bs ++ L0)) w → wpAnyIn (FR r0) 9 P .any l.toArray (lowI n d0 F Q) fuel listed a w := by
  intro fuel listed ex vals a w hf hsz hnd hmem hlist hphi hsize hdef hs1 hs2 HH
  have hperm : ex.Perm (List.range m) := perm_of_mem hnd List.nodup_range (fun i => by rw [hmem]; simp)
  have hlen : ex.length = m := by rw [hperm.length_eq]; simp
  have hX := hend vals (fun i hi => hphi i ((hmem i).2 hi))
  have hone : ∀ (i j : Nat) (o q : Oper), (l.take m)[i]? = some o → (l.take m)[j]? = some q → ∀ d, o.dst = some d → q.dst = some d → i = j := by
   intro i j o q ho hq d hd hqd
   rw [List.getElem?_take] at ho hq
   split at ho
   ·split at hq
    ·rename_i h1 h2
     exact ok.one i j o q h1 h2 ho hq d hd hqd
    ·cases hq
   ·cases ho
  have rep : RepD n d0 a (canon vals (l.take m) 0 ρ) := by
   refine ⟨hsize, hdef, fun s => ?_⟩
   obtain ⟨c1, c2⟩ := canon_get vals (l.take m) 0 ρ s hone
   by_cases hw : ∃ i o, i < m ∧ l[i]? = some o ∧ o.dst = some s
   ·obtain ⟨i, o, hi, ho, hd⟩ := hw
    rw [hs1 i ((hmem i).2 hi) o ho s hd, c1 i o (by rw [List.getElem?_take, if_pos hi]; exact ho) hd, Nat.zero_add]
   ·rw [hs2 s (fun i hi o ho hd => hw ⟨i, o, (hmem i).1 hi, ho, hd⟩), c2 (fun i o ho hd => by
     rw [List.getElem?_take] at ho
     split at ho
     ·rename_i hi; exact hw ⟨i, o, hi, ho, hd⟩
     ·cases ho)]
  have hsub : Sub (made own uses vals ex ++ (Bs ++ L0)) (made own uses vals (List.range m) ++ (Bs ++ L0)) :=
   Sub.append (Sub.perm (hperm.flatMap_right _)) (Sub.refl _)
  have hwp := hX (by
   simp only [opsOkI, List.all_eq_true] at cokI ⊢
   exact fun o ho => cokI o (List.mem_of_mem_drop ho)) a w rep (hsub.holds HH)
  exact tailP m fuel listed a w (by omega) (Nat.le_refl _) hsz (fun i hi => (hlist i (by omega)).2 ((hmem i).2 hi)) (fun i hi hil => by
   cases hb : listed.getD i true with
   | false => rfl
   | true => have := (hmem i).1 ((hlist i hil).1 hb); omega) hwp
 -- the head, in any order
 have headP : ∀ (fuel : Nat) (listed : Array Bool) (ex : List Nat) (vals : Nat → Value) (a : Act) (w : World), fuel + ex.length = l.length → listed.size = l.length → ex.Nodup → (∀ i, i ∈ ex → i < m) →
   (∀ i, i < l.length → (listed.getD i true = true ↔ i ∈ ex)) → (∀ i ∈ ex, ∀ j ∈ clo l i, j ∈ ex) → (∀ i ∈ ex, phi i ((uses.getD i []).map vals) (vals i)) →
   a.tmps.size = n → a.defers = d0 → (∀ i ∈ ex, ∀ o : Oper, l[i]? = some o → ∀ s, o.dst = some s → a.tmps.getD s undef = vals i) → (∀ s, (∀ i ∈ ex, ∀ o : Oper, l[i]? = some o → o.dst ≠ some s) → a.tmps.getD s undef = ρ s) →
   Holds F (made own uses vals ex ++ (Bs ++ L0)) w → wpAnyIn (FR r0) 9 P .any l.toArray (lowI n d0 F Q) fuel listed a w := by
  intro fuel
  induction fuel with
  | zero =>
   intro listed ex vals a w hf hsz hnd hlt hlist hdown hphi hsize hdef hs1 hs2 HH
   have hall : ∀ i, i ∈ ex ↔ i < m := by
    intro i
    refine ⟨hlt i, fun hi => ?_⟩
    rcases Classical.em (i ∈ ex) with h' | h'
    ·exact h'
    ·have := nodup_lt m (i :: ex) (List.nodup_cons.2 ⟨h', hnd⟩) (fun k hk => by
      rcases List.mem_cons.1 hk with rfl | hk
      ·exact hi
      ·exact hlt k hk)
     simp at this
     omega
   exact finish 0 listed ex vals a w hf hsz hnd hall hlist hphi hsize hdef hs1 hs2 HH
  | succ fuel ih =>
   intro listed ex vals a w hf hsz hnd hlt hlist hdown hphi hsize hdef hs1 hs2 HH
   by_cases hcov : ∀ i, i < m → i ∈ ex
   ·exact finish (fuel + 1) listed ex vals a w hf hsz hnd (fun i => ⟨hlt i, hcov i⟩) hlist hphi hsize hdef hs1 hs2 HH
   -- an operation that is ready: what stands ahead of it is done
   have ahead : ∀ i ∈ Region.ready .any l.toArray listed, i < l.length ∧ i ∉ ex ∧ ∀ j ∈ clo l i, j ∈ ex := by
    intro i hi
    obtain ⟨hun, o, ho, hall⟩ := mem_ready.1 hi
    have ho' : l[i]? = some o := by simpa using ho
    have hil : i < l.length := (List.getElem?_eq_some_iff.1 ho').1
    refine ⟨hil, fun hm => ?_, fun j hj => ?_⟩
    ·rw [(hlist i hil).2 hm] at hun; cases hun
    ·obtain ⟨e, he, hb, hlt', hor⟩ := mem_clo ho' hj
     have hl := hall e (by simpa using he) hb
     have hex : e.on ∈ ex := by
      refine (hlist e.on (by omega)).1 ?_
      simp only [Array.getD_eq_getD_getElem?] at hl ⊢
      rw [Array.getElem?_eq_getElem (by omega)] at hl ⊢
      simpa using hl
     rcases hor with rfl | hj'
     ·exact hex
     ·exact hdown _ hex _ hj'
   have small : ∀ i ∈ Region.ready .any l.toArray listed, i < m := by
    intro i hi
    obtain ⟨hil, _, hc⟩ := ahead i hi
    rcases Nat.lt_or_ge i m with h' | h'
    ·exact h'
    ·exact absurd (fun j hj => hc j (ok.tail i h' hil j (by omega))) hcov
   refine ⟨fun h0 => ?_, fun i hi => ?_⟩
   · -- not all is done, so something is ready: the least that is not listed
    exfalso
    apply hcov
    intro i
    induction i using Nat.strongRecOn with
    | _ i ihs =>
     intro him
     rcases Classical.em (i ∈ ex) with h' | h'
     ·exact h'
     ·exfalso
      have hil : i < l.length := by omega
      have : i ∈ Region.ready .any l.toArray listed := by
       refine mem_ready.2 ⟨?_, l[i], by simp [hil], fun e he hb => ?_⟩
       ·cases hb : listed.getD i true with
        | false => rfl
        | true => exact absurd ((hlist i hil).1 hb) h'
       ·have hlt' := ok.back i l[i] (List.getElem?_eq_getElem hil) e (by simpa using he) hb
        have := (hlist e.on (by omega)).2 (ihs e.on hlt' (by omega))
        simp only [Array.getD_eq_getD_getElem?] at this ⊢
        rw [Array.getElem?_eq_getElem (by omega)] at this ⊢
        simpa using this
      rw [h0] at this
      cases this
   ·obtain ⟨hil, hnex, hclo⟩ := ahead i hi
    have him := small i hi
    obtain ⟨o, ho⟩ : ∃ o, l[i]? = some o := ⟨l[i], List.getElem?_eq_getElem hil⟩
    have hG := stepsP_get (l.take m) 0 hstep i o (by rw [List.getElem?_take, if_pos him]; exact ho) vals (made own uses vals ex ++ L0) (fun j hj => hphi j (hclo j (ok.cls i hil j (by simpa using hj))))
    rw [Nat.zero_add] at hG
    have H2 : Holds F (Bs ++ (made own uses vals ex ++ L0)) w := by
     refine Sub.holds (Sub.perm ?_) HH
     rw [← List.append_assoc, ← List.append_assoc]
     exact List.perm_append_comm.append_right L0
    have hone : ∀ (k j : Nat) (o q : Oper), (l.take i)[k]? = some o → (l.take i)[j]? = some q → ∀ d, o.dst = some d → q.dst = some d → k = j := by
     intro k j o q ho hq d hd hqd
     rw [List.getElem?_take] at ho hq
     split at ho
     ·split at hq
      ·rename_i h1 h2
       exact ok.one k j o q (by omega) (by omega) ho hq d hd hqd
      ·cases hq
     ·cases ho
    have slot : ∀ s ∈ o.looksAt l.toArray, a.tmps.getD s undef = canon vals (l.take i) 0 ρ s := by
     intro s hs
     obtain ⟨c1, c2⟩ := canon_get vals (l.take i) 0 ρ s hone
     by_cases hw : ∃ j q, j < m ∧ l[j]? = some q ∧ q.dst = some s
     ·obtain ⟨j, q, hj, hq, hd⟩ := hw
      obtain ⟨hjc, hji⟩ := ok.read i j o q him hj ho hq s hs hd
      rw [hs1 j (hclo j hjc) q hq s hd, c1 j q (by rw [List.getElem?_take, if_pos hji]; exact hq) hd, Nat.zero_add]
     ·rw [hs2 s (fun j hj q hq hd => hw ⟨j, q, hlt j hj, hq, hd⟩), c2 (fun j q hq hd => by
       rw [List.getElem?_take] at hq
       split at hq
       ·rename_i hj; exact hw ⟨j, q, by omega, hq, hd⟩
       ·cases hq)]
    have hev : execOp a.eval o = execOp (evO (canon vals (l.take i) 0 ρ)) o := by
     refine execOp_congr o (ok.sel i o ho) fun x hx => ?_
     cases x with
     | tmp t => exact slot t (List.mem_append_left _ (List.mem_filterMap.2 ⟨.tmp t, by simpa using hx, rfl⟩))
     | _ => rfl
    have hus : ∀ j ∈ uses.getD i [], j ≠ i := fun j hj e => hnex (hclo i (e ▸ ok.uses i hil j hj))
    have husx : ∀ k ∈ ex, i ∉ uses.getD k [] := fun k hk hm => hnex (hdown k hk i (ok.uses k (by have := hlt k hk; omega) i hm))
    have hdo : dOk n o.dst = true := by
     simp only [opsOk, List.all_eq_true] at cok'
     exact cok' o (List.mem_of_getElem? ho)
    have next : ∀ v w', Holds F (own i ((uses.getD i []).map vals) v ++ (Bs ++ (made own uses vals ex ++ L0))) w' → phi i ((uses.getD i []).map vals) v → wpAnyIn (FR r0) 9 P .any l.toArray (lowI n d0 F Q) fuel (listed.setIfInBounds i true) (a.put o.dst v) w' := by
     intro v w' H3 hp
     have hi' : (uses.getD i []).map (fun j => if j = i then v else vals j) = (uses.getD i []).map vals := map_upd (fun h => hus i h rfl)
     have hx' : ∀ k ∈ ex, (uses.getD k []).map (fun j => if j = i then v else vals j) = (uses.getD k []).map vals := fun k hk => map_upd (husx k hk)
     have hki : ∀ k ∈ ex, k ≠ i := fun k hk e => hnex (e ▸ hk)
     have hmade : made own uses (fun j => if j = i then v else vals j) (i :: ex) = own i ((uses.getD i []).map vals) v ++ made own uses vals ex := by
      simp only [made, List.flatMap_cons, hi', if_true]
      congr 1
      rw [List.flatMap_def, List.flatMap_def]
      congr 1
      apply List.map_congr_left
      intro k hk
      rw [hx' k hk, if_neg (hki k hk)]
     refine ih (listed.setIfInBounds i true) (i :: ex) (fun j => if j = i then v else vals j) _ w' (by simp; omega) (by simp [hsz]) (List.nodup_cons.2 ⟨hnex, hnd⟩) ?_ ?_ ?_ ?_ ?_ ?_ ?_ ?_ ?_
     ·intro k hk; rcases List.mem_cons.1 hk with rfl | hk
      ·exact him
      ·exact hlt k hk
     ·intro k hk
      simp only [Array.getD_eq_getD_getElem?, Array.getElem?_setIfInBounds, List.mem_cons]
      by_cases hik : i = k
      ·subst hik; simp [hsz, hil]
      ·have := hlist k hk
       simp only [Array.getD_eq_getD_getElem?] at this
       simp only [hik, if_false, this]
       constructor
       ·exact fun h => .inr h
       ·rintro (rfl | h)
        ·exact absurd rfl hik
        ·exact h
     ·intro k hk j hj
      rcases List.mem_cons.1 hk with rfl | hk
      ·exact List.mem_cons_of_mem _ (hclo j hj)
      ·exact List.mem_cons_of_mem _ (hdown k hk j hj)
     ·intro k hk
      rcases List.mem_cons.1 hk with rfl | hk
      ·rw [hi', if_pos rfl]; exact hp
      ·rw [hx' k hk, if_neg (hki k hk)]; exact hphi k hk
     ·cases o.dst <;> simp [Act.put, hsize]
     ·cases o.dst <;> simp [Act.put, hdef]
     ·intro k hk q hq s hd
      rcases List.mem_cons.1 hk with rfl | hk
      ·rw [ho] at hq; cases hq
       rw [if_pos rfl, hd]
       have hsn : s < n := by rw [hd] at hdo; exact Nat.le_of_ble_eq_true hdo
       simp [Act.put, Array.getD_eq_getD_getElem?, Array.getElem?_setIfInBounds, hsize, hsn]
      ·rw [if_neg (hki k hk)]
       have hne : o.dst ≠ some s := fun e => hki k hk (ok.one k i q o (hlt k hk) him hq ho s hd e)
       have := hs1 k hk q hq s hd
       cases hod : o.dst with
       | none => simpa [Act.put] using this
       | some d =>
        have hds : d ≠ s := fun e => hne (by rw [hod, e])
        simp only [Act.put, Array.getD_eq_getD_getElem?, Array.getElem?_setIfInBounds_ne hds] at this ⊢
        exact this
     ·intro s hno
      have hne : o.dst ≠ some s := hno i List.mem_cons_self o ho
      have := hs2 s (fun k hk q hq => hno k (List.mem_cons_of_mem _ hk) q hq)
      cases hod : o.dst with
      | none => simpa [Act.put] using this
      | some d =>
       have hds : d ≠ s := fun e => hne (by rw [hod, e])
       simp only [Act.put, Array.getD_eq_getD_getElem?, Array.getElem?_setIfInBounds_ne hds] at this ⊢
       exact this
     ·rw [hmade]
      refine Sub.holds (Sub.perm ?_) H3
      rw [List.append_assoc]
      refine List.Perm.append_left _ ?_
      rw [← List.append_assoc, ← List.append_assoc]
      exact List.perm_append_comm.append_right L0
    have opwp : XOp P o (canon vals (l.take i) 0 ρ) F (Bs ++ (made own uses vals ex ++ L0)) (fun v F' L' => F = F' ∧ phi i ((uses.getD i []).map vals) v ∧ L' = own i ((uses.getD i []).map vals) v ++ (Bs ++ (made own uses vals ex ++ L0))) →
      o.wpIn (FR r0) 9 P a w (wpAnyIn (FR r0) 9 P .any l.toArray (lowI n d0 F Q) fuel (listed.setIfInBounds i true)) (lowI n d0 F Q) := by
     intro hop
     refine ⟨fun _ _ => trivial, ?_⟩
     rw [Oper.semAt_eq _ _ _ (cokD o (List.mem_of_getElem? ho)), hev]
     rcases hop w H2 with ⟨v, w', F', L', h1, _, h3, rfl, hp, rfl⟩ | ⟨w', F', L', h1, _, h3, rfl, hp, rfl⟩ | ⟨f, args, w', h1, h2⟩
     ·rw [h1]; exact next v w' h3 hp
     ·rw [h1]; exact next undef w' h3 hp
     ·rw [h1]
      refine ⟨fun _ => by decide, callsIn_FR (h2.mono fun e w'' ⟨v, F', L', he, _, hH, hk⟩ => ?_)⟩
      obtain ⟨rfl, hp, rfl⟩ := hk
      subst he
      exact next v w'' hH hp
    unfold wpOpIn
    have hoA : l.toArray[i]? = some o := by simpa using ho
    rw [hoA]
    show (if Region.wanted o (yielded l.toArray a.tmps) = true then _ else _)
    unfold XG at hG
    cases hg : o.guard with
    | none =>
     rw [hg] at hG
     rw [if_pos (by simp [Region.wanted, hg])]
     exact opwp hG
    | some gw =>
     obtain ⟨j, want⟩ := gw
     rw [hg] at hG
     obtain ⟨t, ht, ⟨b, hv, hif⟩ | ⟨hv, hif⟩⟩ := hG
     ·have hy : yielded l.toArray a.tmps j = some b := by
       unfold yielded
       rw [ht]
       have hts := slot t (List.mem_append_right _ (by simp only [hg]; simpa using ht))
       rw [hv, Array.getD_eq_getD_getElem?] at hts
       cases hx : a.tmps[t]? with
       | none => rw [hx] at hts; simp [undef] at hts
       | some x => rw [hx] at hts; simp at hts; subst hts; simp [hx]
      by_cases hb : b = want
      ·rw [if_pos hb] at hif
       rw [if_pos (by simp [Region.wanted, hg, hy, hb])]
       exact opwp hif
      ·rw [if_neg hb] at hif
       rw [if_neg (by simp [Region.wanted, hg, hy, hb])]
       obtain ⟨_, hp, hL'⟩ := hif
       have := next undef w (by rw [← hL']; exact H2) hp
       exact ⟨fun _ _ => trivial, this⟩
     ·have hy : yielded l.toArray a.tmps j = none := by
       unfold yielded
       rw [ht]
       have hts := slot t (List.mem_append_right _ (by simp only [hg]; simpa using ht))
       rw [hv, Array.getD_eq_getD_getElem?] at hts
       cases hx : a.tmps[t]? with
       | none => simp [hx]
       | some x => rw [hx] at hts; simp at hts; subst hts; simp [hx, undef]
      rw [if_neg (by simp [Region.wanted, hg, hy])]
      obtain ⟨_, hp, hL'⟩ := hif
      have := next undef w (by rw [← hL']; exact H2) hp
      exact ⟨fun _ _ => trivial, this⟩
 refine headP l.toArray.size (Array.replicate l.toArray.size false) [] (fun _ => undef) a w0 (by simp) (by simp) List.nodup_nil (by simp) ?_ (by simp) (by simp) r.size r.defers (by simp) (fun s _ => r.get s) H1
 intro i hi
 simp only [Array.getD_eq_getD_getElem?, Array.getElem?_replicate]
 simp [hi]
def setP : List (Tmp × Value) → Env → Env
 | [], ρ => ρ
 | p :: l, ρ => setP l (upd ρ p.1 p.2)
theorem setP_rep {n : Nat} : ∀ (l : List (Tmp × Value)) (t : Array Value) (ρ : Env), t.size = n → (∀ i, t.getD i undef = ρ i) → (∀ p ∈ l, p.1 < n) →
  ((l.foldl (fun t (p : Tmp × Value) => t.setIfInBounds p.1 p.2) t).size = n ∧ ∀ i, (l.foldl (fun t (p : Tmp × Value) => t.setIfInBounds p.1 p.2) t).getD i undef = setP l ρ i)
 | [], t, ρ, h1, h2, _ => ⟨h1, h2⟩
 | p :: l, t, ρ, h1, h2, h3 => by
  rw [List.foldl_cons]
  refine setP_rep l _ _ (by simp [h1]) (fun i => ?_) (fun q hq => h3 q (List.mem_cons_of_mem _ hq))
  have hp := h3 p (by simp)
  have r : Rep n { tmps := t, defers := [] } ρ := ⟨h1, rfl, h2⟩
  have := (r.put (d := some p.1) (by simpa [dOk, Nat.blt] using Nat.ble_eq_true_of_le hp) p.2).get i
  simpa [Act.put, putE] using this
def roundQ (l : Nat) (R : Loop) (K : Post) : QX := fun e _ F L => e = .normal ∧ ∃ L0, Sub L (objH l (.loop { R with state := .busy }) :: L0) ∧ K (.bool true) F (objH l (.loop { R with state := .ready, pending := none }) :: L0)
theorem Holds.turn {F : FH} {L : List HP} {l : Nat} {o o' : Obj} {w : World} (H : Holds F (objH l o :: L) w) : Holds F (objH l o' :: L) (w.putObj l o') := by
 have hg := Holds.get (A := []) H
 have hlt := (Array.getElem?_eq_some_iff.1 hg).1
 exact Holds.put (A := []) H rfl rfl rfl (World.putObj_heap_same hlt) (fun k hk => World.putObj_heap_other hk)
theorem Yld.of_round {P : Program} {n l : Nat} {R : Loop} {ps : Array Tmp} {assign body : Code} {args : List Value} {F : FH} {L : List HP} {ρ : Env} {K : Post}
  (hr : R.state = .ready) (hp0 : R.pending = none) (hps : R.params = ps) (ha : R.assign = assign) (hb : R.body = body) (hsz : R.tmps.size = n) (hget : ∀ i, R.tmps.getD i undef = ρ i)
  (hlen : args.length = ps.size) (hlt0 : (ps.toList.all fun p => Nat.blt p n) = true) (oka : cOkI n assign = true) (okb : cOkI n body = true)
  (h : XI P n (some l) [] assign (thenQ (fun ρ1 F1 L1 => ∃ L2, Sub L1 (objH l (.loop R) :: L2) ∧ XI P n (some l) [] body (roundQ l R K) ρ1 F1 (objH l (.loop { R with state := .busy }) :: L2)) (fun _ _ _ _ => False)) (setP (ps.toList.zip args) ρ) F (objH l (.loop R) :: L)) :
  Yld P l args F (objH l (.loop R) :: L) K := by
 have hlt : ∀ p ∈ ps.toList, p < n := fun p hp => Nat.le_of_ble_eq_true (List.all_eq_true.1 hlt0 p hp)
 intro w H
 have hl := Holds.get (A := []) H
 have hy := run_yield (P := P) (args := args.toArray) hl (by rw [hps]; simp [hlen])
 refine ⟨_, _, _, _, hy, roundIn_of_wpIn trivial ?_⟩
 have hfold : (R.params.zip args.toArray).foldl (fun tmps (x : Tmp × Value) => tmps.setIfInBounds x.1 x.2) R.tmps = (ps.toList.zip args).foldl (fun t (p : Tmp × Value) => t.setIfInBounds p.1 p.2) R.tmps := by
  rw [hps, ← Array.foldl_toList, Array.toList_zip]
 have hset := setP_rep (n := n) (ps.toList.zip args) R.tmps ρ hsz hget (fun p hp => hlt p.1 (List.of_mem_zip hp).1)
 have hrep : RepD n [] { tmps := (R.params.zip args.toArray).foldl (fun tmps (x : Tmp × Value) => tmps.setIfInBounds x.1 x.2) R.tmps, defers := [] } (setP (ps.toList.zip args) ρ) := by
  rw [hfold]; exact ⟨hset.1, rfl, hset.2⟩
 rw [ha, hb]
 refine wpIn_mono (F := Fence.wide.inRound l) (n := 9) (show Code.wpIn (Fence.wide.inRound l) 9 P assign _ _ w from h oka _ w hrep H) ?_
 rintro e a1 w1 ⟨ρ1, F1, L1, r1, le1, H1, q⟩
 cases e with
 | normal =>
  obtain ⟨L2, s2, q2⟩ := q
  have H2 := s2.holds H1
  have hl2 := Holds.get (A := []) H2
  refine ⟨_, run_beginRound hl2 hr, ?_⟩
  refine wpIn_mono (F := Fence.wide.inRound l) (n := 9) (show Code.wpIn (Fence.wide.inRound l) 9 P body _ _ _ from q2 okb a1 _ r1 H2.turn) ?_
  rintro e a3 w3 ⟨ρ3, F3, L3, r3, le3, H3, he, L4, s4, k4⟩
  subst he
  have H4 := s4.holds H3
  have hl4 := Holds.get (A := []) H4
  refine ⟨_, _, run_endRound none hl4, _, F3, _, rfl, le1.trans le3, H4.turn, ?_⟩
  exact k4
 | _ => exact q.elim
def markD (D : Nat) : List Deferred := [{ target := .collected D, args := #[] }]
def fin (P : Program) (F0 : FH) (Q : Post) : Ending → World → Prop := fun e w' => ∃ v F' L', e = .returned v ∧ F0 ≤ F' ∧ Holds F' L' w' ∧ Q v F' L'
def XF (P : Program) (fn : Func) (F0 : FH) (c : Code) (Q : Post) (ρ : Env) (F : FH) (L : List HP) : Prop :=
 cOkI fn.ntmps c = true → ∀ a w, Rep fn.ntmps a ρ → Holds F L w → c.wpIn Fence.wide 9 P (bodyPostM Fence.wide 9 P fn (fin P F0 Q)) a w
theorem Does.of_XF {P : Program} {f : FuncId} {fn : Func} {c : Code} {args : List Value} {F : FH} {L : List HP} {Q : Post}
  (hf : P.funcs[f]? = some fn) (hb : fn.body = some c) (hd : cOkI fn.ntmps c = true) (hn : Nat.ble args.length fn.ntmps = true)
  (h : XF P fn F c Q (env0 args) F L) : Does P f args F L Q := by
 intro w H
 refine callsIn_wide.1 (callsIn_of_wp_marks (n := 9) hf hb trivial (h hd _ w ⟨?_, rfl, fun i => ?_⟩ H))
 ·have := Nat.le_of_ble_eq_true hn
  simp
  omega
 ·simp only [env0, Array.getD_eq_getD_getElem?, List.getD_eq_getElem?_getD, Array.getElem?_append, List.size_toArray, List.getElem?_toArray, Array.getElem?_replicate]
  split
  ·rfl
  ·rename_i hi
   rw [List.getElem?_eq_none (Nat.le_of_not_lt hi)]
   split <;> rfl
theorem cOkI_cOk {n : Nat} : ∀ {c : Code}, cOkI n c = true → cOk n c = true
 | .region _ ops _, h => opsOkI_ops (l := ops.toList) h
 | .seq a b, h => by simp only [cOkI, cOk, Bool.and_eq_true] at h ⊢; exact ⟨cOkI_cOk h.1, cOkI_cOk h.2⟩
 | .cond _ a b, h => by simp only [cOkI, cOk, Bool.and_eq_true] at h ⊢; exact ⟨cOkI_cOk h.1, cOkI_cOk h.2⟩
 | .block _ a, h => by simp only [cOkI, cOk] at h ⊢; exact cOkI_cOk h
 | .loop a, h => by simp only [cOkI, cOk] at h ⊢; exact cOkI_cOk h
 | .scope a, h => by simp only [cOkI, cOk] at h ⊢; exact cOkI_cOk h
 | .rangeFunc _ _ a b, h => by simp only [cOkI, cOk, Bool.and_eq_true] at h ⊢; exact ⟨cOkI_cOk h.1, cOkI_cOk h.2⟩
 | .skip, _ => rfl
 | .exit _, _ => rfl
 | .ret, _ => rfl
 | .label _, _ => rfl
 | .goto _, _ => rfl
 | .refuse _, _ => rfl
def finD (P : Program) (fn : Func) (F0 : FH) (D : Nat) (Q : Post) : QX := fun e ρ F L => (e = .ret ∨ e = .normal) ∧ ∃ vs L1 L' F2, ResAll P F (objH D (.deferred none) :: L1) ρ fn.results.toList vs ∧ F0 ≤ F2 ∧ F2 ≤ F ∧ Sub L (objH D (.deferred (some [])) :: L1) ∧ Sub L1 L' ∧ Q (oneOr vs) F2 L'
theorem retEndD {P : Program} {fn : Func} {F0 F2 : FH} {D : Nat} {Q : Post} {ρ : Env} {F : FH} {L L' : List HP} (vs : List Value) (v : Value) (hr : ∀ F L, ResAll P F L ρ fn.results.toList vs) (hv : oneOr vs = v) (l1 : F0 ≤ F2) (l2 : F2 ≤ F) (s : Sub L (objH D (.deferred (some [])) :: L')) (h : Q v F2 L') : finD P fn F0 D Q .ret ρ F L :=
 ⟨.inl rfl, vs, L', L', F2, hr _ _, l1, l2, s, Sub.refl _, hv ▸ h⟩
theorem retEndC {P : Program} {fn : Func} {F0 F2 : FH} {D : Nat} {Q : Post} {ρ : Env} {F : FH} {L L' : List HP} (L1 : List HP) (vs : List Value) (v : Value) (hr : ResAll P F (objH D (.deferred none) :: L1) ρ fn.results.toList vs) (hv : oneOr vs = v) (l1 : F0 ≤ F2) (l2 : F2 ≤ F) (s : Sub L (objH D (.deferred (some [])) :: L1)) (s2 : Sub L1 L') (h : Q v F2 L') : finD P fn F0 D Q .ret ρ F L :=
 ⟨.inl rfl, vs, L1, L', F2, hr, l1, l2, s, s2, hv ▸ h⟩
section
variable {P : Program} {fn : Func} {Q : Post} {ρ : Env} {F F0 : FH} {L : List HP}
theorem XF.seq {x y : Code} (h : X P fn.ntmps x (thenQ (fun ρ' F' L' => XF P fn F0 y Q ρ' F' L') (fun _ _ _ _ => False)) ρ F L) : XF P fn F0 (.seq x y) Q ρ F L := by
 intro ok a w r H
 simp only [cOkI, Bool.and_eq_true] at ok
 refine wpIn_seq (wpIn_mono (wpIn_wide.2 (h (cOkI_cOk ok.1) a w r H)) ?_)
 rintro e a' w' ⟨ρ', F', L', r', le, H', q⟩
 cases e with
 | normal => exact q ok.2 a' w' r' H'
 | _ => exact q.elim
def XR (P : Program) (fn : Func) (F0 : FH) (c rest : Code) (Q : Post) (ρ : Env) (F : FH) (L : List HP) : Prop :=
 cOkI fn.ntmps c = true → cOkI fn.ntmps rest = true → ∀ a w, Rep fn.ntmps a ρ → Holds F L w →
  c.wpIn Fence.wide 9 P (Exit.then (rest.wpIn Fence.wide 9 P (bodyPostM Fence.wide 9 P fn (fin P F0 Q))) (bodyPostM Fence.wide 9 P fn (fin P F0 Q))) a w
theorem XF.ofR {c rest : Code} (h : XR P fn F0 c rest Q ρ F L) : XF P fn F0 (.seq c rest) Q ρ F L := by
 intro ok a w r H
 simp only [cOkI, Bool.and_eq_true] at ok
 exact wpIn_seq (h ok.1 ok.2 a w r H)
theorem XR.seq {x y rest : Code} (h : X P fn.ntmps x (thenQ (fun ρ' F' L' => XR P fn F0 y rest Q ρ' F' L') (fun _ _ _ _ => False)) ρ F L) : XR P fn F0 (.seq x y) rest Q ρ F L := by
 intro ok okr a w r H
 simp only [cOkI, Bool.and_eq_true] at ok
 refine wpIn_seq (wpIn_mono (wpIn_wide.2 (h (cOkI_cOk ok.1) a w r H)) ?_)
 rintro e a' w' ⟨ρ', F', L', r', le, H', q⟩
 cases e with
 | normal => exact q ok.2 okr a' w' r' H'
 | _ => exact q.elim
theorem XR.rangeB {id : Nat} {g : Operand} {ps : Array Tmp} {assign body rest : Code} {gf : Nat} {lb : List Value}
  (hg : evO ρ g = .func (.func gf) #[] lb.toArray) (eg : ∀ args w, (callFunc gf args).run P w = .ok (.enter gf args) w)
  (h : ∀ (l D : Nat) (R : Loop), R.state = .ready → R.pending = none → R.params = ps → R.assign = assign → R.body = body → R.tmps.size = fn.ntmps → (∀ i, R.tmps.getD i undef = ρ i) →
   Does P gf (.func (.yield l) #[] #[] :: lb) F (objH l (.loop R) :: objH D (.deferred (some [])) :: L) (fun _ F' L' => ∃ (R' : Loop) (L2 : List HP), R'.state ≠ .busy ∧ R'.pending = none ∧
    Sub L' (objH l (.loop R') :: objH D (.deferred (some [])) :: L2) ∧ XI P fn.ntmps none (markD D) rest (finD P fn F0 D Q) ρ F' (objH D (.deferred (some [])) :: L2))) :
  XR P fn F0 (.block id (.rangeFunc g ps assign body)) rest Q ρ F L := by
 intro ok1 okr a w r H
 have ok : cOkI fn.ntmps (.block id (.rangeFunc g ps assign body)) = true ∧ cOkI fn.ntmps rest = true := ⟨ok1, okr⟩
 refine wpIn_block (wpIn_rangeFunc (fun fid _ => ?_))
 have H1 := H.new (.deferred (some []))
 have H2 := H1.new (.loop { state := .ready, pending := none, fn := fid, tmps := a.tmps, params := ps, assign, body, defers := w.heap.size })
 rw [World.size_alloc] at H2
 have he := run_enterLoop_outer (P := P) (w := w) fid a.tmps ps assign body
 generalize (w.alloc (.deferred (some []))).alloc (.loop { state := .ready, pending := none, fn := fid, tmps := a.tmps, params := ps, assign, body, defers := w.heap.size }) = W1 at he H2
 have hd := h (w.heap.size + 1) w.heap.size { state := .ready, pending := none, fn := fid, tmps := a.tmps, params := ps, assign, body, defers := w.heap.size } rfl rfl rfl rfl rfl r.size r.get W1 H2
 refine ⟨w.heap.size + 1, markD w.heap.size, W1, { target := .fn (.func gf) lb.toArray, args := #[.func (.yield (w.heap.size + 1)) #[] #[]] }, W1, gf, #[.func (.yield (w.heap.size + 1)) #[] #[]] ++ lb.toArray, W1, he, ?_, fun _ _ => trivial, ?_, fun _ => by decide, ?_⟩
 ·have hg' : a.eval g = .func (.func gf) #[] lb.toArray := by rw [r.eval]; exact hg
  simp only [resolve, hg', Deferred.ofValue]
  simp [go_sem, Act.eval]
 ·simp [invoke, go_sem, eg]
 ·have hargs : (Value.func (.yield (w.heap.size + 1)) #[] #[] :: lb).toArray = #[.func (.yield (w.heap.size + 1)) #[] #[]] ++ lb.toArray := by simp
  rw [hargs] at hd
  refine callsIn_wide.2 (hd.mono ?_)
  rintro e w3 ⟨v, F', L', rfl, le, H3, R', L2, hb, hp, hs, hx⟩
  have H4 := hs.holds H3
  have hl := Holds.get (A := []) H4
  have hend := (run_endLoop (P := P) hl hb).trans (congrArg (fun p => Result.ok p _) hp)
  have H5 := (Sub.drop (Sub.refl _)).holds (H4.turn (o' := .loop { R' with state := .exhausted }))
  refine ⟨none, _, hend, ?_⟩
  have r' : RepD fn.ntmps (markD w.heap.size) { a with defers := markD w.heap.size ++ a.defers } ρ := ⟨r.size, by simp [r.defers], r.get⟩
  refine wpIn_mono (hx ok.2 _ _ r' H5) ?_
  rintro e a4 w4 ⟨ρ4, F4, L4, r4, le4, H6, he, vs, L5, L6, F2, hv, l1, l2, hsub, hsub2, q⟩
  have H7 := hsub.holds H6
  have hk := Holds.get (A := []) H7
  have H8 := H7.turn (o' := .deferred none)
  have hres := results_run (P := P) (fn := fn) (n := fn.ntmps) (a := { a4 with defers := [] }) (w := w4.putObj w.heap.size (.deferred none)) ⟨r4.size, rfl, r4.get⟩ H8 hv
  have hfin : fin P F0 Q (.returned (oneOr vs)) (w4.putObj w.heap.size (.deferred none)) := ⟨_, F2, L6, rfl, l1, ((Sub.drop hsub2).holds H8).forget l2, q⟩
  have hlv : LeavesInM Fence.wide 9 P fn a4.tmps (fin P F0 Q) (markD w.heap.size) .returning w4 := ⟨by simp, .inl ⟨_, _, rfl, run_takeDeferred hk, ⟨_, hres, hfin⟩⟩⟩
  rcases he with rfl | rfl
  ·show LeavesInM _ _ _ _ _ _ a4.defers _ _
   rw [r4.defers]; exact hlv
  ·show LeavesInM _ _ _ _ _ _ a4.defers _ _
   rw [r4.defers]; exact hlv
end
end Go.Proofs.YtenomejgjcpbdaaGreat.X
set_option linter.unusedSimpArgs false
set_option linter.unusedVariables false
namespace Go.Proofs.YtenomejgjcpbdaaGreat.X
open Go
theorem Rd.all {F : FH} {L : List HP} {v : Value} {k : Nat} {es : List Value} (h : ∀ j u, es[j]? = some u → Rd F L (elemA v (k + j)) u) : ∀ i u, es[i]? = some u → Rd F L ((elemA v k).add i) u := by
 intro i u hu
 rw [elemA_add]
 exact h i u hu
theorem Rd.part {F : FH} {L : List HP} {v : Value} {k : Nat} {es vs : List Value} (o : Nat) (h : ∀ j u, es[j]? = some u → Rd F L (elemA v (k + j)) u) (e : (es.drop o).take vs.length = vs) : ∀ i u, vs[i]? = some u → Rd F L ((elemA v (k + o)).add i) u := by
 intro i u hu
 rw [elemA_add, Nat.add_assoc]
 refine h (o + i) u ?_
 rw [← e, List.getElem?_take] at hu
 split at hu
 ·rwa [List.getElem?_drop] at hu
 ·cases hu
abbrev FoundT := List Int × Int × StepT × Int
def FoundF (F : FH) (es : List Value) (x : FoundT) : Prop := ∃ a0 a4, es = [a0, .int .i64 x.2.1, .int .i64 x.2.2.1.1, .int .i64 x.2.2.1.2.1, a4, .int .i64 x.2.2.2] ∧ IntsF F a0 x.1 ∧ IntsF F a4 x.2.2.1.2.2
theorem FoundF.mono {F F' : FH} (le : F ≤ F') (es : List Value) (x : FoundT) (h : FoundF F es x) : FoundF F' es x := by
 obtain ⟨a0, a4, e, h0, h4⟩ := h
 exact ⟨a0, a4, e, h0.mono le, h4.mono le⟩
def FoundsF (F : FH) (v : Value) (xs : List FoundT) (cs : List Value) : Prop := ArrF F 6 v xs.length cs ∧ CO 6 FoundF ([], 0, (0, 0, []), 0) F cs xs
theorem FoundsF.mono {F F' : FH} {v : Value} {xs : List FoundT} {cs : List Value} (h : FoundsF F v xs cs) (le : F ≤ F') : FoundsF F' v xs cs := ⟨h.1.mono le, CO.mono (FoundF.mono le) h.2⟩
theorem FoundsF.slv {F : FH} {L : List HP} {v : Value} {xs : List FoundT} {cs : List Value} (h : FoundsF F v xs cs) : SlV F L v xs.length := SlV.arr h.1
theorem FoundsF.isSl {F : FH} {v : Value} {xs : List FoundT} {cs : List Value} (h : FoundsF F v xs cs) : IsSl v := h.1.isSl
theorem FoundsF.rd {F : FH} {v : Value} {xs : List FoundT} {cs : List Value} (h : FoundsF F v xs cs) {i : Nat} (hi : i < xs.length) : ∃ a0 a4, IntsF F a0 (xs.getD i ([], 0, (0, 0, []), 0)).1 ∧ IntsF F a4 (xs.getD i ([], 0, (0, 0, []), 0)).2.2.1.2.2 ∧ (∀ L j u, ([a0, .int .i64 (xs.getD i ([], 0, (0, 0, []), 0)).2.1, .int .i64 (xs.getD i ([], 0, (0, 0, []), 0)).2.2.1.1, .int .i64 (xs.getD i ([], 0, (0, 0, []), 0)).2.2.1.2.1, a4, .int .i64 (xs.getD i ([], 0, (0, 0, []), 0)).2.2.2] : List Value)[j]? = some u → Rd F L (elemA v (i * 6 + j)) u) ∧ (∀ j u, ([a0, .int .i64 (xs.getD i ([], 0, (0, 0, []), 0)).2.1, .int .i64 (xs.getD i ([], 0, (0, 0, []), 0)).2.2.1.1, .int .i64 (xs.getD i ([], 0, (0, 0, []), 0)).2.2.1.2.1, a4, .int .i64 (xs.getD i ([], 0, (0, 0, []), 0)).2.2.2] : List Value)[j]? = some u → cs[i * 6 + j]? = some u) := by
 obtain ⟨es, h1, h2, a0, a4, rfl, h0, h4⟩ := h.2.2 i hi
 refine ⟨a0, a4, h0, h4, fun L j u hu => ?_, fun j u hu => ?_⟩
 ·have := Rd.arrN (L := L) (k := i * 6) (vs := [a0, .int .i64 (xs.getD i ([], 0, (0, 0, []), 0)).2.1, .int .i64 (xs.getD i ([], 0, (0, 0, []), 0)).2.2.1.1, .int .i64 (xs.getD i ([], 0, (0, 0, []), 0)).2.2.1.2.1, a4, .int .i64 (xs.getD i ([], 0, (0, 0, []), 0)).2.2.2]) h.1 (by rw [h1]; exact h2) j u hu
  rwa [elemA_add] at this
 ·rw [← h2, List.getElem?_take] at hu
  split at hu
  ·rwa [List.getElem?_drop] at hu
  ·cases hu
def FoundsC (F : FH) (cs : List Value) (xs : List FoundT) : Prop := CO 6 FoundF ([], 0, (0, 0, []), 0) F cs xs
theorem FoundsC.mono {F F' : FH} {cs : List Value} {xs : List FoundT} (h : FoundsC F cs xs) (le : F ≤ F') : FoundsC F' cs xs := CO.mono (FoundF.mono le) h
theorem FoundsC.snoc {F : FH} {cs : List Value} {xs : List FoundT} {a0 a4 : Value} {y0 : List Int} {y1 : Int} {y2 : Int} {y3 : Int} {y4 : List Int} {y5 : Int} (h : FoundsC F cs xs) (h0 : IntsF F a0 y0) (h4 : IntsF F a4 y4) : FoundsC F (cs ++ [a0, .int .i64 y1, .int .i64 y2, .int .i64 y3, a4, .int .i64 y5]) (xs ++ [(y0, y1, (y2, y3, y4), y5)]) := CO.snoc h rfl ⟨a0, a4, rfl, h0, h4⟩
theorem FoundsC.get {F : FH} {cs : List Value} {xs : List FoundT} (h : FoundsC F cs xs) {i : Nat} (hi : i < xs.length) : ∃ a0 a4, IntsF F a0 (xs.getD i ([], 0, (0, 0, []), 0)).1 ∧ IntsF F a4 (xs.getD i ([], 0, (0, 0, []), 0)).2.2.1.2.2 ∧ (∀ j u, ([a0, .int .i64 (xs.getD i ([], 0, (0, 0, []), 0)).2.1, .int .i64 (xs.getD i ([], 0, (0, 0, []), 0)).2.2.1.1, .int .i64 (xs.getD i ([], 0, (0, 0, []), 0)).2.2.1.2.1, a4, .int .i64 (xs.getD i ([], 0, (0, 0, []), 0)).2.2.2] : List Value)[j]? = some u → cs[i * 6 + j]? = some u) := by
 obtain ⟨es, hl, ⟨a0, a4, rfl, h0, h4⟩, hr⟩ := CO.get h hi
 exact ⟨a0, a4, h0, h4, hr⟩
theorem FoundsC.fz {F : FH} {cs : List Value} {xs : List FoundT} {E : TypeId} {v : Value} {n : Nat} (h : FoundsC F cs xs) (hn : n = xs.length) (hf : Fz (slH E 6 v n cs) F) : FoundsF F v xs cs := by
 subst hn
 exact ⟨hf.sl, h⟩
abbrev MoveT := Int × Int × Bool × List Int
def MoveF (F : FH) (es : List Value) (x : MoveT) : Prop := ∃ a3, es = [.int .i64 x.1, .int .i64 x.2.1, .bool x.2.2.1, a3] ∧ IntsF F a3 x.2.2.2
theorem MoveF.mono {F F' : FH} (le : F ≤ F') (es : List Value) (x : MoveT) (h : MoveF F es x) : MoveF F' es x := by
 obtain ⟨a3, e, h3⟩ := h
 exact ⟨a3, e, h3.mono le⟩
def MovesF : FH → Value → List MoveT → Prop := SlOf 4 MoveF (0, 0, false, [])
theorem MovesF.mono {F F' : FH} {v : Value} {xs : List MoveT} (h : MovesF F v xs) (le : F ≤ F') : MovesF F' v xs := SlOf.mono (MoveF.mono le) h le
theorem MovesF.slv {F : FH} {L : List HP} {v : Value} {xs : List MoveT} (h : MovesF F v xs) : SlV F L v xs.length := SlOf.slv h
theorem MovesF.isSl {F : FH} {v : Value} {xs : List MoveT} (h : MovesF F v xs) : IsSl v := by obtain ⟨_, h, _⟩ := h; exact h.isSl
theorem MovesF.rd {F : FH} {v : Value} {xs : List MoveT} (h : MovesF F v xs) {i : Nat} (hi : i < xs.length) : ∃ a3, IntsF F a3 (xs.getD i (0, 0, false, [])).2.2.2 ∧ (∀ L j u, ([.int .i64 (xs.getD i (0, 0, false, [])).1, .int .i64 (xs.getD i (0, 0, false, [])).2.1, .bool (xs.getD i (0, 0, false, [])).2.2.1, a3] : List Value)[j]? = some u → Rd F L (elemA v (i * 4 + j)) u) ∧ True := by
 obtain ⟨es, hl, ⟨a3, rfl, h3⟩, hr⟩ := SlOf.get h hi
 exact ⟨a3, h3, hr, trivial⟩
def MovesC (F : FH) (cs : List Value) (xs : List MoveT) : Prop := CO 4 MoveF (0, 0, false, []) F cs xs
theorem MovesC.mono {F F' : FH} {cs : List Value} {xs : List MoveT} (h : MovesC F cs xs) (le : F ≤ F') : MovesC F' cs xs := CO.mono (MoveF.mono le) h
theorem MovesC.snoc {F : FH} {cs : List Value} {xs : List MoveT} {a3 : Value} {y0 : Int} {y1 : Int} {y2 : Bool} {y3 : List Int} (h : MovesC F cs xs) (h3 : IntsF F a3 y3) : MovesC F (cs ++ [.int .i64 y0, .int .i64 y1, .bool y2, a3]) (xs ++ [(y0, y1, y2, y3)]) := CO.snoc h rfl ⟨a3, rfl, h3⟩
theorem MovesC.get {F : FH} {cs : List Value} {xs : List MoveT} (h : MovesC F cs xs) {i : Nat} (hi : i < xs.length) : ∃ a3, IntsF F a3 (xs.getD i (0, 0, false, [])).2.2.2 ∧ (∀ j u, ([.int .i64 (xs.getD i (0, 0, false, [])).1, .int .i64 (xs.getD i (0, 0, false, [])).2.1, .bool (xs.getD i (0, 0, false, [])).2.2.1, a3] : List Value)[j]? = some u → cs[i * 4 + j]? = some u) := by
 obtain ⟨es, hl, ⟨a3, rfl, h3⟩, hr⟩ := CO.get h hi
 exact ⟨a3, h3, hr⟩
abbrev PolyT := Int × List Int
def PolyF (F : FH) (es : List Value) (x : PolyT) : Prop := ∃ a1, es = [.int .i64 x.1, a1] ∧ IntsF F a1 x.2
theorem PolyF.mono {F F' : FH} (le : F ≤ F') (es : List Value) (x : PolyT) (h : PolyF F es x) : PolyF F' es x := by
 obtain ⟨a1, e, h1⟩ := h
 exact ⟨a1, e, h1.mono le⟩
def PolysF : FH → Value → List PolyT → Prop := SlOf 2 PolyF (0, [])
theorem PolysF.mono {F F' : FH} {v : Value} {xs : List PolyT} (h : PolysF F v xs) (le : F ≤ F') : PolysF F' v xs := SlOf.mono (PolyF.mono le) h le
theorem PolysF.slv {F : FH} {L : List HP} {v : Value} {xs : List PolyT} (h : PolysF F v xs) : SlV F L v xs.length := SlOf.slv h
theorem PolysF.isSl {F : FH} {v : Value} {xs : List PolyT} (h : PolysF F v xs) : IsSl v := by obtain ⟨_, h, _⟩ := h; exact h.isSl
theorem PolysF.rd {F : FH} {v : Value} {xs : List PolyT} (h : PolysF F v xs) {i : Nat} (hi : i < xs.length) : ∃ a1, IntsF F a1 (xs.getD i (0, [])).2 ∧ (∀ L j u, ([.int .i64 (xs.getD i (0, [])).1, a1] : List Value)[j]? = some u → Rd F L (elemA v (i * 2 + j)) u) ∧ True := by
 obtain ⟨es, hl, ⟨a1, rfl, h1⟩, hr⟩ := SlOf.get h hi
 exact ⟨a1, h1, hr, trivial⟩
def PolysC (F : FH) (cs : List Value) (xs : List PolyT) : Prop := CO 2 PolyF (0, []) F cs xs
theorem PolysC.mono {F F' : FH} {cs : List Value} {xs : List PolyT} (h : PolysC F cs xs) (le : F ≤ F') : PolysC F' cs xs := CO.mono (PolyF.mono le) h
theorem PolysC.snoc {F : FH} {cs : List Value} {xs : List PolyT} {a1 : Value} {y0 : Int} {y1 : List Int} (h : PolysC F cs xs) (h1 : IntsF F a1 y1) : PolysC F (cs ++ [.int .i64 y0, a1]) (xs ++ [(y0, y1)]) := CO.snoc h rfl ⟨a1, rfl, h1⟩
theorem PolysC.get {F : FH} {cs : List Value} {xs : List PolyT} (h : PolysC F cs xs) {i : Nat} (hi : i < xs.length) : ∃ a1, IntsF F a1 (xs.getD i (0, [])).2 ∧ (∀ j u, ([.int .i64 (xs.getD i (0, [])).1, a1] : List Value)[j]? = some u → cs[i * 2 + j]? = some u) := by
 obtain ⟨es, hl, ⟨a1, rfl, h1⟩, hr⟩ := CO.get h hi
 exact ⟨a1, h1, hr⟩
abbrev LineT := Int × List (List Int) × List Int
def LineF (F : FH) (es : List Value) (x : LineT) : Prop := ∃ a1 a2, es = [.int .i64 x.1, a1, a2] ∧ RowsF F a1 x.2.1 ∧ IntsF F a2 x.2.2
theorem LineF.mono {F F' : FH} (le : F ≤ F') (es : List Value) (x : LineT) (h : LineF F es x) : LineF F' es x := by
 obtain ⟨a1, a2, e, h1, h2⟩ := h
 exact ⟨a1, a2, e, h1.mono le, h2.mono le⟩
def LinesF : FH → Value → List LineT → Prop := SlOf 3 LineF (0, [], [])
theorem LinesF.mono {F F' : FH} {v : Value} {xs : List LineT} (h : LinesF F v xs) (le : F ≤ F') : LinesF F' v xs := SlOf.mono (LineF.mono le) h le
theorem LinesF.slv {F : FH} {L : List HP} {v : Value} {xs : List LineT} (h : LinesF F v xs) : SlV F L v xs.length := SlOf.slv h
theorem LinesF.isSl {F : FH} {v : Value} {xs : List LineT} (h : LinesF F v xs) : IsSl v := by obtain ⟨_, h, _⟩ := h; exact h.isSl
theorem LinesF.rd {F : FH} {v : Value} {xs : List LineT} (h : LinesF F v xs) {i : Nat} (hi : i < xs.length) : ∃ a1 a2, RowsF F a1 (xs.getD i (0, [], [])).2.1 ∧ IntsF F a2 (xs.getD i (0, [], [])).2.2 ∧ (∀ L j u, ([.int .i64 (xs.getD i (0, [], [])).1, a1, a2] : List Value)[j]? = some u → Rd F L (elemA v (i * 3 + j)) u) ∧ True := by
 obtain ⟨es, hl, ⟨a1, a2, rfl, h1, h2⟩, hr⟩ := SlOf.get h hi
 exact ⟨a1, a2, h1, h2, hr, trivial⟩
def LinesC (F : FH) (cs : List Value) (xs : List LineT) : Prop := CO 3 LineF (0, [], []) F cs xs
theorem LinesC.mono {F F' : FH} {cs : List Value} {xs : List LineT} (h : LinesC F cs xs) (le : F ≤ F') : LinesC F' cs xs := CO.mono (LineF.mono le) h
theorem LinesC.snoc {F : FH} {cs : List Value} {xs : List LineT} {a1 a2 : Value} {y0 : Int} {y1 : List (List Int)} {y2 : List Int} (h : LinesC F cs xs) (h1 : RowsF F a1 y1) (h2 : IntsF F a2 y2) : LinesC F (cs ++ [.int .i64 y0, a1, a2]) (xs ++ [(y0, y1, y2)]) := CO.snoc h rfl ⟨a1, a2, rfl, h1, h2⟩
theorem LinesC.get {F : FH} {cs : List Value} {xs : List LineT} (h : LinesC F cs xs) {i : Nat} (hi : i < xs.length) : ∃ a1 a2, RowsF F a1 (xs.getD i (0, [], [])).2.1 ∧ IntsF F a2 (xs.getD i (0, [], [])).2.2 ∧ (∀ j u, ([.int .i64 (xs.getD i (0, [], [])).1, a1, a2] : List Value)[j]? = some u → cs[i * 3 + j]? = some u) := by
 obtain ⟨es, hl, ⟨a1, a2, rfl, h1, h2⟩, hr⟩ := CO.get h hi
 exact ⟨a1, a2, h1, h2, hr⟩
abbrev CRuleT := List Int × List Int × List (List Int × List Int)
def CRuleF (F : FH) (es : List Value) (x : CRuleT) : Prop := ∃ a0 a1 a2, es = [a0, a1, a2] ∧ IntsF F a0 x.1 ∧ IntsF F a1 x.2.1 ∧ PairsF F a2 x.2.2
theorem CRuleF.mono {F F' : FH} (le : F ≤ F') (es : List Value) (x : CRuleT) (h : CRuleF F es x) : CRuleF F' es x := by
 obtain ⟨a0, a1, a2, e, h0, h1, h2⟩ := h
 exact ⟨a0, a1, a2, e, h0.mono le, h1.mono le, h2.mono le⟩
def CRulesF : FH → Value → List CRuleT → Prop := SlOf 3 CRuleF ([], [], [])
theorem CRulesF.mono {F F' : FH} {v : Value} {xs : List CRuleT} (h : CRulesF F v xs) (le : F ≤ F') : CRulesF F' v xs := SlOf.mono (CRuleF.mono le) h le
theorem CRulesF.slv {F : FH} {L : List HP} {v : Value} {xs : List CRuleT} (h : CRulesF F v xs) : SlV F L v xs.length := SlOf.slv h
theorem CRulesF.isSl {F : FH} {v : Value} {xs : List CRuleT} (h : CRulesF F v xs) : IsSl v := by obtain ⟨_, h, _⟩ := h; exact h.isSl
theorem CRulesF.rd {F : FH} {v : Value} {xs : List CRuleT} (h : CRulesF F v xs) {i : Nat} (hi : i < xs.length) : ∃ a0 a1 a2, IntsF F a0 (xs.getD i ([], [], [])).1 ∧ IntsF F a1 (xs.getD i ([], [], [])).2.1 ∧ PairsF F a2 (xs.getD i ([], [], [])).2.2 ∧ (∀ L j u, ([a0, a1, a2] : List Value)[j]? = some u → Rd F L (elemA v (i * 3 + j)) u) ∧ True := by
 obtain ⟨es, hl, ⟨a0, a1, a2, rfl, h0, h1, h2⟩, hr⟩ := SlOf.get h hi
 exact ⟨a0, a1, a2, h0, h1, h2, hr, trivial⟩
def CRulesC (F : FH) (cs : List Value) (xs : List CRuleT) : Prop := CO 3 CRuleF ([], [], []) F cs xs
theorem CRulesC.mono {F F' : FH} {cs : List Value} {xs : List CRuleT} (h : CRulesC F cs xs) (le : F ≤ F') : CRulesC F' cs xs := CO.mono (CRuleF.mono le) h
theorem CRulesC.snoc {F : FH} {cs : List Value} {xs : List CRuleT} {a0 a1 a2 : Value} {y0 : List Int} {y1 : List Int} {y2 : List (List Int × List Int)} (h : CRulesC F cs xs) (h0 : IntsF F a0 y0) (h1 : IntsF F a1 y1) (h2 : PairsF F a2 y2) : CRulesC F (cs ++ [a0, a1, a2]) (xs ++ [(y0, y1, y2)]) := CO.snoc h rfl ⟨a0, a1, a2, rfl, h0, h1, h2⟩
theorem CRulesC.get {F : FH} {cs : List Value} {xs : List CRuleT} (h : CRulesC F cs xs) {i : Nat} (hi : i < xs.length) : ∃ a0 a1 a2, IntsF F a0 (xs.getD i ([], [], [])).1 ∧ IntsF F a1 (xs.getD i ([], [], [])).2.1 ∧ PairsF F a2 (xs.getD i ([], [], [])).2.2 ∧ (∀ j u, ([a0, a1, a2] : List Value)[j]? = some u → cs[i * 3 + j]? = some u) := by
 obtain ⟨es, hl, ⟨a0, a1, a2, rfl, h0, h1, h2⟩, hr⟩ := CO.get h hi
 exact ⟨a0, a1, a2, h0, h1, h2, hr⟩
end Go.Proofs.YtenomejgjcpbdaaGreat.X
set_option linter.unusedSimpArgs false
set_option linter.unusedVariables false
namespace Go.Proofs.YtenomejgjcpbdaaGreat.X
open Go
def XStepsF (F : FH) (v : Value) (xs : List StepT) (cs : List Value) : Prop := ArrF F 3 v xs.length cs ∧ StepsC F cs xs
theorem XStepsF.mono {F F' : FH} {v : Value} {xs : List StepT} {cs : List Value} (h : XStepsF F v xs cs) (le : F ≤ F') : XStepsF F' v xs cs := ⟨h.1.mono le, h.2.mono le⟩
theorem XStepsF.steps {F : FH} {v : Value} {xs : List StepT} {cs : List Value} (h : XStepsF F v xs cs) : StepsF F v xs := ⟨cs, h.1, h.2.2⟩
theorem XStepsF.slv {F : FH} {L : List HP} {v : Value} {xs : List StepT} {cs : List Value} (h : XStepsF F v xs cs) : SlV F L v xs.length := SlV.arr h.1
theorem XStepsF.isSl {F : FH} {v : Value} {xs : List StepT} {cs : List Value} (h : XStepsF F v xs cs) : IsSl v := h.1.isSl
theorem StepsC.fzx {F : FH} {cs : List Value} {xs : List StepT} {E : TypeId} {v : Value} {n : Nat} (h : StepsC F cs xs) (hn : n = xs.length) (hf : Fz (slH E 3 v n cs) F) : XStepsF F v xs cs := by
 subst hn
 exact ⟨hf.sl, h⟩
theorem XStepsF.rd {F : FH} {v : Value} {xs : List StepT} {cs : List Value} (h : XStepsF F v xs cs) {i : Nat} (hi : i < xs.length) : ∃ c, IntsF F c (xs.getD i (0, 0, [])).2.2 ∧ (∀ L, Rd F L (elemA v (i * 3)) (.int .i64 (xs.getD i (0, 0, [])).1)) ∧ (∀ L, Rd F L (elemA v (i * 3 + 1)) (.int .i64 (xs.getD i (0, 0, [])).2.1)) ∧ (∀ L, Rd F L (elemA v (i * 3 + 2)) c) ∧ cs[i * 3 + 2]? = some c := by
 obtain ⟨es, h1, h2, c, rfl, hc⟩ := h.2.2 i hi
 have hq : ∀ j u, ([.int .i64 (xs.getD i (0, 0, [])).1, .int .i64 (xs.getD i (0, 0, [])).2.1, c] : List Value)[j]? = some u → cs[i * 3 + j]? = some u := by
  intro j u hu
  rw [← h2, List.getElem?_take] at hu
  split at hu
  ·rwa [List.getElem?_drop] at hu
  ·cases hu
 have hr : ∀ L j u, ([.int .i64 (xs.getD i (0, 0, [])).1, .int .i64 (xs.getD i (0, 0, [])).2.1, c] : List Value)[j]? = some u → Rd F L (elemA v (i * 3 + j)) u := by
  intro L j u hu
  have := Rd.arrN (L := L) (k := i * 3) (vs := [.int .i64 (xs.getD i (0, 0, [])).1, .int .i64 (xs.getD i (0, 0, [])).2.1, c]) h.1 (by rw [h1]; exact h2) j u hu
  rwa [elemA_add] at this
 exact ⟨c, hc, fun L => by simpa using hr L 0 _ rfl, fun L => hr L 1 _ rfl, fun L => hr L 2 _ rfl, hq 2 _ rfl⟩
theorem DeepL.leaves {e : TypeId} {cs : List Value} {xs : List StepT} {L : List HP} (h : DeepL 3 (StepO e) cs xs L) : L.length = xs.length ∧ ∀ i c, i < xs.length → cs[i * 3 + 2]? = some c → L[i]? = some (intsH e c (xs.getD i (0, 0, [])).2.2) := by
 induction h with
 | nil => exact ⟨rfl, fun i c hi => absurd hi (by simp)⟩
 | @snoc cs es xs x L K h hl hr ih =>
  obtain ⟨c0, rfl, rfl⟩ := hr
  have hlen := h.len
  refine ⟨by simp [ih.1], fun i c hi hc => ?_⟩
  rw [List.length_append, List.length_singleton] at hi
  rcases Nat.lt_or_ge i xs.length with h1 | h1
  ·rw [List.getElem?_append_left (by omega)] at hc
   have e1 : (xs ++ [x]).getD i (0, 0, []) = xs.getD i (0, 0, []) := by simp [List.getD_eq_getElem?_getD, List.getElem?_append_left h1]
   rw [List.getElem?_append_left (by omega), e1]
   exact ih.2 i c h1 hc
  ·obtain rfl : i = xs.length := by omega
   rw [List.getElem?_append_right (by omega), show xs.length * 3 + 2 - cs.length = 2 from by omega] at hc
   have e1 : (xs ++ [x]).getD xs.length (0, 0, []) = x := by simp [List.getD_eq_getElem?_getD]
   rw [List.getElem?_append_right (by omega), e1, show xs.length - L.length = 0 from by omega]
   simp at hc
   subst hc
   rfl
def FoundO (e : TypeId) (es : List Value) (x : FoundT) (K : List HP) : Prop := ∃ a r, es = a :: r ∧ K = [intsH e a x.1]
section
variable {F F' : FH} {A B M : List HP} {h : HP}
theorem Fresh.less (k : Fresh F F' (star (A ++ h :: B))) : Fresh F F' (star (A ++ B)) := by
 obtain ⟨m, hm, nd, hp⟩ := k
 obtain ⟨a, c, b, ha, hc, hb, rfl⟩ := star_mid.1 hm
 refine ⟨a ++ b, star_append.2 ⟨a, b, ha, hb, rfl⟩, ?_, fun p h' => hp p ?_⟩
 ·refine List.Nodup.sublist ?_ nd
  exact (List.Sublist.append_left (List.sublist_append_right c b) a).map _
 ·rcases List.mem_append.1 h' with h' | h'
  ·exact List.mem_append_left _ h'
  ·exact List.mem_append_right _ (List.mem_append_right _ h')
theorem Fresh.none (k : Fresh F F' (star (A ++ B))) : Fresh F F' (star A) := by
 obtain ⟨m, hm, nd, hp⟩ := k
 obtain ⟨a, b, ha, hb, rfl⟩ := star_append.1 hm
 refine ⟨a, ha, ?_, fun p h' => hp p (List.mem_append_left _ h')⟩
 rw [List.map_append] at nd
 exact (List.nodup_append.1 nd).1
theorem leaf_next {L : List HP} {q : Nat} (hq : L[q]? = some h) : L.drop q = h :: L.drop (q + 1) := by
 have := (List.getElem?_eq_some_iff.1 hq)
 obtain ⟨hl, he⟩ := this
 rw [List.drop_eq_getElem_cons hl, he]
theorem Fresh.keepLeaf {L : List HP} {q : Nat} (k : Fresh F F' (star (A ++ L.drop q))) (hq : L[q]? = some h) : Fresh F F' (star ((A ++ [h]) ++ L.drop (q + 1))) := by
 rw [leaf_next hq] at k; simpa using k
theorem Fresh.skipLeaf {L : List HP} {q : Nat} (k : Fresh F F' (star (A ++ L.drop q))) (hq : L[q]? = some h) : Fresh F F' (star (A ++ L.drop (q + 1))) := by
 rw [leaf_next hq] at k; exact k.less
theorem Fresh.noMore {L : List HP} {q : Nat} (k : Fresh F F' (star (A ++ L.drop q))) : Fresh F F' (star A) := k.none
theorem nilRowsD {e E : TypeId} : star [rowsD e E (.slice none 0 0) []] [] := ⟨[], [], ⟨[], [], DeepL.nil, [], [], slH_nil E 1 none, rfl, rfl⟩, rfl, rfl⟩
end
def FrStepsF (F0 F : FH) (e : TypeId) (v : Value) (xs : List StepT) : Prop := ∃ acs Ls, XStepsF F v xs acs ∧ DeepL 3 (StepO e) acs xs Ls ∧ Fresh F0 F (star Ls)
theorem FrStepsF.mono {F0 F F' : FH} {e : TypeId} {v : Value} {xs : List StepT} (h : FrStepsF F0 F e v xs) (le : F ≤ F') : FrStepsF F0 F' e v xs := by
 obtain ⟨acs, Ls, h1, h2, h3⟩ := h
 exact ⟨acs, Ls, h1.mono le, h2, h3.mono le⟩
theorem FrStepsF.base {F0 F F1 : FH} {e : TypeId} {v : Value} {xs : List StepT} (h : FrStepsF F1 F e v xs) (le : F0 ≤ F1) : FrStepsF F0 F e v xs := by
 obtain ⟨acs, Ls, h1, h2, h3⟩ := h
 exact ⟨acs, Ls, h1, h2, h3.base le⟩
theorem FrStepsF.isSl {F0 F : FH} {e : TypeId} {v : Value} {xs : List StepT} (h : FrStepsF F0 F e v xs) : IsSl v := by
 obtain ⟨acs, Ls, h1, _, _⟩ := h
 exact h1.isSl
theorem FrStepsF.steps {F0 F : FH} {e : TypeId} {v : Value} {xs : List StepT} (h : FrStepsF F0 F e v xs) : StepsF F v xs := by
 obtain ⟨acs, Ls, h1, _, _⟩ := h
 exact h1.steps
end Go.Proofs.YtenomejgjcpbdaaGreat.X
set_option linter.unusedSimpArgs false
set_option linter.unusedVariables false
namespace Go.Proofs.YtenomejgjcpbdaaGreat.X
open Go
theorem yielded_undef {n : Nat} {a : Act} {ρ : Env} (r : Rep n a ρ) {ops : Array Oper} {g : Nat} {t : Tmp} (ht : (ops[g]?).bind (·.dst) = some t) (hv : ρ t = undef) : yielded ops a.tmps g = none := by
 unfold yielded
 rw [ht]
 have := r.get t
 rw [hv, Array.getD_eq_getD_getElem?] at this
 cases hx : a.tmps[t]? with
 | none => simp [hx]
 | some x => rw [hx] at this; simp at this; subst this; simp [hx, undef]
theorem XL.noU {P : Program} {n : Nat} {ops : Array Oper} {l : List Oper} {Q : QX} {ρ : Env} {F : FH} {L : List HP}
  {d : Option Tmp} {op : Op} {ty : TypeId} {pos : String} {af : Array Edge} {g : Nat} {b : Bool} {t : Tmp} (ht : (ops[g]?).bind (·.dst) = some t) (hv : ρ t = undef)
  (h : XL P n ops l Q (putE ρ d undef) F L) : XL P n ops (⟨d, op, ty, pos, af, some (g, b)⟩ :: l) Q ρ F L := by
 intro ok a w r H
 simp only [opsOk, List.all_cons, Bool.and_eq_true] at ok
 unfold wpList
 rw [if_neg (by simp [Region.wanted, yielded_undef r ht hv])]
 exact h ok.2 _ _ (r.put ok.1 undef) H
def FrIntsF (F0 F : FH) (e : TypeId) (v : Value) (xs : List Int) : Prop := Fresh F0 F (intsH e v xs)
theorem FrIntsF.mono {F0 F F' : FH} {e : TypeId} {v : Value} {xs : List Int} (h : FrIntsF F0 F e v xs) (le : F ≤ F') : FrIntsF F0 F' e v xs := Fresh.mono h le
theorem FrIntsF.base {F0 F F1 : FH} {e : TypeId} {v : Value} {xs : List Int} (h : FrIntsF F1 F e v xs) (le : F0 ≤ F1) : FrIntsF F0 F e v xs := Fresh.base h le
end Go.Proofs.YtenomejgjcpbdaaGreat.X
set_option linter.unusedSimpArgs false
set_option linter.unusedVariables false
namespace Go.Proofs.YtenomejgjcpbdaaGreat.X
open Go
def WJ (F0 : FH) (e ES T : TypeId) (bw : Nat) (fv : Value) (sg : List StepT) (tl : List HP) (k : Nat) (Fy : FH) (Ly : List HP) : Prop :=
 ∃ (sv : Value) (ss : List StepT) (cs : List Value) (Ls : List HP) (m : Nat), IsSl sv ∧ StepsC Fy cs ss ∧ m = ss.length ∧ DeepL 3 (StepO e) cs ss Ls ∧ Fresh F0 Fy (star Ls) ∧ ss = (sg.drop k).reverse ∧ Ly = cellsH bw [fv, sv] T :: slH ES 3 sv m cs :: tl
theorem WJ.start {F0 F : FH} {e ES T : TypeId} {bw : Nat} {fv : Value} {sg : List StepT} {tl : List HP} {b : Option Addr} : WJ F0 e ES T bw fv sg tl sg.length F (cellsH bw [fv, .slice b 0 0] T :: slH ES 3 (.slice b 0 0) 0 [] :: tl) :=
 ⟨_, [], [], [], 0, ⟨_, _, _, rfl⟩, CO.nil, rfl, .nil, .nilL, by simp, rfl⟩
end Go.Proofs.YtenomejgjcpbdaaGreat.X
set_option linter.unusedSimpArgs false
set_option linter.unusedVariables false
namespace Go.Proofs.YtenomejgjcpbdaaGreat.X
open Go
section
variable {F F' G F1 F2 : FH} {D D' : HP} {L M : List HP} {P : Program} {o : Oper} {ρ : Env} {K : Post} {e E : TypeId}
theorem Fresh.perm {A B : List HP} (h : Fresh F F' (star A)) (p : A.Perm B) : Fresh F F' (star B) := by
 obtain ⟨m, hm, nd, hp⟩ := h
 obtain ⟨l, hl, pl⟩ := star_perm p m hm
 exact ⟨l, hl, ((pl.map Prod.fst).nodup_iff).2 nd, fun q hq => hp q (pl.mem_iff.1 hq)⟩
theorem Fresh.deepM {s n : Nat} {α : Type} {R : List Value → α → List HP → Prop} {v : Value} {cs : List Value} {xs : List α} {Ls : List HP} (hd : DeepL s R cs xs Ls) (h : Fresh F G (star (M ++ Ls))) (le0 : F ≤ G) (k : Fresh G F' (slH E s v n cs)) (hn : n = xs.length) (le : G ≤ F') : Fresh F F' (star (M ++ [deepH s R E v xs])) := by
 subst hn
 obtain ⟨m, hm, nd, hp⟩ := Fresh.cons h le0 k le
 obtain ⟨p, r, h1, h2, rfl⟩ := hm
 obtain ⟨x, q, hx, hq, rfl⟩ := star_append.1 h2
 have hpm : (p ++ (x ++ q)).Perm (x ++ ((p ++ q) ++ [])) := by
  rw [List.append_nil, ← List.append_assoc, ← List.append_assoc]
  exact List.perm_append_comm.append_right q
 exact ⟨x ++ ((p ++ q) ++ []), star_append.2 ⟨x, (p ++ q) ++ [], hx, ⟨p ++ q, [], ⟨cs, Ls, hd, p, q, h1, hq, rfl⟩, rfl, rfl⟩, rfl⟩, ((hpm.map Prod.fst).nodup_iff).1 nd, fun w hw => hp w (hpm.mem_iff.2 hw)⟩
theorem Fresh.left {A B : List HP} (h : Fresh F F' (star (A ++ B))) : Fresh F F' (star A) := h.none
theorem Fresh.right {A B : List HP} (h : Fresh F F' (star (A ++ B))) : Fresh F F' (star B) := (h.perm List.perm_append_comm).none
theorem StepsC.get {F : FH} {cs : List Value} {xs : List StepT} (h : StepsC F cs xs) {i : Nat} (hi : i < xs.length) :
  ∃ a, IntsF F a (xs.getD i (0, 0, [])).2.2 ∧ cs[i * 3]? = some (.int .i64 (xs.getD i (0, 0, [])).1) ∧ cs[i * 3 + 1]? = some (.int .i64 (xs.getD i (0, 0, [])).2.1) ∧ cs[i * 3 + 2]? = some a := by
 obtain ⟨es, _, ⟨a, rfl, ha⟩, hg⟩ := CO.get h hi
 exact ⟨a, ha, by simpa using hg 0 _ rfl, hg 1 _ rfl, hg 2 _ rfl⟩
theorem nilLoop {e E R : TypeId} : star [intsH e (.slice none 0 0) [], stepsD e E (.slice none 0 0) [], rowsD e R (.slice none 0 0) []] [] := (star_append (A := [_, _])).2 ⟨[], [], nilWalk, nilRowsD, rfl⟩
def FreshsF (F0 F : FH) (D : HP) : Prop := Fresh F0 F D
theorem FreshsF.mono {F0 F F' : FH} {D : HP} (h : FreshsF F0 F D) (le : F ≤ F') : FreshsF F0 F' D := Fresh.mono h le
theorem slH.isSl {s n : Nat} {v : Value} {cs : List Value} {l : OH} (h : slH E s v n cs l) : IsSl v := by
 rcases h.2 with ⟨b, rfl, _⟩ | ⟨b, c, sp, rfl, _⟩
 ·exact ⟨_, _, _, rfl⟩
 ·exact ⟨_, _, _, rfl⟩
theorem Holds.openD {α : Type} {s : Nat} {R : List Value → α → List HP → Prop} {v : Value} {xs : List α} {A B : List HP} {w : World} (H : Holds F (A ++ deepH s R E v xs :: B) w) :
  ∃ cs Ls F2, F ≤ F2 ∧ IsSl v ∧ DeepL s R cs xs Ls ∧ Fresh F F2 (star Ls) ∧ Holds F2 (A ++ slH E s v xs.length cs :: B) w := by
 obtain ⟨h1, h2, h3, h4, l, hl, nd, hp⟩ := H
 obtain ⟨a, m, c, ha, ⟨cs, Ls, hd, x, y, hx, hy, rfl⟩, hc, rfl⟩ := star_mid.1 hl
 have H2 : Holds F ((A ++ [slH E s v xs.length cs]) ++ star Ls :: B) w := ⟨h1, h2, h3, h4, (a ++ x) ++ (y ++ c), star_append.2 ⟨a ++ x, y ++ c, star_append.2 ⟨a, x, ha, ⟨x, [], hx, rfl, by simp⟩, rfl⟩, ⟨y, c, hy, hc, rfl⟩, rfl⟩, by simpa using nd, fun p hq => hp p (by simpa using hq)⟩
 obtain ⟨F2, le, hz, H3, _⟩ := H2.lendF
 exact ⟨cs, Ls, F2, le, hx.isSl, hd, hz, by simpa using H3⟩
theorem XL.openD {n : Nat} {ops : Array Oper} {l : List Oper} {Q : QX} {α : Type} {s : Nat} {R : List Value → α → List HP → Prop} {v : Value} {xs : List α} (A B : List HP) (hL : L = A ++ deepH s R E v xs :: B)
  (H : ∀ cs Ls F2, F ≤ F2 → IsSl v → DeepL s R cs xs Ls → Fresh F F2 (star Ls) → XL P n ops l Q ρ F2 (A ++ slH E s v xs.length cs :: B)) : XL P n ops l Q ρ F L := by
 subst hL
 intro ok a w r Hw
 obtain ⟨cs, Ls, F2, le, hs, hd, hz, H'⟩ := Hw.openD
 exact wpList_mono (fun _ _ _ q => low_le le q) _ _ _ (H cs Ls F2 le hs hd hz ok a w r H')
end
end Go.Proofs.YtenomejgjcpbdaaGreat.X
set_option linter.unusedSimpArgs false
set_option linter.unusedVariables false
namespace Go.Proofs.YtenomejgjcpbdaaGreat.X
open Go
section
variable {F F' G : FH} {e E : TypeId} {v : Value}
def MoveO (e : TypeId) (es : List Value) (x : MoveT) (K : List HP) : Prop := ∃ c, es = [.int .i64 x.1, .int .i64 x.2.1, .bool x.2.2.1, c] ∧ K = [intsH e c x.2.2.2]
abbrev movesD (e E : TypeId) (v : Value) (xs : List MoveT) : HP := deepH 4 (MoveO e) E v xs
theorem MoveO.fz (es : List Value) (x : MoveT) (K : List HP) (h : MoveO e es x K) (hz : ∃ l, star K l ∧ ∀ p ∈ l, F.cells p.1 = some p.2) : MoveF F es x := by
 obtain ⟨c, rfl, rfl⟩ := h
 exact ⟨c, rfl, intsH.fz (E := e) (frozen_star hz _ (by simp))⟩
theorem movesD.fz {xs : List MoveT} (h : Fz (movesD e E v xs) F) : MovesF F v xs := deepH.fz MoveO.fz h
end
def WJM (F0 : FH) (e ES T : TypeId) (bw : Nat) (fv : Value) (tk : Nat → List MoveT) (tl : List HP) (k : Nat) (Fy : FH) (Ly : List HP) : Prop :=
 ∃ (sv : Value) (ms : List MoveT) (cs : List Value) (Ls : List HP) (m : Nat), IsSl sv ∧ MovesC Fy cs ms ∧ m = ms.length ∧ DeepL 4 (MoveO e) cs ms Ls ∧ Fresh F0 Fy (star Ls) ∧ ms = tk k ∧ Ly = cellsH bw [fv, sv] T :: slH ES 4 sv m cs :: tl
theorem WJM.start {F0 F : FH} {e ES T : TypeId} {bw k : Nat} {fv : Value} {tk : Nat → List MoveT} {tl : List HP} {b : Option Addr} (h : tk k = []) : WJM F0 e ES T bw fv tk tl k F (cellsH bw [fv, .slice b 0 0] T :: slH ES 4 (.slice b 0 0) 0 [] :: tl) :=
 ⟨_, [], [], [], 0, ⟨_, _, _, rfl⟩, CO.nil, rfl, .nil, .nilL, h.symm, rfl⟩
section
variable {P : Program} {ρ : Env} {F : FH} {L : List HP} {K : Post} {d : Option Tmp} {ty : TypeId} {pos : String} {af : Array Edge} {g : Option (Nat × Bool)}
theorem XOp.remC {x y : Operand} {t u : TypeId} {k : IntKind} {a b : Int} (hx : evO ρ x = .int k a) (hy : evO ρ y = .int k b) (h0 : 0 ≤ a) (hb : b ≠ 0) (kk : K (.int k (a % b)) F L) : XOp P ⟨d, .binOp .rem t x y u, ty, pos, af, g⟩ ρ F L K :=
 XOp.value (fun w _ => by simp [execOp, hx, hy, eqGuard, binOp, Op.intDiv, hb, IntWalk.rem_in _ _ h0]) kk
end
theorem StepsC.ones {F : FH} {cs : List Value} {xs : List StepT} (h : StepsC F cs xs) : ∀ u ∈ cs, u.oneCell' = true := by
 intro u hu
 obtain ⟨q, hq, rfl⟩ := List.getElem_of_mem hu
 have hl := h.1
 obtain ⟨es, h1, ⟨c, rfl, hc⟩, hg⟩ := CO.get h (i := q / 3) (by omega)
 have hj : q % 3 < 3 := Nat.mod_lt _ (by decide)
 have e : q / 3 * 3 + q % 3 = q := by omega
 have hx : ∀ v, [Value.int .i64 (xs.getD (q / 3) (0, 0, [])).1, .int .i64 (xs.getD (q / 3) (0, 0, [])).2.1, c][q % 3]? = some v → cs[q] = v := fun v hv => by
  have := hg (q % 3) v hv
  rw [e, List.getElem?_eq_getElem hq] at this
  exact Option.some.inj this
 obtain ⟨b, n, k, rfl⟩ := IntsF.isSl hc
 match hm : q % 3, hj with
 | 0, _ => rw [hx _ (by rw [hm]; rfl)]; rfl
 | 1, _ => rw [hx _ (by rw [hm]; rfl)]; rfl
 | 2, _ => rw [hx _ (by rw [hm]; rfl)]; rfl
end Go.Proofs.YtenomejgjcpbdaaGreat.X
set_option linter.unusedSimpArgs false
set_option linter.unusedVariables false
namespace Go.Proofs.YtenomejgjcpbdaaGreat.X
open Go
def WKJ (F0 : FH) (e ES T : TypeId) (bw : Nat) (fv : Value) (tl : List HP) (I : Nat → List StepT → Prop) (k : Nat) (Fy : FH) (Ly : List HP) : Prop :=
 ∃ (sv : Value) (ss : List StepT) (cs : List Value) (Ls : List HP) (m : Nat), IsSl sv ∧ StepsC Fy cs ss ∧ m = ss.length ∧ DeepL 3 (StepO e) cs ss Ls ∧ Fresh F0 Fy (star Ls) ∧ I k ss ∧ Ly = cellsH bw [fv, sv] T :: slH ES 3 sv m cs :: tl
theorem WKJ.start {F0 F : FH} {e ES T : TypeId} {bw : Nat} {fv : Value} {tl : List HP} {I : Nat → List StepT → Prop} {b : Option Addr} (h : I 0 []) : WKJ F0 e ES T bw fv tl I 0 F (cellsH bw [fv, .slice b 0 0] T :: slH ES 3 (.slice b 0 0) 0 [] :: tl) :=
 ⟨_, [], [], [], 0, ⟨_, _, _, rfl⟩, CO.nil, rfl, .nil, .nilL, h, rfl⟩
theorem WKJ.mono {F0 F F' : FH} {e ES T : TypeId} {bw k : Nat} {fv : Value} {tl L : List HP} {I : Nat → List StepT → Prop} (h : WKJ F0 e ES T bw fv tl I k F L) (le : F ≤ F') : WKJ F0 e ES T bw fv tl I k F' L :=
 let ⟨sv, ss, cs, Ls, m, h1, h2, h3, h4, h5, h6, h7⟩ := h
 ⟨sv, ss, cs, Ls, m, h1, h2.mono le, h3, h4, h5.mono le, h6, h7⟩
section
variable {P : Program} {fn : Func} {Q : Post} {ρ : Env} {F F0 : FH} {L : List HP}
theorem Does.at {f : FuncId} {args : List Value} {Q : Value → FH → Prop} {h : HP} (A : List HP) {B : List HP} (H : Does P f args F (h :: (A ++ B)) fun v F' L' => Q v F' ∧ h :: (A ++ B) = L') : Does P f args F (A ++ h :: B) fun v F' L' => Q v F' ∧ A ++ h :: B = L' := fun w Hw =>
 (H w (Sub.front.holds Hw)).mono fun _ _ ⟨v, F', L', he, le, H', hq, hl⟩ => ⟨v, F', _, he, le, Sub.back.holds (hl ▸ H'), hq, rfl⟩
end
section
variable {P : Program} {ρ : Env} {F : FH} {L : List HP} {K : Post} {d : Option Tmp} {ty : TypeId} {pos : String} {af : Array Edge} {g : Option (Nat × Bool)}
end
end Go.Proofs.YtenomejgjcpbdaaGreat.X
set_option linter.unusedSimpArgs false
set_option linter.unusedVariables false
namespace Go.Proofs.YtenomejgjcpbdaaGreat.X
open Go
section
variable {P : Program} {ρ : Env} {F : FH} {L : List HP} {K : Post} {d : Option Tmp} {ty : TypeId} {pos : String} {af : Array Edge} {g : Option (Nat × Bool)}
theorem XOp.addW {x y : Operand} {t u : TypeId} {k : IntKind} {a b : Int} (hx : evO ρ x = .int k a) (hy : evO ρ y = .int k b) (kk : ∀ r, K (.int k r) F L) : XOp P ⟨d, .binOp .add t x y u, ty, pos, af, g⟩ ρ F L K :=
 XOp.value (v := .int k (k.wrap (a + b))) (fun w _ => by simp [execOp, hx, hy, eqGuard, binOp, Op.intArith]) (kk _)
theorem XOp.mulW {x y : Operand} {t u : TypeId} {k : IntKind} {a b : Int} (hx : evO ρ x = .int k a) (hy : evO ρ y = .int k b) (kk : ∀ r, K (.int k r) F L) : XOp P ⟨d, .binOp .mul t x y u, ty, pos, af, g⟩ ρ F L K :=
 XOp.value (v := .int k (k.wrap (a * b))) (fun w _ => by simp [execOp, hx, hy, eqGuard, binOp, Op.intArith]) (kk _)
theorem XOp.shrW {x y : Operand} {t u : TypeId} {k k' : IntKind} {a b : Int} (hx : evO ρ x = .int k a) (hy : evO ρ y = .int k' b) (hb : 0 ≤ b) (kk : ∀ r, K (.int k r) F L) : XOp P ⟨d, .binOp .shr t x y u, ty, pos, af, g⟩ ρ F L K :=
 XOp.value (v := .int k (a.fdiv (2 ^ min b.toNat k.bits))) (fun w _ => by simp [execOp, hx, hy, eqGuard, binOp, Op.shift, show ¬ b < 0 by omega]) (kk _)
theorem and_range {k : IntKind} (hk : k.bits = 64) {a b : Int} (hb : 0 ≤ b ∧ b < 4611686018427387904) : 0 ≤ k.wrap (BitVec.ofInt k.bits a &&& BitVec.ofInt k.bits b).toNat ∧ k.wrap (BitVec.ofInt k.bits a &&& BitVec.ofInt k.bits b).toNat ≤ b := by
 have h1 : ((BitVec.ofInt k.bits a &&& BitVec.ofInt k.bits b).toNat : Int) ≤ b := by
  rw [BitVec.toNat_and]
  have h2 : (BitVec.ofInt k.bits a).toNat &&& (BitVec.ofInt k.bits b).toNat ≤ (BitVec.ofInt k.bits b).toNat := Nat.and_le_right
  have h3 : ((BitVec.ofInt k.bits b).toNat : Int) = b := by
   rw [BitVec.toNat_ofInt, hk]
   have : b % ((2 ^ 64 : Nat) : Int) = b := Int.emod_eq_of_lt hb.1 (by omega)
   rw [this]; omega
  omega
 have h0 : (0 : Int) ≤ ((BitVec.ofInt k.bits a &&& BitVec.ofInt k.bits b).toNat : Int) := Int.natCast_nonneg _
 generalize ((BitVec.ofInt k.bits a &&& BitVec.ofInt k.bits b).toNat : Int) = r at h0 h1
 have e : k.wrap r = r := by
  cases k <;> first | exact IntWalk.i64_in _ ⟨by omega, by omega⟩ | exact IntWalk.u64_in _ ⟨by omega, by omega⟩ | (exfalso; revert hk; decide)
 rw [e]
 exact ⟨h0, h1⟩
theorem XOp.andW {x y : Operand} {t u : TypeId} {k : IntKind} {a b : Int} (hk : k.bits = 64) (hx : evO ρ x = .int k a) (hy : evO ρ y = .int k b) (hb : 0 ≤ b ∧ b < 4611686018427387904) (kk : ∀ r, 0 ≤ r ∧ r ≤ b → K (.int k r) F L) : XOp P ⟨d, .binOp .and t x y u, ty, pos, af, g⟩ ρ F L K :=
 XOp.value (v := .int k (k.wrap (BitVec.ofInt k.bits a &&& BitVec.ofInt k.bits b).toNat)) (fun w _ => by simp [execOp, hx, hy, eqGuard, binOp, Op.intBits]) (kk _ (and_range hk hb))
theorem XOp.remV {x y : Operand} {t u : TypeId} {k : IntKind} {a b : Int} (hx : evO ρ x = .int k a) (hy : evO ρ y = .int k b) (h0 : 0 ≤ a) (hb : 0 < b) (kk : ∀ r, 0 ≤ r ∧ r < b → K (.int k r) F L) : XOp P ⟨d, .binOp .rem t x y u, ty, pos, af, g⟩ ρ F L K :=
 XOp.remC hx hy h0 (by omega) (kk _ ⟨Int.emod_nonneg a (by omega), Int.emod_lt_of_pos a hb⟩)
theorem XOp.convW {x : Operand} {s t : TypeId} {k k' : IntKind} {a : Int} {ds : TypeDesc} (hs : ∀ w, (underlying s).run P w = .ok ds w) (ht : ∀ w, (underlying t).run P w = .ok (.int k) w)
  (hx : evO ρ x = .int k' a) (kk : ∀ r, K (.int k r) F L) : XOp P ⟨d, .convert s t x, ty, pos, af, g⟩ ρ F L K := XOp.convI (k.wrap a) hs ht hx rfl (kk _)
end
def ByteE (F : FH) (es : List Value) (x : Int) : Prop := es = [.int .u8 x] ∧ 0 ≤ x ∧ x ≤ 255
theorem ByteE.mono {F F' : FH} (es : List Value) (x : Int) (h : ByteE F es x) : ByteE F' es x := h
def BytesF : FH → Value → List Int → Prop := SlOf 1 ByteE 0
theorem BytesF.mono {F F' : FH} {v : Value} {xs : List Int} (h : BytesF F v xs) (le : F ≤ F') : BytesF F' v xs := SlOf.mono ByteE.mono h le
theorem BytesF.slv {F : FH} {L : List HP} {v : Value} {xs : List Int} (h : BytesF F v xs) : SlV F L v xs.length := SlOf.slv h
theorem BytesF.isSl {F : FH} {v : Value} {xs : List Int} (h : BytesF F v xs) : IsSl v := by obtain ⟨_, h, _⟩ := h; exact h.isSl
theorem BytesF.rd {F : FH} {v : Value} {xs : List Int} (h : BytesF F v xs) {i : Nat} (hi : i < xs.length) : ∀ L, Rd F L (elemA v i) (.int .u8 (xs.getD i 0)) := by
 obtain ⟨es, hl, ⟨rfl, _⟩, hr⟩ := SlOf.get h hi
 intro L
 have := hr L 0 _ rfl
 simpa using this
theorem BytesF.range {F : FH} {v : Value} {xs : List Int} (h : BytesF F v xs) {i : Nat} (hi : i < xs.length) : 0 ≤ xs.getD i 0 ∧ xs.getD i 0 ≤ 255 := by
 obtain ⟨es, hl, ⟨rfl, h2⟩, hr⟩ := SlOf.get h hi
 exact h2
def curH (k : IntKind) (E : TypeId) (b : Nat) (bv : Value) (n : Nat) : HP := fun l => ∃ i h : Int, 0 ≤ i ∧ i ≤ n ∧ cellsH b [bv, .int .i64 i, .int k h] E l
theorem curH.of {k : IntKind} {E : TypeId} {b : Nat} {bv : Value} {n : Nat} {i h : Int} (h0 : 0 ≤ i) (h1 : i ≤ n) : ∀ l, cellsH b [bv, .int .i64 i, .int k h] E l → curH k E b bv n l := fun l hl => ⟨i, h, h0, h1, hl⟩
theorem Holds.uncur {k : IntKind} {E : TypeId} {b : Nat} {bv : Value} {n : Nat} {F : FH} {L : List HP} {w : World} (H : Holds F (curH k E b bv n :: L) w) : ∃ i h : Int, 0 ≤ i ∧ i ≤ n ∧ Holds F (cellsH b [bv, .int .i64 i, .int k h] E :: L) w := by
 obtain ⟨h1, h2, h3, h4, l, hl, nd, hp⟩ := H
 obtain ⟨a, c, ⟨i, h, q1, q2, hm⟩, hc, rfl⟩ := hl
 exact ⟨i, h, q1, q2, h1, h2, h3, h4, _, ⟨a, c, hm, hc, rfl⟩, nd, hp⟩
theorem Does.cur {P : Program} {f : FuncId} {args : List Value} {k : IntKind} {E : TypeId} {b : Nat} {bv : Value} {n : Nat} {F : FH} {L : List HP} {Q : Value → FH → Prop}
  (H : ∀ i h : Int, 0 ≤ i → i ≤ n → Does P f args F (cellsH b [bv, .int .i64 i, .int k h] E :: L) fun v F' L' => Q v F' ∧ ∃ i' h' : Int, 0 ≤ i' ∧ i' ≤ n ∧ cellsH b [bv, .int .i64 i', .int k h'] E :: L = L') :
  Does P f args F (curH k E b bv n :: L) fun v F' L' => Q v F' ∧ curH k E b bv n :: L = L' := by
 intro w Hw
 obtain ⟨i, h, q1, q2, Hw'⟩ := Hw.uncur
 refine (H i h q1 q2 w Hw').mono ?_
 rintro e w' ⟨v, F', L', he, le, H', hq, i', h', q3, q4, rfl⟩
 exact ⟨v, F', _, he, le, (Sub.keep (curH.of q3 q4) (Sub.refl _)).holds H', hq, rfl⟩
def intAt : Value → Int
 | .int _ n => n
 | _ => 0
end Go.Proofs.YtenomejgjcpbdaaGreat.X
set_option linter.unusedSimpArgs false
set_option linter.unusedVariables false
namespace Go.Proofs.YtenomejgjcpbdaaGreat.M
section
variable {ar t u : List Int} {n : Nat} {f : Int}
def goodN (ar t : List Int) (n : Nat) : Prop := (∀ x ∈ t, -24 ≤ x) ∧ ∀ r, endGo ar (t ++ r) n = some t.length
def goodT (ar t : List Int) : Prop := goodN ar t 1
theorem goodN.nil : goodN ar [] 0 := ⟨fun x hx => (List.not_mem_nil hx).elim, fun r => by cases r <;> rfl⟩
theorem goodN.snoc (h : goodN ar t n) (k : goodT ar u) : goodN ar (t ++ u) (n + 1) := by
 refine ⟨fun x hx => (List.mem_append.1 hx).elim (h.1 x) (k.1 x), fun r => ?_⟩
 have h1 := h.2 (u ++ r)
 have h2 : endGo ar ((t ++ (u ++ r)).drop t.length) 1 = some u.length := by rw [List.drop_left]; exact k.2 r
 rw [List.append_assoc, endGo_join h1 h2, List.length_append]
theorem goodT.one (hf : -24 ≤ f) (hl : f < ar.length) (ha : arity ar f = 0) : goodT ar [f] := by
 refine ⟨fun x hx => by obtain rfl := List.mem_singleton.1 hx; exact hf, fun r => ?_⟩
 show endGo ar (f :: r) (0 + 1) = some 1
 unfold endGo
 rw [if_pos hl, ha]
 cases r <;> rfl
def szB : Nat → Nat
 | 0 => 1
 | d + 1 => 1 + 2 * szB d
theorem szB_pos : ∀ d, 1 ≤ szB d
 | 0 => by simp [szB]
 | d + 1 => by simp only [szB]; omega
theorem szB_next {d : Nat} (h : 1 ≤ d) : szB d = 1 + 2 * szB (d - 1) := by
 obtain ⟨e, rfl⟩ : ∃ e, d = e + 1 := ⟨d - 1, by omega⟩
 rfl
theorem szB_le : ∀ {d e : Nat}, d ≤ e → szB d ≤ szB e
 | 0, e, _ => szB_pos e
 | d + 1, 0, h => by omega
 | d + 1, e + 1, h => by have := szB_le (d := d) (e := e) (by omega); simp only [szB]; omega
def smallS (ar : List Int) (rs : Rules) : Prop := ar.length ≤ 20 ∧ rs.length ≤ 20 ∧ ∀ i, i < rs.length → (rs.getD i ([], [])).1.length ≤ 2000 ∧ (rs.getD i ([], [])).2.length ≤ 2000
def smallR (rs : Rules) : Prop := ∀ i, i < rs.length → (rs.getD i ([], [])).1.length ≤ 2000 ∧ (rs.getD i ([], [])).2.length ≤ 2000
theorem smallR.nil : smallR [] := fun i hi => by simp at hi
theorem smallR.snoc {l r : List Int} {rs : Rules} (h : smallR rs) (hl : l.length ≤ 2000) (hr : r.length ≤ 2000) : smallR (rs ++ [(l, r)]) := fun i hi => by
 rcases Nat.lt_or_ge i rs.length with h' | h'
 ·have := h i h'
  simpa [List.getD, List.getElem?_append_left h'] using this
 ·have e : i = rs.length := by simp at hi; omega
  subst e
  simpa [List.getD] using And.intro hl hr
theorem smallS.mk' {rs : Rules} (ha : ar.length ≤ 20) (hn : rs.length ≤ 20) (h : smallR rs) : smallS ar rs := ⟨ha, hn, h⟩
theorem smallS.la {rs : Rules} (h : smallS ar rs) : ar.length ≤ 4000000 := by have := h.1; omega
theorem smallS.lr {rs : Rules} (h : smallS ar rs) : rs.length ≤ 4000000 := by have := h.2.1; omega
theorem smallS.each {rs : Rules} (h : smallS ar rs) : ∀ i, i < rs.length → (rs.getD i ([], [])).1.length ≤ 4000000 ∧ (rs.getD i ([], [])).2.length ≤ 4000000 := fun i hi => by have := h.2.2 i hi; omega
variable {rs : Rules} {a b : List Int} {ts : RowL} {m : Int} {i k : Nat}
end
end Go.Proofs.YtenomejgjcpbdaaGreat.M
set_option linter.unusedSimpArgs false
set_option linter.unusedVariables false
namespace Go.Proofs.YtenomejgjcpbdaaGreat.M
abbrev StepV := Int × Int × List Int
def stepOne (ar : List Int) (rs : Rules) (t : List Int) (p r : Nat) : List StepV := match stepL ar rs t p r with | some u => [((p : Int), (r : Int), u)] | none => []
def stepsRow (ar : List Int) (rs : Rules) (t : List Int) (p k : Nat) : List StepV := (List.range k).flatMap (stepOne ar rs t p)
def stepsTo (ar : List Int) (rs : Rules) (t : List Int) (p : Nat) : List StepV := (List.range p).flatMap fun q => stepsRow ar rs t q rs.length
def stepsL (ar : List Int) (rs : Rules) (t : List Int) : List StepV := stepsTo ar rs t t.length
def longOne (ar : List Int) (rs : Rules) (t : List Int) (p r : Nat) : Bool := isRedex ar rs t p r && !(stepL ar rs t p r).isSome
def longRow (ar : List Int) (rs : Rules) (t : List Int) (p k : Nat) : Bool := (List.range k).any (longOne ar rs t p)
def longTo (ar : List Int) (rs : Rules) (t : List Int) (p : Nat) : Bool := (List.range p).any fun q => longRow ar rs t q rs.length
def longL (ar : List Int) (rs : Rules) (t : List Int) : Bool := longTo ar rs t t.length
section
variable {ar t : List Int} {rs : Rules} {p r k : Nat} {u : List Int}
theorem stepsRow_succ : stepsRow ar rs t p (k + 1) = stepsRow ar rs t p k ++ stepOne ar rs t p k := by simp [stepsRow, List.range_succ]
theorem stepsTo_succ : stepsTo ar rs t (p + 1) = stepsTo ar rs t p ++ stepsRow ar rs t p rs.length := by simp [stepsTo, List.range_succ]
theorem longRow_succ : longRow ar rs t p (k + 1) = (longRow ar rs t p k || longOne ar rs t p k) := by simp [longRow, List.range_succ, Bool.or_comm]
theorem longTo_succ : longTo ar rs t (p + 1) = (longTo ar rs t p || longRow ar rs t p rs.length) := by simp [longTo, List.range_succ, Bool.or_comm]
theorem redex_step (h : isRedex ar rs t p r = false) : stepL ar rs t p r = none := stepL_nomatch (by unfold isRedex at h; exact h)
theorem one_none (h : isRedex ar rs t p r = false) : stepOne ar rs t p r = [] ∧ longOne ar rs t p r = false := by
 refine ⟨?_, by unfold longOne; rw [h]; rfl⟩
 unfold stepOne; rw [redex_step h]
theorem one_some (h : (stepL ar rs t p r).isSome = true) : stepOne ar rs t p r = [((p : Int), (r : Int), (stepL ar rs t p r).getD [])] ∧ longOne ar rs t p r = false := by
 obtain ⟨u, hu⟩ := Option.isSome_iff_exists.1 h
 refine ⟨by unfold stepOne; rw [hu]; rfl, by unfold longOne; rw [h]; simp⟩
theorem one_long (hr : isRedex ar rs t p r = true) (h : (stepL ar rs t p r).isSome = false) : stepOne ar rs t p r = [] ∧ longOne ar rs t p r = true := by
 refine ⟨?_, by unfold longOne; rw [hr, h]; rfl⟩
 unfold stepOne
 cases hx : stepL ar rs t p r with
 | none => rfl
 | some u => rw [hx] at h; cases h
theorem stepOne_no (h : (stepL ar rs t p r).isSome = false) : stepOne ar rs t p r = [] := by
 unfold stepOne
 cases hx : stepL ar rs t p r with
 | none => rfl
 | some u => rw [hx] at h; cases h
theorem stepOne_len : (stepOne ar rs t p r).length ≤ 1 := by unfold stepOne; split <;> simp
theorem stepsRow_len : ∀ k, (stepsRow ar rs t p k).length ≤ k
 | 0 => by simp [stepsRow]
 | k + 1 => by have := stepsRow_len k; have := stepOne_len (ar := ar) (rs := rs) (t := t) (p := p) (r := k); rw [stepsRow_succ, List.length_append]; omega
theorem stepsTo_len (h : rs.length ≤ 12) : ∀ p, (stepsTo ar rs t p).length ≤ 12 * p
 | 0 => by simp [stepsTo]
 | p + 1 => by have := stepsTo_len h p; have := stepsRow_len (ar := ar) (rs := rs) (t := t) (p := p) rs.length; rw [stepsTo_succ, List.length_append]; omega
theorem mem_steps {s : StepV} (h : s ∈ stepsL ar rs t) : ∃ q k, q < t.length ∧ k < rs.length ∧ stepL ar rs t q k = some s.2.2 := by
 unfold stepsL stepsTo at h
 obtain ⟨q, hq, h⟩ := List.mem_flatMap.1 h
 unfold stepsRow at h
 obtain ⟨k, hk, h⟩ := List.mem_flatMap.1 h
 refine ⟨q, k, List.mem_range.1 hq, List.mem_range.1 hk, ?_⟩
 unfold stepOne at h
 split at h
 ·rename_i u hu; simp at h; rw [h]; exact hu
 ·cases h
theorem steps_ok (hs : sysOk ar rs = true) (ht : termOk ar t = true) {i : Nat} (hi : i < (stepsL ar rs t).length) : termOk ar ((stepsL ar rs t).getD i (0, 0, [])).2.2 = true := by
 obtain ⟨q, k, h1, h2, h3⟩ := mem_steps (show (stepsL ar rs t).getD i (0, 0, []) ∈ stepsL ar rs t by simp [List.getD, hi])
 exact stepL_ok hs ht h1 h2 h3
end
abbrev FoundV := List Int × Int × StepV × Int
def terms (all : List FoundV) : RowL := all.map (·.1)
def isIn (all : List FoundV) (t : List Int) : Bool := all.any fun x => decide (x.1 = t)
def addGo (k d : Int) : List StepV → List FoundV → List FoundV × Bool
 | [], all => (all, true)
 | s :: r, all => if isIn all s.2.2 = true then addGo k d r all else if all.length = 60 then (all, false) else addGo k d r (all ++ [(s.2.2, k, s, d + 1)])
def reachGo (ar : List Int) (rs : Rules) (n : Int) : Nat → Nat → List FoundV → List FoundV × Bool
  | 0, _, all => (all, true)
  | f + 1, k, all => if k < all.length then
      (if (all.getD k ([], 0, (0, 0, []), 0)).2.2.2 = n then reachGo ar rs n f (k + 1) all
       else if (addGo (k : Int) (all.getD k ([], 0, (0, 0, []), 0)).2.2.2 (stepsL ar rs (all.getD k ([], 0, (0, 0, []), 0)).1) all).2 = true then reachGo ar rs n f (k + 1) (addGo (k : Int) (all.getD k ([], 0, (0, 0, []), 0)).2.2.2 (stepsL ar rs (all.getD k ([], 0, (0, 0, []), 0)).1) all).1
       else (addGo (k : Int) (all.getD k ([], 0, (0, 0, []), 0)).2.2.2 (stepsL ar rs (all.getD k ([], 0, (0, 0, []), 0)).1) all))
    else (all, true)
def start0 (t : List Int) : List FoundV := [(t, -1, (0, 0, []), 0)]
def reachL (ar : List Int) (rs : Rules) (t : List Int) (n : Int) : List FoundV × Bool := reachGo ar rs n 60 0 (start0 t)
section
variable {ar t : List Int} {rs : Rules} {n d : Int} {k f : Nat} {all : List FoundV} {ss : List StepV}
abbrev EL (all : List FoundV) (k : Nat) : FoundV := all.getD k ([], 0, (0, 0, []), 0)
theorem reach_same (hk : k < all.length) (hf : 60 - k = f + 1) (hd : (EL all k).2.2.2 = n) : reachGo ar rs n (60 - k) k all = reachGo ar rs n (60 - (k + 1)) (k + 1) all := by
 rw [hf, reachGo, if_pos hk, if_pos hd, show 60 - (k + 1) = f from by omega]
theorem reach_more (hk : k < all.length) (hf : 60 - k = f + 1) (hd : (EL all k).2.2.2 ≠ n) (h : (addGo (k : Int) (EL all k).2.2.2 (stepsL ar rs (EL all k).1) all).2 = true) : reachGo ar rs n (60 - k) k all = reachGo ar rs n (60 - (k + 1)) (k + 1) (addGo (k : Int) (EL all k).2.2.2 (stepsL ar rs (EL all k).1) all).1 := by
 rw [hf, reachGo, if_pos hk, if_neg hd, if_pos h, show 60 - (k + 1) = f from by omega]
theorem reach_stop (hk : k < all.length) (hf : 60 - k = f + 1) (hd : (EL all k).2.2.2 ≠ n) (h : (addGo (k : Int) (EL all k).2.2.2 (stepsL ar rs (EL all k).1) all).2 = false) : reachGo ar rs n (60 - k) k all = addGo (k : Int) (EL all k).2.2.2 (stepsL ar rs (EL all k).1) all := by
 rw [hf, reachGo, if_pos hk, if_neg hd, if_neg (by rw [h]; simp)]
theorem reach_done (hk : all.length ≤ k) (hl : all.length ≤ 60) : reachGo ar rs n (60 - k) k all = (all, true) := by
 cases h : 60 - k with
 | zero => rfl
 | succ f => rw [reachGo, if_neg (by omega)]
theorem add_in {q : Nat} (hq : q < ss.length) (h : isIn all (ss.getD q (0, 0, [])).2.2 = true) : addGo (k : Int) d (ss.drop q) all = addGo (k : Int) d (ss.drop (q + 1)) all := by
 rw [drop_get (0, 0, []) hq, addGo, if_pos h]
theorem add_new {q : Nat} (hq : q < ss.length) (h : isIn all (ss.getD q (0, 0, [])).2.2 = false) (hl : all.length ≠ 60) : addGo (k : Int) d (ss.drop q) all = addGo (k : Int) d (ss.drop (q + 1)) (all ++ [((ss.getD q (0, 0, [])).2.2, (k : Int), ss.getD q (0, 0, []), d + 1)]) := by
 rw [drop_get (0, 0, []) hq, addGo, if_neg (by rw [h]; simp), if_neg hl]
theorem add_full {q : Nat} (hq : q < ss.length) (h : isIn all (ss.getD q (0, 0, [])).2.2 = false) (hl : all.length = 60) : addGo (k : Int) d (ss.drop q) all = (all, false) := by
 rw [drop_get (0, 0, []) hq, addGo, if_neg (by rw [h]; simp), if_pos hl]
theorem add_end {q : Nat} (hq : ss.length ≤ q) : addGo (k : Int) d (ss.drop q) all = (all, true) := by
 rw [List.drop_eq_nil_of_le hq]; rfl
def AllOk (ar : List Int) (all : List FoundV) : Prop := ∀ i, i < all.length → termOk ar (EL all i).1 = true
theorem AllOk.snoc {x : FoundV} (h : AllOk ar all) (hx : termOk ar x.1 = true) : AllOk ar (all ++ [x]) := by
 intro i hi
 rw [List.length_append, List.length_singleton] at hi
 rcases Nat.lt_or_ge i all.length with h1 | h1
 ·have := h i h1; unfold EL at *; rwa [List.getD_eq_getElem?_getD, List.getElem?_append_left h1, ← List.getD_eq_getElem?_getD]
 ·obtain rfl : i = all.length := by omega
  unfold EL; simp [List.getD]; exact hx
theorem AllOk.start (h : termOk ar t = true) : AllOk ar (start0 t) := by
 intro i hi
 obtain rfl : i = 0 := by simp [start0] at hi; exact hi
 exact h
def DeepOk (n : Int) (all : List FoundV) : Prop := ∀ i, i < all.length → 0 ≤ (EL all i).2.2.2 ∧ (EL all i).2.2.2 ≤ n
theorem DeepOk.snoc {x : FoundV} (h : DeepOk n all) (hx : 0 ≤ x.2.2.2 ∧ x.2.2.2 ≤ n) : DeepOk n (all ++ [x]) := by
 intro i hi
 rw [List.length_append, List.length_singleton] at hi
 rcases Nat.lt_or_ge i all.length with h1 | h1
 ·have := h i h1; unfold EL at *; rwa [List.getD_eq_getElem?_getD, List.getElem?_append_left h1, ← List.getD_eq_getElem?_getD]
 ·obtain rfl : i = all.length := by omega
  unfold EL; simp [List.getD]; exact hx
theorem DeepOk.start (hn : 0 ≤ n) : DeepOk n (start0 t) := by
 intro i hi
 obtain rfl : i = 0 := by simp [start0] at hi; exact hi
 exact ⟨by simp [EL, start0], by simpa [EL, start0] using hn⟩
theorem terms_len : (terms all).length = all.length := by simp [terms]
theorem terms_get (i : Nat) : (terms all).getD i [] = (EL all i).1 := by
 unfold terms EL
 rcases Nat.lt_or_ge i all.length with h | h
 ·simp [List.getD, h]
 ·simp [List.getD, h]
theorem add_ok2 (k d : Int) : ∀ (ss : List StepV) (all : List FoundV), all.length ≤ 60 → AllOk ar all → (∀ s ∈ ss, termOk ar s.2.2 = true) → (addGo k d ss all).1.length ≤ 60 ∧ AllOk ar (addGo k d ss all).1
 | [], all, hl, h, _ => ⟨hl, h⟩
 | s :: r, all, hl, h, hs => by
  rw [addGo]
  split
  ·exact add_ok2 k d r all hl h (fun x hx => hs x (List.mem_cons_of_mem _ hx))
  ·split
   ·exact ⟨hl, h⟩
   ·exact add_ok2 k d r _ (by rw [List.length_append, List.length_singleton]; omega) (h.snoc (hs s (by simp))) (fun x hx => hs x (List.mem_cons_of_mem _ hx))
theorem reachGo_ok (hs : sysOk ar rs = true) : ∀ (f k : Nat) (all : List FoundV), all.length ≤ 60 → AllOk ar all → (reachGo ar rs n f k all).1.length ≤ 60 ∧ AllOk ar (reachGo ar rs n f k all).1
 | 0, k, all, hl, h => ⟨hl, h⟩
 | f + 1, k, all, hl, h => by
  rw [reachGo]
  split
  ·rename_i hk
   have ha := add_ok2 (ar := ar) (k : Int) (all.getD k ([], 0, (0, 0, []), 0)).2.2.2 (stepsL ar rs (all.getD k ([], 0, (0, 0, []), 0)).1) all hl h (fun s hx => by
    obtain ⟨q, j, h1, h2, h3⟩ := mem_steps hx
    exact stepL_ok hs (h k hk) h1 h2 h3)
   split
   ·exact reachGo_ok hs f (k + 1) all hl h
   ·split
    ·exact reachGo_ok hs f (k + 1) _ ha.1 ha.2
    ·exact ha
  ·exact ⟨hl, h⟩
theorem reachL_ok (hs : sysOk ar rs = true) (ht : termOk ar t = true) : (reachL ar rs t n).1.length ≤ 60 ∧ AllOk ar (reachL ar rs t n).1 := reachGo_ok hs 60 0 _ (by simp [start0]) (AllOk.start ht)
theorem isIn_some {i : Nat} {u : List Int} (hi : i < all.length) (h : (EL all i).1 = u) : isIn all u = true := by
 unfold isIn
 rw [List.any_eq_true]
 refine ⟨EL all i, ?_, by simpa using h⟩
 unfold EL; simp [List.getD, hi]
end
def foundI (all : List FoundV) (u : List Int) : Int := badG (fun x => !decide (x.1 = u)) all
theorem foundI_at {all : List FoundV} {u : List Int} {k : Nat} (hk : k < all.length) (h : (EL all k).1 = u) (hall : ∀ i, i < k → (EL all i).1 ≠ u) : foundI all u = k :=
 badG_at ([], 0, (0, 0, []), 0) hk (by simpa using h) (fun i hi => by simpa using hall i hi)
theorem foundI_none {all : List FoundV} {u : List Int} (hall : ∀ i, i < all.length → (EL all i).1 ≠ u) : foundI all u = -1 :=
 badG_none ([], 0, (0, 0, []), 0) (fun i hi => by simpa using hall i hi)
theorem foundI_iff {all : List FoundV} {u : List Int} : (foundI all u ≥ 0) ↔ isIn all u = true := by
 unfold foundI
 rw [badG_iff]
 unfold isIn
 constructor
 ·intro h
  rw [List.all_eq_false] at h
  obtain ⟨x, hx, h⟩ := h
  rw [List.any_eq_true]
  exact ⟨x, hx, by simpa using h⟩
 ·intro h
  rw [List.any_eq_true] at h
  obtain ⟨x, hx, h⟩ := h
  rw [List.all_eq_false]
  exact ⟨x, hx, by simpa using h⟩
theorem foundI_terms {all : List FoundV} {u : List Int} : badG (fun y => !decide (y = u)) (terms all) = foundI all u := by
 unfold foundI badG terms
 rw [List.findIdx?_map]; rfl
def froms (all : List FoundV) : List Int := all.map (·.2.1)
def bys (all : List FoundV) : List StepV := all.map (·.2.2.1)
def deeps (all : List FoundV) : List Int := all.map (·.2.2.2)
section
variable {all : List FoundV} {x : FoundV} {i : Nat}
theorem terms_snoc : terms (all ++ [x]) = terms all ++ [x.1] := by simp [terms]
theorem froms_snoc : froms (all ++ [x]) = froms all ++ [x.2.1] := by simp [froms]
theorem bys_snoc : bys (all ++ [x]) = bys all ++ [x.2.2.1] := by simp [bys]
theorem deeps_snoc : deeps (all ++ [x]) = deeps all ++ [x.2.2.2] := by simp [deeps]
theorem froms_len : (froms all).length = all.length := by simp [froms]
theorem bys_len : (bys all).length = all.length := by simp [bys]
theorem deeps_len : (deeps all).length = all.length := by simp [deeps]
theorem deeps_get (hi : i < all.length) : (deeps all).getD i 0 = (EL all i).2.2.2 := by unfold deeps EL; simp [List.getD, hi]
theorem froms_get (hi : i < all.length) : (froms all).getD i 0 = (EL all i).2.1 := by unfold froms EL; simp [List.getD, hi]
theorem bys_get (hi : i < all.length) : (bys all).getD i (0, 0, []) = (EL all i).2.2.1 := by unfold bys EL; simp [List.getD, hi]
theorem EL_snoc {k : Nat} (hk : k < all.length) : EL (all ++ [x]) k = EL all k := by unfold EL; rw [List.getD_eq_getElem?_getD, List.getElem?_append_left hk, ← List.getD_eq_getElem?_getD]
end
def reachOkL (ar : List Int) (rs : Rules) (n : Int) (ts : RowL) : Bool := (sysOk ar rs && decide (0 ≤ n ∧ n ≤ 20)) && ts.all (termOk ar)
def reachF (ar : List Int) (rs : Rules) (t : List Int) (n : Int) : List FoundV × Bool := if reachOkL ar rs n [t] = true then reachL ar rs t n else ([], false)
theorem flat_mem {N : Nat} : ∀ {ts : RowL}, (∀ x ∈ ts, x.length ≤ N) → (ts.flatMap flatRow).length ≤ N * ts.length
 | [], _ => by simp
 | x :: ts, h => by
  have h1 := h x (by simp)
  have h2 := flat_mem (ts := ts) (fun y hy => h y (List.mem_cons_of_mem _ hy))
  rw [List.flatMap_cons, List.length_append, List.length_cons, Nat.mul_succ]
  have h3 : (flatRow x).length = x.length := rfl
  omega
theorem flat_le {N : Nat} {ts : RowL} (h : ∀ i, (ts.getD i []).length ≤ N) : (ts.flatMap flatRow).length ≤ N * ts.length :=
 flat_mem fun x hx => by
  obtain ⟨i, hi, rfl⟩ := List.getElem_of_mem hx
  have := h i
  simpa [List.getD, hi] using this
theorem reachOk_iff {ar t : List Int} {rs : Rules} {n : Int} : reachOkL ar rs n [t] = true ↔ (sysOk ar rs = true ∧ termOk ar t = true) ∧ (0 ≤ n ∧ n ≤ 20) := by
 unfold reachOkL
 simp only [Bool.and_eq_true, List.all_cons, List.all_nil, Bool.and_true, decide_eq_true_eq]
 constructor
 ·rintro ⟨⟨h1, h2⟩, h3⟩; exact ⟨⟨h1, h3⟩, h2⟩
 ·rintro ⟨⟨h1, h3⟩, h2⟩; exact ⟨⟨h1, h2⟩, h3⟩
theorem reachOk_right {ar t : List Int} {rs : Rules} {n : Int} : reachOkL ar rs n [t] = (rightB ar rs t && decide (0 ≤ n ∧ n ≤ 20)) := by
 unfold reachOkL rightB
 simp only [List.all_cons, List.all_nil, Bool.and_true]
 cases sysOk ar rs <;> cases termOk ar t <;> simp
theorem reachF_yes {ar t : List Int} {rs : Rules} {n : Int} (h : reachOkL ar rs n [t] = true) : reachF ar rs t n = reachL ar rs t n := if_pos h
theorem reachF_no {ar t : List Int} {rs : Rules} {n : Int} (h : reachOkL ar rs n [t] = false) : reachF ar rs t n = ([], false) := if_neg (by rw [h]; simp)
end Go.Proofs.YtenomejgjcpbdaaGreat.M
set_option linter.unusedSimpArgs false
set_option linter.unusedVariables false
namespace Go.Proofs.YtenomejgjcpbdaaGreat.M
def Link (all : List FoundV) : Prop := (0 < all.length ∧ (EL all 0).2.1 = -1 ∧ (EL all 0).2.2.2 = 0) ∧ ∀ i, 0 < i → i < all.length → 0 ≤ (EL all i).2.1 ∧ (EL all i).2.1 < (i : Int) ∧ (EL all i).2.2.2 = (EL all (EL all i).2.1.toNat).2.2.2 + 1 ∧ (EL all i).2.2.1.2.2 = (EL all i).1
def Dist (all : List FoundV) : Prop := ∀ i j, i < j → j < all.length → (EL all i).1 ≠ (EL all j).1
section
variable {ar t : List Int} {rs : Rules} {n : Int} {all : List FoundV}
theorem EL_last {x : FoundV} : EL (all ++ [x]) all.length = x := by unfold EL; simp [List.getD]
theorem Link.start : Link (start0 t) := ⟨⟨by simp [start0], rfl, rfl⟩, fun i h0 hi => by simp [start0] at hi; omega⟩
theorem Link.snoc {k : Nat} {s : StepV} {d : Int} (h : Link all) (hk : k < all.length) (hd : d = (EL all k).2.2.2) : Link (all ++ [(s.2.2, (k : Int), s, d + 1)]) := by
 obtain ⟨⟨h0, h2, h3⟩, h4⟩ := h
 refine ⟨⟨by simp, by rw [EL_snoc h0]; exact h2, by rw [EL_snoc h0]; exact h3⟩, fun i hi hl => ?_⟩
 rw [List.length_append, List.length_singleton] at hl
 rcases Nat.lt_or_ge i all.length with h | h
 ·obtain ⟨a, b, c, d⟩ := h4 i hi h
  rw [EL_snoc h]
  exact ⟨a, b, by rw [EL_snoc (by omega)]; exact c, d⟩
 ·obtain rfl : i = all.length := by omega
  rw [EL_last]
  refine ⟨by dsimp only; omega, by dsimp only; omega, ?_, rfl⟩
  dsimp only
  rw [show ((k : Int)).toNat = k from by omega, EL_snoc hk, hd]
theorem add_link (k : Nat) (d : Int) : ∀ (ss : List StepV) (all : List FoundV), Link all → k < all.length → d = (EL all k).2.2.2 → Link (addGo (k : Int) d ss all).1
 | [], all, h, _, _ => h
 | s :: r, all, h, hk, hd => by
  rw [addGo]
  split
  ·exact add_link k d r all h hk hd
  ·split
   ·exact h
   ·exact add_link k d r _ (h.snoc hk hd) (by rw [List.length_append]; omega) (by rw [EL_snoc hk]; exact hd)
theorem add_deep (k d : Int) (h0 : 0 ≤ d) (h1 : d + 1 ≤ n) : ∀ (ss : List StepV) (all : List FoundV), DeepOk n all → DeepOk n (addGo k d ss all).1
 | [], all, h => h
 | s :: r, all, h => by
  rw [addGo]
  split
  ·exact add_deep k d h0 h1 r all h
  ·split
   ·exact h
   ·exact add_deep k d h0 h1 r _ (h.snoc ⟨by dsimp only; omega, by dsimp only; omega⟩)
theorem Dist.snoc {x : FoundV} (h : Dist all) (hx : isIn all x.1 = false) : Dist (all ++ [x]) := by
 intro i j hij hj
 rw [List.length_append, List.length_singleton] at hj
 rcases Nat.lt_or_ge j all.length with h1 | h1
 ·rw [EL_snoc h1, EL_snoc (by omega)]; exact h i j hij h1
 ·obtain rfl : j = all.length := by omega
  rw [EL_last, EL_snoc hij]
  intro he
  rw [isIn_some hij he] at hx
  cases hx
theorem add_dist (k d : Int) : ∀ (ss : List StepV) (all : List FoundV), Dist all → Dist (addGo k d ss all).1
 | [], all, h => h
 | s :: r, all, h => by
  rw [addGo]
  split
  ·exact add_dist k d r all h
  ·split
   ·exact h
   ·rename_i h1 h2
    exact add_dist k d r _ (h.snoc (by simpa using h1))
theorem add_first (k d : Int) : ∀ (ss : List StepV) (all : List FoundV), 0 < all.length → 0 < (addGo k d ss all).1.length ∧ (EL (addGo k d ss all).1 0).1 = (EL all 0).1
 | [], all, h => ⟨h, rfl⟩
 | s :: r, all, h => by
  rw [addGo]
  split
  ·exact add_first k d r all h
  ·split
   ·exact ⟨h, rfl⟩
   ·have := add_first k d r (all ++ [(s.2.2, k, s, d + 1)]) (by simp)
    rw [EL_snoc h] at this
    exact this
def Good (t : List Int) (n : Int) (all : List FoundV) : Prop := Link all ∧ Dist all ∧ DeepOk n all ∧ (EL all 0).1 = t
theorem reachGo_good : ∀ (f k : Nat) (all : List FoundV), Good t n all → Good t n (reachGo ar rs n f k all).1
 | 0, k, all, h => h
 | f + 1, k, all, h => by
  rw [reachGo]
  split
  ·rename_i hk
   split
   ·exact reachGo_good f (k + 1) all h
   ·rename_i hd
    obtain ⟨a, b, c, d⟩ := h
    have hdk := c k hk
    have hd' : (EL all k).2.2.2 ≠ n := hd
    have h2 : Good t n (addGo (k : Int) (EL all k).2.2.2 (stepsL ar rs (EL all k).1) all).1 :=
     ⟨add_link k _ _ all a hk rfl, add_dist _ _ _ all b, add_deep _ _ hdk.1 (by omega) _ all c, by rw [(add_first _ _ _ all a.1.1).2]; exact d⟩
    split
    ·exact reachGo_good f (k + 1) _ h2
    ·exact h2
  ·exact h
theorem reachL_good (hn : 0 ≤ n) : Good t n (reachL ar rs t n).1 := reachGo_good 60 0 _ ⟨Link.start, fun i j hij hj => by simp [start0] at hj; omega, DeepOk.start hn, rfl⟩
def backF (all : List FoundV) : Nat → Nat → List StepV
 | 0, _ => []
 | f + 1, k => if k = 0 then [] else (EL all k).2.2.1 :: backF all f (EL all k).2.1.toNat
def backL (all : List FoundV) (k : Nat) : List StepV := backF all k k
theorem backF_eq (h : Link all) : ∀ (f g k : Nat), k ≤ f → k ≤ g → k < all.length → backF all f k = backF all g k
 | 0, g, k, h1, h2, h3 => by
  obtain rfl : k = 0 := by omega
  cases g <;> simp [backF]
 | f + 1, 0, k, h1, h2, h3 => by
  obtain rfl : k = 0 := by omega
  simp [backF]
 | f + 1, g + 1, k, h1, h2, h3 => by
  rw [backF, backF]
  split
  ·rfl
  ·rename_i hk
   have := h.2 k (by omega) h3
   rw [backF_eq h f g _ (by omega) (by omega) (by omega)]
theorem backL_zero : backL all 0 = [] := rfl
theorem backL_succ {k : Nat} (h : Link all) (hk : 0 < k) (hl : k < all.length) : backL all k = (EL all k).2.2.1 :: backL all (EL all k).2.1.toNat := by
 have h9 := h.2 k hk hl
 unfold backL
 obtain ⟨j, rfl⟩ : ∃ j, k = j + 1 := ⟨k - 1, by omega⟩
 rw [backF, if_neg (by omega), backF_eq h j _ _ (by omega) (Nat.le_refl _) (by omega)]
theorem backL_len (h : Link all) : ∀ (f k : Nat), k ≤ f → k < all.length → ((backL all k).length : Int) = (EL all k).2.2.2
 | 0, k, h1, h2 => by
  obtain rfl : k = 0 := by omega
  rw [backL_zero, h.1.2.2]; rfl
 | f + 1, k, h1, h2 => by
  rcases Nat.eq_zero_or_pos k with h0 | h0
  ·subst h0; rw [backL_zero, h.1.2.2]; rfl
  ·have h9 := h.2 k h0 h2
   have := backL_len h f (EL all k).2.1.toNat (by omega) (by omega)
   rw [backL_succ h h0 h2, List.length_cons]
   omega
theorem backL_mem (h : Link all) : ∀ (f k : Nat), k ≤ f → k < all.length → ∀ s ∈ backL all k, ∃ i, i < all.length ∧ s.2.2 = (EL all i).1
 | 0, k, h1, h2, s, hs => by
  obtain rfl : k = 0 := by omega
  simp [backL_zero] at hs
 | f + 1, k, h1, h2, s, hs => by
  rcases Nat.eq_zero_or_pos k with h0 | h0
  ·subst h0; simp [backL_zero] at hs
  ·have h9 := h.2 k h0 h2
   rw [backL_succ h h0 h2] at hs
   rcases List.mem_cons.1 hs with rfl | hs
   ·exact ⟨k, h2, h9.2.2.2⟩
   ·exact backL_mem h f _ (by omega) (by omega) s hs
theorem drop_rev {α : Type} (d : α) {l : List α} {k : Nat} (h : k < l.length) : (l.drop k).reverse = (l.drop (k + 1)).reverse ++ [l.getD k d] := by rw [drop_get d h, List.reverse_cons]
def walkL (all : List FoundV) (k : Nat) : List StepV := (backL all k).reverse
theorem foundI_lt {u : List Int} (h : 0 ≤ foundI all u) : (foundI all u).toNat < all.length ∧ (EL all (foundI all u).toNat).1 = u := by
 unfold foundI badG at h ⊢
 split at h
 ·rename_i i he
  rw [List.findIdx?_eq_some_iff_getElem] at he
  obtain ⟨hi, h1, _⟩ := he
  rw [show ((i : Int)).toNat = i from by omega]
  unfold EL
  simp only [List.getD_eq_getElem?_getD, List.getElem?_eq_getElem hi, Option.getD_some]
  exact ⟨hi, by simpa using h1⟩
 ·omega
end
end Go.Proofs.YtenomejgjcpbdaaGreat.M
set_option linter.unusedSimpArgs false
set_option linter.unusedVariables false
namespace Go.Proofs.YtenomejgjcpbdaaGreat.M
def WalkB (f : List Int) (ss : List StepV) : Prop := f.length ≤ 60 ∧ ss.length ≤ 60 ∧ (∀ i, i < ss.length → (ss.getD i (0, 0, [])).2.2.length ≤ 60) ∧ (ss.flatMap flatStep).length ≤ 4000
theorem WalkB.nil : WalkB [] [] := ⟨by simp, by simp, fun i hi => by simp at hi, by simp⟩
theorem WalkB.mk {f : List Int} {ss : List StepV} (hf : f.length ≤ 60) (hs : ss.length ≤ 60) (h : ∀ s ∈ ss, s.2.2.length ≤ 60) : WalkB f ss := by
 have h0 : ∀ i, i < ss.length → (ss.getD i (0, 0, [])).2.2.length ≤ 60 := fun i hi => h _ (by simp [List.getD, hi])
 refine ⟨hf, hs, h0, ?_⟩
 have h1 := flatStep_len ss
 have h2 := gTo_bound h0 _ (Nat.le_refl _)
 have h4 : ss.length * 60 ≤ 60 * 60 := Nat.mul_le_mul_right 60 hs
 omega
section
variable {ar t u a b : List Int} {rs : Rules} {n : Int} {all : List FoundV} {k : Nat}
theorem walkL_len (hl : Link all) (hd : DeepOk n all) (hk : k < all.length) : ((walkL all k).length : Int) = (EL all k).2.2.2 ∧ ((walkL all k).length : Int) ≤ n := by
 have h1 := backL_len hl k k (Nat.le_refl _) hk
 have h2 := hd k hk
 unfold walkL
 rw [List.length_reverse]
 omega
def walkTo0 (ar : List Int) (rs : Rules) (t u : List Int) (n : Int) : List Int × List StepV × Bool :=
 if 0 ≤ foundI (reachL ar rs t n).1 u then (t, walkL (reachL ar rs t n).1 (foundI (reachL ar rs t n).1 u).toNat, true) else ([], [], false)
theorem walkTo0_yes (h : 0 ≤ foundI (reachL ar rs t n).1 u) : walkTo0 ar rs t u n = (t, walkL (reachL ar rs t n).1 (foundI (reachL ar rs t n).1 u).toNat, true) := if_pos h
theorem walkTo0_no (h : foundI (reachL ar rs t n).1 u < 0) : walkTo0 ar rs t u n = ([], [], false) := if_neg (by omega)
def walkToF (ar : List Int) (rs : Rules) (t u : List Int) (n : Int) : List Int × List StepV × Bool := if reachOkL ar rs n [t, u] = true then walkTo0 ar rs t u n else ([], [], false)
theorem reachOk2_iff : reachOkL ar rs n [t, u] = true ↔ (sysOk ar rs = true ∧ termOk ar t = true ∧ termOk ar u = true) ∧ (0 ≤ n ∧ n ≤ 20) := by
 unfold reachOkL
 simp only [Bool.and_eq_true, List.all_cons, List.all_nil, Bool.and_true, decide_eq_true_eq]
 constructor
 ·rintro ⟨⟨h1, h2⟩, h3, h4⟩; exact ⟨⟨h1, h3, h4⟩, h2⟩
 ·rintro ⟨⟨h1, h3, h4⟩, h2⟩; exact ⟨⟨h1, h2⟩, h3, h4⟩
theorem reachOk2 : reachOkL ar rs n [t, u] = (reachOkL ar rs n [t] && reachOkL ar rs n [u]) := by
 unfold reachOkL
 simp only [List.all_cons, List.all_nil, Bool.and_true]
 cases sysOk ar rs <;> cases termOk ar t <;> cases termOk ar u <;> simp
theorem walkToF_yes (h : reachOkL ar rs n [t, u] = true) : walkToF ar rs t u n = walkTo0 ar rs t u n := if_pos h
theorem walkToF_no (h : reachOkL ar rs n [t, u] = false) : walkToF ar rs t u n = ([], [], false) := if_neg (by rw [h]; simp)
def joinI (l r : List FoundV) : Int := badG (fun x => !isIn r x.1) l
theorem joinI_none {l r : List FoundV} (hall : ∀ i, i < l.length → foundI r (EL l i).1 < 0) : joinI l r = -1 :=
 badG_none ([], 0, (0, 0, []), 0) (fun i hi => by
  have := hall i hi
  cases hx : isIn r (EL l i).1 with
  | true => have := foundI_iff.2 hx; omega
  | false => rfl)
abbrev Two := List Int × List StepV × List Int × List StepV × Bool
def join0 (ar : List Int) (rs : Rules) (a b : List Int) (n : Int) : Two :=
 if 0 ≤ joinI (reachL ar rs a n).1 (reachL ar rs b n).1 then
  (a, walkL (reachL ar rs a n).1 (joinI (reachL ar rs a n).1 (reachL ar rs b n).1).toNat, b, walkL (reachL ar rs b n).1 (foundI (reachL ar rs b n).1 (EL (reachL ar rs a n).1 (joinI (reachL ar rs a n).1 (reachL ar rs b n).1).toNat).1).toNat, true)
 else ([], [], [], [], false)
theorem join0_none (hall : ∀ i, i < (reachL ar rs a n).1.length → foundI (reachL ar rs b n).1 (EL (reachL ar rs a n).1 i).1 < 0) : join0 ar rs a b n = ([], [], [], [], false) := by
 unfold join0
 rw [joinI_none hall, if_neg (by omega)]
theorem badG_lt {α : Type} (d : α) {q : α → Bool} {l : List α} (h : 0 ≤ badG q l) : (badG q l).toNat < l.length ∧ q (l.getD (badG q l).toNat d) = false := by
 unfold badG at h ⊢
 split at h
 ·rename_i i he
  rw [List.findIdx?_eq_some_iff_getElem] at he
  obtain ⟨hi, h1, _⟩ := he
  rw [show ((i : Int)).toNat = i from by omega]
  simp only [List.getD_eq_getElem?_getD, List.getElem?_eq_getElem hi, Option.getD_some]
  exact ⟨hi, by simpa using h1⟩
 ·omega
end
end Go.Proofs.YtenomejgjcpbdaaGreat.M
set_option linter.unusedSimpArgs false
set_option linter.unusedVariables false
namespace Go.Proofs.YtenomejgjcpbdaaGreat.M
section
variable {ar t u : List Int} {rs : Rules} {n : Int} {all : List FoundV} {k : Nat} {ss : List StepV}
theorem range_getD {i : Nat} (h : i < k) : (List.range k).getD i 0 = i := by simp [List.getD, h]
def instI (ar t u : List Int) : Int := badG (fun p => !(matchB ar t (sub ar u p)).isSome) (List.range u.length)
theorem instI_at (hk : k < u.length) (h : (matchB ar t (sub ar u k)).isSome = true) (hall : ∀ i, i < k → (matchB ar t (sub ar u i)).isSome = false) : instI ar t u = k :=
 badG_at 0 (by simpa using hk) (by rw [range_getD hk, h]; rfl) (fun i hi => by rw [range_getD (by omega), hall i hi]; rfl)
theorem instI_none (hall : ∀ i, i < u.length → (matchB ar t (sub ar u i)).isSome = false) : instI ar t u = -1 :=
 badG_none 0 (fun i hi => by rw [List.length_range] at hi; rw [range_getD hi, hall i hi]; rfl)
abbrev instS (ar t u : List Int) : RowL := matchP ar t (sub ar u (instI ar t u).toNat)
def placeS (ar t u : List Int) : RowL := if 0 ≤ instI ar t u then instS ar t u else []
theorem placeS_at (h : instI ar t u = (k : Int)) : placeS ar t u = matchP ar t (sub ar u k) := by
 unfold placeS
 rw [if_pos (by omega), instS, h, show ((k : Int)).toNat = k from by omega]
theorem placeS_yes (h : 0 ≤ instI ar t u) : placeS ar t u = instS ar t u := if_pos h
theorem placeS_none (h : instI ar t u = -1) : placeS ar t u = [] := if_neg (by omega)
def nextI (ar t : List Int) (ss : List StepV) : Int := badG (fun s => decide (instI ar t s.2.2 < 0)) ss
theorem nextI_at (hk : k < ss.length) (h : 0 ≤ instI ar t (ss.getD k (0, 0, [])).2.2) (hall : ∀ i, i < k → instI ar t (ss.getD i (0, 0, [])).2.2 < 0) : nextI ar t ss = k :=
 badG_at (0, 0, []) hk (decide_eq_false (by omega)) (fun i hi => decide_eq_true (hall i hi))
theorem nextI_none (hall : ∀ i, i < ss.length → instI ar t (ss.getD i (0, 0, [])).2.2 < 0) : nextI ar t ss = -1 := badG_none (0, 0, []) (fun i hi => decide_eq_true (hall i hi))
def loopI (ar : List Int) (rs : Rules) (t : List Int) (all : List FoundV) : Int := badG (fun x => decide (nextI ar t (stepsL ar rs x.1) < 0)) all
theorem loopI_at (hk : k < all.length) (h : 0 ≤ nextI ar t (stepsL ar rs (EL all k).1)) (hall : ∀ i, i < k → nextI ar t (stepsL ar rs (EL all i).1) < 0) : loopI ar rs t all = k :=
 badG_at ([], 0, (0, 0, []), 0) hk (decide_eq_false (by have h9 : 0 ≤ nextI ar t (stepsL ar rs (all.getD k ([], 0, (0, 0, []), 0)).1) := h; omega)) (fun i hi => decide_eq_true (hall i hi))
theorem loopI_none (hall : ∀ i, i < all.length → nextI ar t (stepsL ar rs (EL all i).1) < 0) : loopI ar rs t all = -1 := badG_none ([], 0, (0, 0, []), 0) (fun i hi => decide_eq_true (hall i hi))
abbrev LoopV := List Int × List StepV × Int × RowL × Bool
abbrev noLoop : LoopV := ([], [], 0, [], false)
def loopAt (ar : List Int) (t : List Int) (all : List FoundV) (k : Nat) (s : StepV) : LoopV := (t, walkL all k ++ [s], instI ar t s.2.2, instS ar t s.2.2, true)
def loop0 (ar : List Int) (rs : Rules) (t : List Int) (all : List FoundV) : LoopV :=
 if 0 ≤ loopI ar rs t all then loopAt ar t all (loopI ar rs t all).toNat ((stepsL ar rs (EL all (loopI ar rs t all).toNat).1).getD (nextI ar t (stepsL ar rs (EL all (loopI ar rs t all).toNat).1)).toNat (0, 0, [])) else noLoop
theorem loop0_at {q : Nat} (hk : k < all.length) (hall : ∀ i, i < k → nextI ar t (stepsL ar rs (EL all i).1) < 0) (hq : q < (stepsL ar rs (EL all k).1).length) (h : 0 ≤ instI ar t ((stepsL ar rs (EL all k).1).getD q (0, 0, [])).2.2)
  (hall2 : ∀ i, i < q → instI ar t ((stepsL ar rs (EL all k).1).getD i (0, 0, [])).2.2 < 0) : loop0 ar rs t all = loopAt ar t all k ((stepsL ar rs (EL all k).1).getD q (0, 0, [])) := by
 have h1 := nextI_at hq h hall2
 have h2 := loopI_at hk (by omega) hall
 unfold loop0
 rw [h2, if_pos (by omega), show ((k : Int)).toNat = k from by omega, h1, show ((q : Int)).toNat = q from by omega]
theorem loop0_none (hall : ∀ i, i < all.length → nextI ar t (stepsL ar rs (EL all i).1) < 0) : loop0 ar rs t all = noLoop := by
 unfold loop0
 rw [loopI_none hall, if_neg (by omega)]
theorem loop0_is {p : Prop} (hy : ∀ k q, k < all.length → q < (stepsL ar rs (EL all k).1).length → loop0 ar rs t all = loopAt ar t all k ((stepsL ar rs (EL all k).1).getD q (0, 0, [])) → p) (hn : loop0 ar rs t all = noLoop → p) : p := by
 by_cases h : 0 ≤ loopI ar rs t all
 ·obtain ⟨h1, h2⟩ := badG_lt ([], 0, (0, 0, []), 0) h
  have h3 : 0 ≤ nextI ar t (stepsL ar rs (EL all (loopI ar rs t all).toNat).1) := by
   have := of_decide_eq_false h2
   show 0 ≤ nextI ar t (stepsL ar rs (all.getD (badG (fun x => decide (nextI ar t (stepsL ar rs x.1) < 0)) all).toNat ([], 0, (0, 0, []), 0)).1)
   omega
  have h4 := (badG_lt ((0 : Int), (0 : Int), ([] : List Int)) h3).1
  exact hy _ _ h1 h4 (by unfold loop0; rw [if_pos h]; rfl)
 ·exact hn (by unfold loop0; rw [if_neg h])
def LoopB (v : LoopV) : Prop := WalkB v.1 v.2.1 ∧ v.2.2.2.1.length ≤ 24 ∧ (∀ i, (v.2.2.2.1.getD i []).length ≤ 60) ∧ (v.2.2.2.1.flatMap flatRow).length ≤ 4000
theorem LoopB.no : LoopB noLoop := ⟨.nil, by simp, fun i => by simp, by simp⟩
theorem loop0_bound (hs : sysOk ar rs = true) (ht : termOk ar t = true) (hn : 0 ≤ n ∧ n ≤ 20) : LoopB (loop0 ar rs t (reachL ar rs t n).1) := by
 refine loop0_is (fun k q hk hq e => ?_) (fun e => by rw [e]; exact LoopB.no)
 rw [e]
 have h1 := reachL_good (ar := ar) (rs := rs) (t := t) hn.1
 have h2 := walkL_len h1.1 h1.2.2.1 hk
 have h3 := reachL_ok (n := n) hs ht
 have h4 := steps_ok hs (h3.2 k hk) hq
 have h5 := termOk_len h4
 have h6 := matchP_len (ar := ar) (p := t) (t := sub ar ((stepsL ar rs (EL (reachL ar rs t n).1 k).1).getD q (0, 0, [])).2.2 (instI ar t ((stepsL ar rs (EL (reachL ar rs t n).1 k).1).getD q (0, 0, [])).2.2).toNat)
 have h7 : ∀ i, ((instS ar t ((stepsL ar rs (EL (reachL ar rs t n).1 k).1).getD q (0, 0, [])).2.2).getD i []).length ≤ 60 := fun i => by
  have h8 := h6.2 i
  have h9 : (sub ar ((stepsL ar rs (EL (reachL ar rs t n).1 k).1).getD q (0, 0, [])).2.2 (instI ar t ((stepsL ar rs (EL (reachL ar rs t n).1 k).1).getD q (0, 0, [])).2.2).toNat).length ≤ 60 := by
   unfold sub
   rw [List.length_take, List.length_drop]
   omega
  show ((matchP ar t _).getD i []).length ≤ 60
  omega
 refine ⟨WalkB.mk (termOk_len ht).2 ?_ ?_, h6.1, h7, ?_⟩
 ·show (walkL _ k ++ [_]).length ≤ 60
  rw [List.length_append, List.length_singleton]; omega
 ·intro s hm
  rcases List.mem_append.1 hm with hm | hm
  ·obtain ⟨i, hi, he⟩ := backL_mem h1.1 k k (Nat.le_refl _) hk s (by unfold walkL at hm; simpa using hm)
   rw [he]; exact (termOk_len (h3.2 i hi)).2
  ·rw [List.mem_singleton.1 hm]; exact h5.2
 ·have := flat_le h7
  have h9 : (instS ar t ((stepsL ar rs (EL (reachL ar rs t n).1 k).1).getD q (0, 0, [])).2.2).length ≤ 24 := h6.1
  show ((instS ar t ((stepsL ar rs (EL (reachL ar rs t n).1 k).1).getD q (0, 0, [])).2.2).flatMap flatRow).length ≤ 4000
  omega
def loopF (ar : List Int) (rs : Rules) (t : List Int) (n : Int) : LoopV := if (sysOk ar rs = true ∧ termOk ar t = true) ∧ 1 ≤ n ∧ n ≤ 20 then loop0 ar rs t (reachL ar rs t (n - 1)).1 else noLoop
theorem loopF_yes (h : (sysOk ar rs = true ∧ termOk ar t = true) ∧ 1 ≤ n ∧ n ≤ 20) : loopF ar rs t n = loop0 ar rs t (reachL ar rs t (n - 1)).1 := if_pos h
theorem loopF_no (h : ¬ ((sysOk ar rs = true ∧ termOk ar t = true) ∧ 1 ≤ n ∧ n ≤ 20)) : loopF ar rs t n = noLoop := if_neg h
theorem loopF_bound : LoopB (loopF ar rs t n) := by
 unfold loopF
 split
 ·rename_i h; exact loop0_bound h.1.1 h.1.2 (by omega)
 ·exact .no
theorem foundI_dist (h : Dist all) (hk : k < all.length) : foundI all (EL all k).1 = k :=
 foundI_at hk rfl (fun i hi => h i k hi hk)
def firstI (ar : List Int) (rs : Rules) (n : Int) : Int := badG (fun r => !(loopF ar rs r.1 n).2.2.2.2) rs
theorem firstI_at (hk : k < rs.length) (h : (loopF ar rs (rs.getD k ([], [])).1 n).2.2.2.2 = true) (hall : ∀ i, i < k → (loopF ar rs (rs.getD i ([], [])).1 n).2.2.2.2 = false) : firstI ar rs n = k :=
 badG_at ([], []) hk (by rw [h]; rfl) (fun i hi => by rw [hall i hi]; rfl)
theorem firstI_none (hall : ∀ i, i < rs.length → (loopF ar rs (rs.getD i ([], [])).1 n).2.2.2.2 = false) : firstI ar rs n = -1 := badG_none ([], []) (fun i hi => by rw [hall i hi]; rfl)
def firstF (ar : List Int) (rs : Rules) (n : Int) : LoopV := if sysOk ar rs = true ∧ 1 ≤ n ∧ n ≤ 20 then (if 0 ≤ firstI ar rs n then loopF ar rs (rs.getD (firstI ar rs n).toNat ([], [])).1 n else noLoop) else noLoop
theorem firstF_no (h : ¬ (sysOk ar rs = true ∧ 1 ≤ n ∧ n ≤ 20)) : firstF ar rs n = noLoop := if_neg h
theorem firstF_at (hs : sysOk ar rs = true ∧ 1 ≤ n ∧ n ≤ 20) (hk : k < rs.length) (h : (loopF ar rs (rs.getD k ([], [])).1 n).2.2.2.2 = true) (hall : ∀ i, i < k → (loopF ar rs (rs.getD i ([], [])).1 n).2.2.2.2 = false) : firstF ar rs n = loopF ar rs (rs.getD k ([], [])).1 n := by
 have h1 := firstI_at hk h hall
 unfold firstF
 rw [if_pos hs, h1, if_pos (by omega), show ((k : Int)).toNat = k from by omega]
theorem firstF_none (hall : ∀ i, i < rs.length → (loopF ar rs (rs.getD i ([], [])).1 n).2.2.2.2 = false) : firstF ar rs n = noLoop := by
 unfold firstF
 split
 ·rw [firstI_none hall, if_neg (by omega)]
 ·rfl
theorem firstF_bound : LoopB (firstF ar rs n) := by
 unfold firstF
 split
 ·split
  ·exact loopF_bound
  ·exact .no
 ·exact .no
def withinI (ar : List Int) (rs : Rules) (n : Int) : Int := badG (fun k : Nat => !(firstF ar rs ((k : Int) + 1)).2.2.2.2) (List.range n.toNat)
def withinF (ar : List Int) (rs : Rules) (n : Int) : Int := if sysOk ar rs = true ∧ 1 ≤ n ∧ n ≤ 20 then withinI ar rs n + 1 else 0
theorem withinF_no (h : ¬ (sysOk ar rs = true ∧ 1 ≤ n ∧ n ≤ 20)) : withinF ar rs n = 0 := if_neg h
theorem withinF_at (hn : 1 ≤ n ∧ n ≤ 20) (hk : k < n.toNat) (h : (firstF ar rs ((k : Int) + 1)).2.2.2.2 = true) (hall : ∀ i : Nat, i < k → (firstF ar rs ((i : Int) + 1)).2.2.2.2 = false) : withinF ar rs n = k + 1 := by
 have hs : sysOk ar rs = true := by
  cases hx : sysOk ar rs with
  | true => rfl
  | false => rw [firstF_no (by rw [hx]; simp)] at h; exact absurd h (by simp)
 unfold withinF withinI
 rw [if_pos ⟨hs, hn⟩, badG_at 0 (k := k) (by simpa using hk) (by rw [range_getD hk, h]; rfl) (fun i hi => by rw [range_getD (by omega), hall i hi]; rfl)]
theorem withinF_none (hall : ∀ i : Nat, i < n.toNat → (firstF ar rs ((i : Int) + 1)).2.2.2.2 = false) : withinF ar rs n = 0 := by
 unfold withinF withinI
 rw [badG_none 0 (fun i hi => by rw [List.length_range] at hi; rw [range_getD hi, hall i hi]; rfl)]
 split <;> rfl
end
end Go.Proofs.YtenomejgjcpbdaaGreat.M
set_option linter.unusedSimpArgs false
set_option linter.unusedVariables false
namespace Go.Proofs.YtenomejgjcpbdaaGreat.M
section
variable {ar : List Int} {rs : Rules} {t f now : List Int} {ss acc : List StepL} {s : RowL} {k : Nat}
def movedL (s : RowL) (t : List Int) (k : Nat) : Nat := ((t.take k).flatMap (lk s)).length
theorem movedL_zero : movedL s t 0 = 0 := rfl
theorem movedL_succ (h : k < t.length) : movedL s t (k + 1) = movedL s t k + (lk s (t.getD k 0)).length := by
 unfold movedL
 rw [take_succ_getD 0 h, List.flatMap_append, List.length_append]; simp
theorem movedL_le {N : Nat} (h1 : 1 ≤ N) (hs : ∀ i, (s.getD i []).length ≤ N) : ∀ k, k ≤ t.length → movedL s t k ≤ k * N
 | 0, _ => by simp [movedL_zero]
 | k + 1, hk => by
  have h2 := movedL_le h1 hs k (by omega)
  have h3 := lk_bound h1 hs (t.getD k 0)
  rw [movedL_succ (by omega), Nat.succ_mul]; omega
theorem take_getD {p : Nat} (h : k < p) : ((t.drop 0).take (p - 0)).getD k 0 = t.getD k 0 := by
 simp [List.getD_eq_getElem?_getD, List.getElem?_take, h]
theorem now_ok (hw : walkOkL ar rs f ss = true) (hk : k ≤ ss.length) (hn : now = nowL f ss k) : termOk ar now = true := by
 obtain ⟨h1, _, h3⟩ := walkOkL_iff.1 hw
 rw [hn]
 exact (right_iff.1 (goOk_now h3 h1 k hk).1).2
theorem walkOk_at2 (h : walkOkL ar rs f ss = true) (hk : k < ss.length) (hn : now = nowL f ss k) : 0 ≤ (ss.getD k (0, 0, [])).1 ∧ (ss.getD k (0, 0, [])).1 < (now.length : Int) := by
 have h1 := walkOk_step h hk
 have h2 := (stepAtL_ok h1).2
 simp only [stepAtOk, Bool.and_eq_true, decide_eq_true_eq] at h2
 rw [hn]
 omega
def undGo (s : RowL) : List Int → List StepL → Option (List StepL)
 | _, [] => some []
 | now, x :: ss => match fillL s x.2.2 with
  | none => none
  | some u => (undGo s x.2.2 ss).map (fun r => (((movedL s now x.1.toNat : Nat) : Int), x.2.1, u) :: r)
def undB (ar : List Int) (rs : Rules) (f : List Int) (ss : List StepL) (s : RowL) : List Int × List StepL × Bool :=
 if walkOkL ar rs f ss = true ∧ substOk ar s = true then
  match fillL s f, undGo s f ss with
  | some f', some ss' => (f', ss', true)
  | _, _ => ([], [], false)
 else ([], [], false)
theorem undGo_next (hk : k < ss.length) (h : undGo s f ss = (undGo s now (ss.drop k)).map (fun r => acc ++ r)) (hu : (fillL s (ss.getD k (0, 0, [])).2.2).isSome = true) :
  undGo s f ss = (undGo s (ss.getD k (0, 0, [])).2.2 (ss.drop (k + 1))).map (fun r => (acc ++ [(((movedL s now (ss.getD k (0, 0, [])).1.toNat : Nat) : Int), (ss.getD k (0, 0, [])).2.1, (fillL s (ss.getD k (0, 0, [])).2.2).getD [])]) ++ r) := by
 obtain ⟨v, hv⟩ := Option.isSome_iff_exists.1 hu
 rw [h, drop_get (0, 0, []) hk]
 show (match fillL s (ss.getD k (0, 0, [])).2.2 with | none => none | some u => (undGo s (ss.getD k (0, 0, [])).2.2 (ss.drop (k + 1))).map (fun r => (((movedL s now (ss.getD k (0, 0, [])).1.toNat : Nat) : Int), (ss.getD k (0, 0, [])).2.1, u) :: r)).map (fun r => acc ++ r) = _
 rw [hv]
 cases undGo s (ss.getD k (0, 0, [])).2.2 (ss.drop (k + 1)) with
 | none => rfl
 | some r => simp
theorem undGo_fail (hk : k < ss.length) (h : undGo s f ss = (undGo s now (ss.drop k)).map (fun r => acc ++ r)) (hu : (fillL s (ss.getD k (0, 0, [])).2.2).isSome = false) : undGo s f ss = none := by
 rw [h, drop_get (0, 0, []) hk]
 show (match fillL s (ss.getD k (0, 0, [])).2.2 with | none => none | some u => (undGo s (ss.getD k (0, 0, [])).2.2 (ss.drop (k + 1))).map (fun r => (((movedL s now (ss.getD k (0, 0, [])).1.toNat : Nat) : Int), (ss.getD k (0, 0, [])).2.1, u) :: r)).map (fun r => acc ++ r) = _
 cases hx : fillL s (ss.getD k (0, 0, [])).2.2 with
 | none => rfl
 | some v => rw [hx] at hu; cases hu
theorem undGo_end (hk : ss.length ≤ k) (h : undGo s f ss = (undGo s now (ss.drop k)).map (fun r => acc ++ r)) : undGo s f ss = some acc := by
 rw [h, List.drop_eq_nil_of_le hk]
 simp [undGo]
theorem undGo_start : undGo s f ss = (undGo s f (ss.drop 0)).map (fun r => [] ++ r) := by simp
theorem undB_no (h : ¬ (walkOkL ar rs f ss = true ∧ substOk ar s = true)) : undB ar rs f ss s = ([], [], false) := if_neg h
theorem undB_from (h : (fillL s f).isSome = false) : undB ar rs f ss s = ([], [], false) := by
 unfold undB
 cases hx : fillL s f with
 | none => simp
 | some v => rw [hx] at h; cases h
theorem undB_steps (h : undGo s f ss = none) : undB ar rs f ss s = ([], [], false) := by
 unfold undB
 rw [h]
 cases fillL s f <;> simp
theorem undB_yes (hw : walkOkL ar rs f ss = true) (hs : substOk ar s = true) (h1 : (fillL s f).isSome = true) (h2 : undGo s f ss = some acc) : undB ar rs f ss s = ((fillL s f).getD [], acc, true) := by
 obtain ⟨v, hv⟩ := Option.isSome_iff_exists.1 h1
 rw [undB, if_pos ⟨hw, hs⟩, hv, h2]
 rfl
theorem undGo_len : ∀ (now : List Int) (ss r : List StepL), undGo s now ss = some r → r.length = ss.length
 | _, [], r, h => by simp [undGo] at h; subst h; rfl
 | now, x :: ss, r, h => by
  unfold undGo at h
  split at h
  ·cases h
  ·obtain ⟨q, hq, rfl⟩ := Option.map_eq_some_iff.1 h
   simp [undGo_len _ ss q hq]
end
end Go.Proofs.YtenomejgjcpbdaaGreat.M
set_option linter.unusedSimpArgs false
set_option linter.unusedVariables false
namespace Go.Proofs.YtenomejgjcpbdaaGreat.M
section
variable {ar f g : List Int} {rs : Rules} {xs ys : List StepV}
abbrev WalkV := List Int × List StepV × Bool
def joinW (f : List Int) (xs : List StepV) (g : List Int) (ys : List StepV) : WalkV := if endL f xs = g ∧ xs.length + ys.length ≤ 60 then (f, xs ++ ys, true) else ([], [], false)
theorem joinW_yes (h : endL f xs = g) (hl : xs.length + ys.length ≤ 60) : joinW f xs g ys = (f, xs ++ ys, true) := if_pos ⟨h, hl⟩
theorem joinW_no (h : endL f xs ≠ g) : joinW f xs g ys = ([], [], false) := if_neg (fun hc => h hc.1)
theorem joinW_long (h : ¬ xs.length + ys.length ≤ 60) : joinW f xs g ys = ([], [], false) := if_neg (fun hc => h hc.2)
theorem walkOk_bnd (h : walkOkL ar rs f xs = true) : f.length ≤ 60 ∧ xs.length ≤ 60 ∧ ∀ i, i < xs.length → (xs.getD i (0, 0, [])).2.2.length ≤ 60 :=
 have h1 := walkOkL_iff.1 h
 ⟨(termOk_len (right_iff.1 h1.1).2).2, h1.2.1, fun i hi => (termOk_len (walkOk_to h hi)).2⟩
end
end Go.Proofs.YtenomejgjcpbdaaGreat.M
set_option linter.unusedSimpArgs false
set_option linter.unusedVariables false
namespace Go.Proofs.YtenomejgjcpbdaaGreat.X
open Go
theorem Holds.ex {ι : Type} {h : HP} {k : ι → HP} {p : ι → Prop} {F : FH} {A B : List HP} {w : World} (e : ∀ l, h l → ∃ i, p i ∧ k i l) (H : Holds F (A ++ h :: B) w) : ∃ i, p i ∧ Holds F (A ++ k i :: B) w := by
 obtain ⟨h1, h2, h3, h4, l, hl, nd, hp⟩ := H
 obtain ⟨a, m, c, ha, hm, hc, rfl⟩ := star_mid.1 hl
 obtain ⟨i, hi, hk⟩ := e m hm
 exact ⟨i, hi, h1, h2, h3, h4, _, star_mid.2 ⟨a, m, c, ha, hk, hc, rfl⟩, nd, hp⟩
def drawnH (e : TypeId) (v : Value) (Q : List Int → Prop) : HP := fun l => ∃ t, Q t ∧ intsH e v t l
theorem drawnH.of {e : TypeId} {v : Value} {Q : List Int → Prop} {t : List Int} (h : Q t) : ∀ l, intsH e v t l → drawnH e v Q l := fun l hl => ⟨t, h, hl⟩
section
variable {P : Program} {n : Nat} {ops : Array Oper} {l : List Oper} {Q : QX} {ρ : Env} {F : FH} {L : List HP} {c : Code}
theorem XL.undraw {e : TypeId} {v : Value} {R : List Int → Prop} (A : List HP) {B : List HP} (hL : L = A ++ drawnH e v R :: B) (h : ∀ t, R t → XL P n ops l Q ρ F (A ++ intsH e v t :: B)) : XL P n ops l Q ρ F L := by
 subst hL
 intro ok a w r H
 obtain ⟨t, ht, H'⟩ := Holds.ex (fun _ h => h) H
 exact h t ht ok a w r H'
end
def SomesF (F : FH) (v : Value) (Q : List Int → Prop) : Prop := ∃ t, IntsF F v t ∧ Q t
theorem SomesF.mono {F F' : FH} {v : Value} {Q : List Int → Prop} (h : SomesF F v Q) (le : F ≤ F') : SomesF F' v Q := let ⟨t, h1, h2⟩ := h; ⟨t, h1.mono le, h2⟩
theorem SomesF.isSl {F : FH} {v : Value} {Q : List Int → Prop} (h : SomesF F v Q) : IsSl v := let ⟨_, h1, _⟩ := h; h1.isSl
def SomeRowsF (F : FH) (v : Value) (Q : List (List Int) → Prop) : Prop := ∃ t, RowsF F v t ∧ Q t
theorem SomeRowsF.mono {F F' : FH} {v : Value} {Q : List (List Int) → Prop} (h : SomeRowsF F v Q) (le : F ≤ F') : SomeRowsF F' v Q := let ⟨t, h1, h2⟩ := h; ⟨t, h1.mono le, h2⟩
theorem SomeRowsF.isSl {F : FH} {v : Value} {Q : List (List Int) → Prop} (h : SomeRowsF F v Q) : IsSl v := let ⟨_, h1, _⟩ := h; h1.isSl
theorem Does.atO {P : Program} {f : FuncId} {args : List Value} {F : FH} {ι : Type} {O : ι → HP} {Q : ι → Value → FH → Prop} {h : HP} (A : List HP) {B : List HP} (H : Does P f args F (h :: (A ++ B)) fun v F' L' => ∃ i, Q i v F' ∧ O i :: h :: (A ++ B) = L') :
  Does P f args F (A ++ h :: B) fun v F' L' => ∃ i, Q i v F' ∧ O i :: (A ++ h :: B) = L' := fun w Hw =>
 (H w (Sub.front.holds Hw)).mono fun _ _ ⟨v, F', L', he, le, H', i, hq, hl⟩ => ⟨v, F', _, he, le, (Sub.cons Sub.back).holds (hl ▸ H'), i, hq, rfl⟩
section
variable {P : Program} {ρ : Env} {F : FH} {L : List HP} {K : Post} {d : Option Tmp} {ty : TypeId} {pos : String} {af : Array Edge} {g : Option (Nat × Bool)}
end
end Go.Proofs.YtenomejgjcpbdaaGreat.X
set_option linter.unusedSimpArgs false
set_option linter.unusedVariables false
namespace Go.Proofs.YtenomejgjcpbdaaGreat.X
open Go
section
variable {P : Program} {ρ : Env} {F : FH} {L : List HP} {K : Post} {d : Option Tmp} {ty : TypeId} {pos : String} {af : Array Edge} {g : Option (Nat × Bool)}
end
end Go.Proofs.YtenomejgjcpbdaaGreat.X
set_option linter.unusedSimpArgs false
set_option linter.unusedVariables false
namespace Go.Proofs.YtenomejgjcpbdaaGreat.M
section
variable {ar t : List Int} {rs : Rules} {p r : Int} {k : Nat}
theorem mem_steps2 {s : StepV} (h : s ∈ stepsL ar rs t) : ∃ q k : Nat, q < t.length ∧ k < rs.length ∧ s.1 = q ∧ s.2.1 = k ∧ stepL ar rs t q k = some s.2.2 := by
 unfold stepsL stepsTo at h
 obtain ⟨q, hq, h⟩ := List.mem_flatMap.1 h
 unfold stepsRow at h
 obtain ⟨k, hk, h⟩ := List.mem_flatMap.1 h
 refine ⟨q, k, List.mem_range.1 hq, List.mem_range.1 hk, ?_⟩
 unfold stepOne at h
 cases hx : stepL ar rs t q k with
 | none => rw [hx] at h; cases h
 | some u => rw [hx] at h; obtain rfl := List.mem_singleton.1 h; exact ⟨rfl, rfl, rfl⟩
end
end Go.Proofs.YtenomejgjcpbdaaGreat.M
set_option linter.unusedSimpArgs false
set_option linter.unusedVariables false
namespace Go.Proofs.YtenomejgjcpbdaaGreat.M
section
variable {ar t u a b : List Int} {rs : Rules} {n : Int} {all : List FoundV} {ss xs : List StepV} {s : StepV} {k m : Nat}
theorem endL_snoc : endL t (ss ++ [s]) = s.2.2 := by
 unfold endL
 rw [if_neg (by simp)]
 simp [List.getD]
theorem goOk_app (h1 : goOk ar rs t ss = true) (h2 : goOk ar rs (endL t ss) xs = true) : goOk ar rs t (ss ++ xs) = true := by
 induction ss generalizing t with
 | nil => simpa [endL] using h2
 | cons s r ih =>
  rw [List.cons_append]
  simp only [goOk, Bool.and_eq_true] at h1 ⊢
  refine ⟨h1.1, ih h1.2 ?_⟩
  have : endL t (s :: r) = endL s.2.2 r := by
   unfold endL
   cases r with
   | nil => rfl
   | cons x l => simp
  rwa [this] at h2
theorem goOk_snoc (h1 : goOk ar rs t ss = true) (h2 : stepAtL ar rs (endL t ss) s.1 s.2.1 = some s.2.2) : goOk ar rs t (ss ++ [s]) = true := goOk_app h1 (by simp [goOk, h2])
def StepIn (ar : List Int) (rs : Rules) (all : List FoundV) : Prop := ∀ i, 0 < i → i < all.length → (EL all i).2.2.1 ∈ stepsL ar rs (EL all (EL all i).2.1.toNat).1
theorem StepIn.snoc {d : Int} (h : StepIn ar rs all) (hl : Link all) (hk : k < all.length) (hs : s ∈ stepsL ar rs (EL all k).1) : StepIn ar rs (all ++ [(s.2.2, (k : Int), s, d)]) := by
 intro i h0 hi
 rw [List.length_append, List.length_singleton] at hi
 rcases Nat.lt_or_ge i all.length with g | g
 ·have := hl.2 i h0 g
  rw [EL_snoc g, EL_snoc (by omega)]
  exact h i h0 g
 ·obtain rfl : i = all.length := by omega
  rw [EL_last]
  dsimp only
  rw [show ((k : Int)).toNat = k from by omega, EL_snoc hk]
  exact hs
theorem add_stepIn (k : Nat) (d : Int) : ∀ (ss : List StepV) (all : List FoundV), StepIn ar rs all → Link all → k < all.length → d = (EL all k).2.2.2 → (∀ s ∈ ss, s ∈ stepsL ar rs (EL all k).1) → StepIn ar rs (addGo (k : Int) d ss all).1
 | [], all, h, _, _, _, _ => h
 | s :: r, all, h, hl, hk, hd, hs => by
  rw [addGo]
  split
  ·exact add_stepIn k d r all h hl hk hd (fun x hx => hs x (List.mem_cons_of_mem _ hx))
  ·split
   ·exact h
   ·refine add_stepIn k d r _ (h.snoc hl hk (hs s (by simp))) (hl.snoc hk hd) (by rw [List.length_append]; omega) (by rw [EL_snoc hk]; exact hd) (fun x hx => ?_)
    rw [EL_snoc hk]
    exact hs x (List.mem_cons_of_mem _ hx)
theorem reachGo_stepIn : ∀ (f k : Nat) (all : List FoundV), StepIn ar rs all → Link all → StepIn ar rs (reachGo ar rs n f k all).1
 | 0, k, all, h, _ => h
 | f + 1, k, all, h, hl => by
  rw [reachGo]
  split
  ·rename_i hk
   split
   ·exact reachGo_stepIn f (k + 1) all h hl
   ·have h2 : StepIn ar rs (addGo (k : Int) (EL all k).2.2.2 (stepsL ar rs (EL all k).1) all).1 := add_stepIn k _ _ all h hl hk rfl (fun x hx => hx)
    split
    ·exact reachGo_stepIn f (k + 1) _ h2 (add_link k _ _ all hl hk rfl)
    ·exact h2
  ·exact h
theorem reachL_stepIn : StepIn ar rs (reachL ar rs t n).1 := reachGo_stepIn 60 0 _ (fun i h0 hi => by simp [start0] at hi; omega) Link.start
theorem walkL_succ (h : Link all) (hk : 0 < k) (hl : k < all.length) : walkL all k = walkL all (EL all k).2.1.toNat ++ [(EL all k).2.2.1] := by
 unfold walkL
 rw [backL_succ h hk hl, List.reverse_cons]
theorem walkL_go (hs : sysOk ar rs = true) (ha : AllOk ar all) (hl : Link all) (hi : StepIn ar rs all) : ∀ (f k : Nat), k ≤ f → k < all.length → goOk ar rs (EL all 0).1 (walkL all k) = true ∧ endL (EL all 0).1 (walkL all k) = (EL all k).1
 | 0, k, h1, h2 => by
  obtain rfl : k = 0 := by omega
  exact ⟨rfl, rfl⟩
 | f + 1, k, h1, h2 => by
  rcases Nat.eq_zero_or_pos k with h0 | h0
  ·subst h0; exact ⟨rfl, rfl⟩
  ·have h9 := hl.2 k h0 h2
   obtain ⟨g1, g2⟩ := walkL_go hs ha hl hi f (EL all k).2.1.toNat (by omega) (by omega)
   have g3 := hi k h0 h2
   obtain ⟨q, j, q1, q2, q3, q4, q5⟩ := mem_steps2 g3
   rw [walkL_succ hl h0 h2, endL_snoc]
   refine ⟨goOk_snoc g1 ?_, h9.2.2.2⟩
   rw [g2, q3, q4, stepAt_of (right_iff.2 ⟨hs, ha _ (by omega)⟩) q1 q2, q5]
theorem walkL_ok (hs : sysOk ar rs = true) (ht : termOk ar t = true) (hn : 0 ≤ n ∧ n ≤ 20) (hk : k < (reachL ar rs t n).1.length) :
  walkOkL ar rs t (walkL (reachL ar rs t n).1 k) = true ∧ endL t (walkL (reachL ar rs t n).1 k) = (EL (reachL ar rs t n).1 k).1 ∧ ((walkL (reachL ar rs t n).1 k).length : Int) ≤ n := by
 have h1 := reachL_good (ar := ar) (rs := rs) (t := t) hn.1
 have h2 := walkL_go hs (reachL_ok (n := n) hs ht).2 h1.1 reachL_stepIn k k (Nat.le_refl _) hk
 rw [h1.2.2.2] at h2
 have h3 := walkL_len h1.1 h1.2.2.1 hk
 exact ⟨walkOkL_iff.2 ⟨right_iff.2 ⟨hs, ht⟩, by omega, h2.1⟩, h2.2, h3.2⟩
end
end Go.Proofs.YtenomejgjcpbdaaGreat.M
set_option linter.unusedSimpArgs false
set_option linter.unusedVariables false
namespace Go.Proofs.YtenomejgjcpbdaaGreat.M
section
variable {ar t u f : List Int} {rs : Rules} {ss : List StepL} {st n : Int}
theorem endL_cons' {s : StepL} : endL t (s :: ss) = endL s.2.2 ss := by
 unfold endL
 cases ss with
 | nil => rfl
 | cons a l => simp
end
end Go.Proofs.YtenomejgjcpbdaaGreat.M
set_option linter.unusedSimpArgs false
set_option linter.unusedVariables false
namespace Go.Proofs.YtenomejgjcpbdaaGreat.M
section
variable {ar t f u v w g A R : List Int} {rs : Rules} {p q r : Nat} {ss xs : List StepL}
theorem endN_go (ht : termOk ar t = true) (hp : p < t.length) : endGo ar (t.drop p) 1 = some (endN ar t p - p) := by
 obtain ⟨e, he, _⟩ := endAt_some ht hp
 have hN : endN ar t p = e := by simp [endN, he]
 unfold endAt at he
 cases hg : endGo ar (t.drop p) 1 with
 | none => rw [hg] at he; simp at he
 | some a => rw [hg] at he; simp at he; congr 1; omega
theorem endN_of {e : Nat} (h : endGo ar (t.drop p) 1 = some e) : endN ar t p = p + e := by simp [endN, endAt, h]
theorem putL_eq (h : putL ar t p u = some v) : v = t.take p ++ u ++ t.drop (endN ar t p) := by
 unfold putL at h
 split at h
 ·cases h
 ·cases h; rfl
theorem stepAtL_iff {p r : Int} : stepAtL ar rs t p r = some u ↔ stepAtOk ar rs t p r = true ∧ stepL ar rs t p.toNat r.toNat = some u := by
 unfold stepAtL
 split
 ·rename_i h; exact ⟨fun e => ⟨h, e⟩, fun e => e.2⟩
 ·rename_i h; exact ⟨fun e => (by cases e), fun e => absurd e.1 h⟩
theorem stepAtOk_iff {p r : Int} : stepAtOk ar rs t p r = true ↔ (sysOk ar rs = true ∧ termOk ar t = true) ∧ (0 ≤ p ∧ p < (t.length : Int)) ∧ 0 ≤ r ∧ r < (rs.length : Int) := by
 simp only [stepAtOk, Bool.and_eq_true, decide_eq_true_eq, right_iff, and_assoc]
theorem in_drop (hq : q ≤ f.length) : (A ++ f ++ R).drop (A.length + q) = f.drop q ++ R := by
 rw [List.append_assoc, List.drop_length_add_append, List.drop_append_of_le_length hq]
theorem in_end (hf : termOk ar f = true) (hq : q < f.length) : endN ar (A ++ f ++ R) (A.length + q) = A.length + endN ar f q := by
 have h := endGo_more (b := R) (endN_go hf hq)
 rw [← in_drop (A := A) (by omega)] at h
 have := endN_spec hf hq
 rw [endN_of h]; omega
theorem in_sub (hf : termOk ar f = true) (hq : q < f.length) : sub ar (A ++ f ++ R) (A.length + q) = sub ar f q := by
 have := endN_spec hf hq
 unfold sub
 rw [in_end hf hq, in_drop (by omega), show A.length + endN ar f q - (A.length + q) = endN ar f q - q from by omega, List.take_append_of_le_length (by rw [List.length_drop]; omega)]
theorem in_put (hf : termOk ar f = true) (hq : q < f.length) (h : putL ar f q u = some g) (hl : (A ++ g ++ R).length ≤ 60) : putL ar (A ++ f ++ R) (A.length + q) u = some (A ++ g ++ R) := by
 have he := endN_spec hf hq
 have hg := putL_eq h
 refine putL_some ?_ (by omega)
 rw [in_end hf hq, in_drop (by omega), hg, List.append_assoc A f R, List.take_length_add_append, List.take_append_of_le_length (by omega)]
 simp [List.append_assoc]
theorem in_step (hf : termOk ar f = true) (hq : q < f.length) (h : stepL ar rs f q r = some g) (hl : (A ++ g ++ R).length ≤ 60) : stepL ar rs (A ++ f ++ R) (A.length + q) r = some (A ++ g ++ R) := by
 unfold stepL at h ⊢
 rw [in_sub hf hq]
 split at h
 ·cases h
 ·rename_i b hb
  split at h
  ·cases h
  ·rename_i u hu
   exact in_put hf hq h hl
theorem ins_step (hs : sysOk ar rs = true) (ht : termOk ar t = true) (hp : p < t.length) (hv : putL ar t p f = some v) (hw : putL ar t p g = some w) {q r : Int} (h : stepAtL ar rs f q r = some g) : stepAtL ar rs v (q + (p : Int)) r = some w := by
 obtain ⟨h1, h2⟩ := stepAtL_iff.1 h
 obtain ⟨⟨_, hf⟩, hq, hk⟩ := stepAtOk_iff.1 h1
 have hA : (t.take p).length = p := by rw [List.length_take]; omega
 have hvo := put_ok ht hp hf hv
 have hwl := (termOk_len (put_ok ht hp (right_iff.1 (stepAtL_ok h).1).2 hw)).2
 have e1 := putL_eq hv
 have e2 := putL_eq hw
 have hvl : v.length = p + f.length + (t.drop (endN ar t p)).length := by rw [e1, List.length_append, List.length_append, hA]
 refine stepAtL_iff.2 ⟨stepAtOk_iff.2 ⟨⟨hs, hvo⟩, by omega, hk⟩, ?_⟩
 rw [show (q + (p : Int)).toNat = (t.take p).length + q.toNat from by rw [hA]; omega, e1, e2]
 exact in_step hf (by omega) h2 (by rw [← e2]; exact hwl)
theorem ins_go (hs : sysOk ar rs = true) (ht : termOk ar t = true) (hp : p < t.length) : ∀ (ss xs : List StepL) (f v : List Int), putL ar t p f = some v → goOk ar rs f ss = true → insGo ar t p ss = some xs → goOk ar rs v xs = true ∧ putL ar t p (endL f ss) = some (endL v xs)
 | [], xs, f, v, hv, hg, h => by
  simp [insGo] at h; subst h
  exact ⟨rfl, by simpa [endL] using hv⟩
 | s :: ss, xs, f, v, hv, hg, h => by
  unfold insGo at h
  split at h
  ·cases h
  ·rename_i u hu
   obtain ⟨q, hq, rfl⟩ := Option.map_eq_some_iff.1 h
   simp only [goOk, Bool.and_eq_true, decide_eq_true_eq] at hg ⊢
   obtain ⟨h1, h2⟩ := ins_go hs ht hp ss q s.2.2 u hu hg.2 hq
   exact ⟨⟨ins_step hs ht hp hv hu hg.1, h1⟩, by rw [endL_cons', endL_cons']; exact h2⟩
theorem insR_law (hw : walkOkL ar rs f ss = true) (ht : termOk ar t = true) (hp : p < t.length) (h : (insR ar f ss t p).2.2 = true) :
  walkOkL ar rs (insR ar f ss t p).1 (insR ar f ss t p).2.1 = true ∧ (insR ar f ss t p).2.1.length = ss.length ∧ putL ar t p (endL f ss) = some (endL (insR ar f ss t p).1 (insR ar f ss t p).2.1) ∧ putL ar t p f = some (insR ar f ss t p).1 := by
 unfold insR at h ⊢
 split at h
 ·rename_i v xs hv hx
  obtain ⟨h1, h2, h3⟩ := walkOkL_iff.1 hw
  obtain ⟨hs, hf⟩ := right_iff.1 h1
  obtain ⟨g1, g2⟩ := ins_go hs ht hp ss xs f v hv h3 hx
  have hl := insGo_len ss xs hx
  exact ⟨walkOkL_iff.2 ⟨right_iff.2 ⟨hs, put_ok ht hp hf hv⟩, by show xs.length ≤ 60; omega, g1⟩, hl, g2, hv⟩
 ·cases h
theorem endT_yes (h : walkOkL ar rs f ss = true) : endT ar rs f ss = endL f ss := if_pos h
end
section
variable {ar t f u v w g : List Int} {rs : Rules} {p q r k n : Nat} {ss xs : List StepL} {s b b' : RowL}
abbrev FM (s : RowL) (t : List Int) : List Int := t.flatMap (lk s)
theorem fm_split (k : Nat) : FM s t = FM s (t.take k) ++ FM s (t.drop k) := by rw [← List.flatMap_append, List.take_append_drop]
theorem fm_drop : (FM s t).drop (movedL s t q) = FM s (t.drop q) := by
 rw [fm_split q]; exact List.drop_left
theorem fm_take : (FM s t).take (movedL s t q) = FM s (t.take q) := by
 rw [fm_split q]; exact List.take_left
theorem movedL_add (a c : Nat) : movedL s t (a + c) = movedL s t a + (FM s ((t.drop a).take c)).length := by
 unfold movedL
 rw [List.take_add, List.flatMap_append, List.length_append]
theorem fm_pos (h : t ≠ []) : 1 ≤ (FM s t).length := by
 cases t with
 | nil => exact absurd rfl h
 | cons x l => have := lk_pos (s := s) (n := x); simp only [FM, List.flatMap_cons, List.length_append]; omega
theorem fm_ne (h : t ≠ []) : FM s t ≠ [] := fun e => by have := fm_pos (s := s) h; rw [e] at this; simp at this
theorem fm_lt (h : q < t.length) : movedL s t q < (FM s t).length := by
 have h1 := congrArg List.length (fm_split (s := s) (t := t) q)
 have h2 := fm_pos (s := s) (t := t.drop q) (fun e => by have := congrArg List.length e; simp at this; omega)
 rw [List.length_append] at h1
 show (FM s (t.take q)).length < (FM s t).length
 omega
theorem fm_endGo (hr : RowsOk ar s) (hs : sigOk ar = true) {l : List Int} {e : Nat} (h : endGo ar l n = some e) : endGo ar (FM s l) n = some (FM s (l.take e)).length := by
 have h1 := endGo_le h
 have h2 : Forest ar (l.take e) n := by
  unfold Forest
  rw [endGo_take h, List.length_take]
  congr 1; omega
 have h3 := Forest.fill (fun x hx => lk_forest hr hs x hx) _ _ h2
 have h4 := endGo_more (b := FM s (l.drop e)) h3
 rwa [← fm_split e] at h4
theorem fm_end (hr : RowsOk ar s) (ht : termOk ar t = true) (hq : q < t.length) : endN ar (FM s t) (movedL s t q) = movedL s t (endN ar t q) := by
 have he := endN_spec ht hq
 have h := fm_endGo hr (termOk_sig ht) (endN_go ht hq)
 rw [← fm_drop] at h
 rw [endN_of h, ← movedL_add, show q + (endN ar t q - q) = endN ar t q from by omega]
theorem fm_sub (hr : RowsOk ar s) (ht : termOk ar t = true) (hq : q < t.length) : sub ar (FM s t) (movedL s t q) = FM s (sub ar t q) := by
 have he := endN_spec ht hq
 have h1 : movedL s t (endN ar t q) = movedL s t q + (FM s ((t.drop q).take (endN ar t q - q))).length := by rw [← movedL_add, show q + (endN ar t q - q) = endN ar t q from by omega]
 unfold sub
 rw [fm_end hr ht hq, fm_drop, h1, Nat.add_sub_cancel_left]
 have e := fm_split (s := s) (t := t.drop q) (endN ar t q - q)
 generalize FM s (t.drop q) = X at e ⊢
 rw [e]
 exact List.take_left
theorem map_fm (k : Nat) : (b.map (FM s)).getD k [] = FM s (b.getD k []) := by
 simp only [List.getD_eq_getElem?_getD, List.getElem?_map]
 cases b[k]? <;> rfl
theorem getD_zero_drop {l : List Int} {i : Nat} : l.getD i 0 = (l.drop i).getD 0 0 := by simp [List.getD]
theorem mGo_up (hr : RowsOk ar s) (ht : termOk ar t = true) : ∀ (p : List Int) (i : Nat) (b b' : RowL), mGo ar t p i b = some b' → mGo ar (FM s t) p (movedL s t i) (b.map (FM s)) = some (b'.map (FM s))
 | [], i, b, b', h => by simp [mGo] at h; subst h; rfl
 | n :: p, i, b, b', h => by
  rw [mGo] at h
  split at h
  ·cases h
  ·rename_i hi
   have hi2 : i < t.length := by omega
   have hlt := fm_lt (s := s) hi2
   rw [mGo, if_neg (by omega)]
   split at h
   ·rename_i h0
    rw [if_pos h0]
    split at h
    ·rename_i he
     have hd : (FM s t).getD (movedL s t i) 0 = n := by
      rw [getD_zero_drop, fm_drop, drop_get 0 hi2, FM, List.flatMap_cons, he, lk_sym h0]
      rfl
     rw [if_pos hd]
     have := mGo_up hr ht p (i + 1) b b' h
     rw [movedL_succ hi2, he, lk_sym h0] at this
     exact this
    ·cases h
   ·rename_i h0
    rw [if_neg h0, map_fm, fm_sub hr ht hi2]
    have hne := sub_ne ht hi2
    have hmv : movedL s t i + (FM s (sub ar t i)).length = movedL s t (i + (sub ar t i).length) := by
     rw [movedL_add, sub_length ht hi2]
     rfl
    split at h
    ·rename_i he
     rw [he, if_pos (show FM s [] = [] from rfl), hmv, ← List.map_set]
     exact mGo_up hr ht p _ _ _ h
    ·rename_i he
     split at h
     ·rename_i hq
      rw [if_neg (fm_ne he), hq, if_pos rfl, hmv]
      exact mGo_up hr ht p _ _ _ h
     ·cases h
theorem matchB_up (hr : RowsOk ar s) (ht : termOk ar t = true) {p : List Int} (h : matchB ar p t = some b) : matchB ar p (FM s t) = some (b.map (FM s)) := by
 unfold matchB at h ⊢
 have := mGo_up hr ht p 0 _ _ h
 rw [movedL_zero, List.map_replicate] at this
 exact this
theorem mGo_keep {t : List Int} : ∀ (p : List Int) (i : Nat) (b b' : RowL) (k : Nat), mGo ar t p i b = some b' → b.getD k [] ≠ [] → b'.getD k [] ≠ []
 | [], i, b, b', k, h, hk => by simp [mGo] at h; subst h; exact hk
 | n :: p, i, b, b', k, h, hk => by
  rw [mGo] at h
  split at h
  ·cases h
  ·split at h
   ·split at h
    ·exact mGo_keep p _ _ _ k h hk
    ·cases h
   ·split at h
    ·rename_i he
     refine mGo_keep p _ _ _ k h ?_
     have hne : varIx n ≠ k := fun e => hk (e ▸ he)
     rw [List.getD_eq_getElem?_getD, List.getElem?_set_ne hne, ← List.getD_eq_getElem?_getD]
     exact hk
    ·split at h
     ·exact mGo_keep p _ _ _ k h hk
     ·cases h
theorem mGo_bind {t : List Int} (ht : termOk ar t = true) : ∀ (p : List Int) (i : Nat) (b b' : RowL), (∀ x ∈ p, -24 ≤ x) → b.length = 24 → mGo ar t p i b = some b' → ∀ n ∈ p, n < 0 → b'.getD (varIx n) [] ≠ []
 | [], i, b, b', hp, hb, h, n, hn, h0 => by simp at hn
 | m :: p, i, b, b', hp, hb, h, n, hn, h0 => by
  have hp' : ∀ x ∈ p, -24 ≤ x := fun x hx => hp x (List.mem_cons_of_mem _ hx)
  rw [mGo] at h
  split at h
  ·cases h
  ·rename_i hi
   split at h
   ·rename_i hm
    split at h
    ·rcases List.mem_cons.1 hn with rfl | hn
     ·omega
     ·exact mGo_bind ht p _ _ _ hp' hb h n hn h0
    ·cases h
   ·rename_i hm
    split at h
    ·rename_i he
     rcases List.mem_cons.1 hn with rfl | hn
     ·refine mGo_keep p _ _ _ _ h ?_
      have hv : varIx n < b.length := by have := hp n (by simp); unfold varIx; omega
      rw [List.getD_eq_getElem?_getD, List.getElem?_set_self hv]
      exact sub_ne ht (by omega)
     ·exact mGo_bind ht p _ _ _ hp' (by rw [List.length_set]; exact hb) h n hn h0
    ·rename_i he
     split at h
     ·rcases List.mem_cons.1 hn with rfl | hn
      ·exact mGo_keep p _ _ _ _ h he
      ·exact mGo_bind ht p _ _ _ hp' hb h n hn h0
     ·cases h
theorem matchB_bind (ht : termOk ar t = true) {p : List Int} (hp : ∀ x ∈ p, -24 ≤ x) (h : matchB ar p t = some b) : ∀ n ∈ p, n < 0 → b.getD (varIx n) [] ≠ [] := mGo_bind ht p 0 _ _ hp (by simp) h
theorem fm_fm (h : ∀ n ∈ t, n < 0 → b.getD (varIx n) [] ≠ []) : FM (b.map (FM s)) t = FM s (FM b t) := by
 induction t with
 | nil => rfl
 | cons x l ih =>
  simp only [FM, List.flatMap_cons, List.flatMap_append] at ih ⊢
  rw [ih (fun n hn => h n (List.mem_cons_of_mem _ hn))]
  congr 1
  by_cases h0 : 0 ≤ x
  ·rw [lk_sym h0, lk_sym h0, List.flatMap_cons, List.flatMap_nil, List.append_nil, lk_sym h0]
  ·have hx := h x (by simp) (by omega)
   rw [lk_some (by omega) (by rw [map_fm]; exact fm_ne hx), lk_some (by omega) hx, map_fm]
theorem fillGo_of : ∀ (t acc : List Int), (acc ++ FM s t).length ≤ 60 → fillGo s t acc = some (acc ++ FM s t)
 | [], acc, h => by simp [fillGo]
 | n :: t, acc, h => by
  have e : acc ++ FM s (n :: t) = (acc ++ lk s n) ++ FM s t := by simp [FM]
  rw [e] at h ⊢
  rw [fillGo, if_neg (by rw [List.length_append] at h; omega)]
  exact fillGo_of t _ h
theorem fillL_of (h : (FM s t).length ≤ 60) : fillL s t = some (FM s t) := fillGo_of t [] h
theorem und_step (hr : RowsOk ar s) (hv : fillL s f = some v) (hw : fillL s g = some w) {q r : Int} (h : stepAtL ar rs f q r = some g) : stepAtL ar rs v ((movedL s f q.toNat : Nat) : Int) r = some w := by
 obtain ⟨h1, h2⟩ := stepAtL_iff.1 h
 obtain ⟨⟨hs, hf⟩, hq, hk⟩ := stepAtOk_iff.1 h1
 have hq2 : q.toNat < f.length := by omega
 have hvo := fill_ok hr hf hv
 have hwl := (fillL_len hw).1
 have e1 := fillL_flat hv
 have e2 := fillL_flat hw
 have hlt := fm_lt (s := s) hq2
 refine stepAtL_iff.2 ⟨stepAtOk_iff.2 ⟨⟨hs, hvo⟩, by rw [e1]; exact ⟨by omega, by exact_mod_cast hlt⟩, hk⟩, ?_⟩
 rw [show (((movedL s f q.toNat : Nat) : Int)).toNat = movedL s f q.toNat from by omega]
 have hR := ruleOk_iff.1 ((sysOk_iff.1 hs).2.2 r.toNat (by omega))
 unfold stepL at h2 ⊢
 split at h2
 ·cases h2
 ·rename_i b hb
  split at h2
  ·cases h2
  ·rename_i u hu
   have e3 := putL_eq h2
   have e4 := fillL_flat hu
   have hso := sub_ok hf hq2
   have hb2 := matchB_up hr hso hb
   have hbd := matchB_bind hso (fun x hx => (termOk_iff.1 hR.left).ge x hx) hb
   have e5 : FM (b.map (FM s)) (rs.getD r.toNat ([], [])).2 = FM s u := by rw [fm_fm (fun n hn h0 => hbd n (hR.vars n hn h0) h0), e4]
   have e6 : w = FM s (f.take q.toNat) ++ FM s u ++ FM s (f.drop (endN ar f q.toNat)) := by rw [e2, e3]; simp only [FM, List.flatMap_append]
   have hul : (FM s u).length ≤ 60 := by rw [e6] at hwl; simp only [List.length_append] at hwl; omega
   rw [e1, fm_sub hr hf hq2, hb2]
   dsimp only
   rw [fillL_of (by rw [e5]; exact hul), e5]
   dsimp only
   refine putL_some ?_ (by omega)
   rw [fm_end hr hf hq2, fm_drop, fm_take, e6]
theorem und_go (hr : RowsOk ar s) : ∀ (ss xs : List StepL) (f v : List Int), fillL s f = some v → goOk ar rs f ss = true → undGo s f ss = some xs → goOk ar rs v xs = true ∧ fillL s (endL f ss) = some (endL v xs)
 | [], xs, f, v, hv, hg, h => by
  simp [undGo] at h; subst h
  exact ⟨rfl, by simpa [endL] using hv⟩
 | x :: ss, xs, f, v, hv, hg, h => by
  unfold undGo at h
  split at h
  ·cases h
  ·rename_i u hu
   obtain ⟨q, hq, rfl⟩ := Option.map_eq_some_iff.1 h
   simp only [goOk, Bool.and_eq_true, decide_eq_true_eq] at hg ⊢
   obtain ⟨h1, h2⟩ := und_go hr ss q x.2.2 u hu hg.2 hq
   exact ⟨⟨und_step hr hv hu hg.1, h1⟩, by rw [endL_cons', endL_cons']; exact h2⟩
theorem undB_law (h : (undB ar rs f ss s).2.2 = true) :
  walkOkL ar rs f ss = true ∧ walkOkL ar rs (undB ar rs f ss s).1 (undB ar rs f ss s).2.1 = true ∧ (undB ar rs f ss s).2.1.length = ss.length ∧ fillL s f = some (undB ar rs f ss s).1 ∧ fillL s (endL f ss) = some (endL (undB ar rs f ss s).1 (undB ar rs f ss s).2.1) := by
 by_cases hc : walkOkL ar rs f ss = true ∧ substOk ar s = true
 ·unfold undB at h ⊢
  rw [if_pos hc] at h ⊢
  split at h
  ·rename_i v xs hv hx
   obtain ⟨h1, h2, h3⟩ := walkOkL_iff.1 hc.1
   obtain ⟨hs, hf⟩ := right_iff.1 h1
   have hr := substOk_rows hc.2
   obtain ⟨g1, g2⟩ := und_go (rs := rs) hr ss xs f v hv h3 hx
   have hl := undGo_len f ss xs hx
   exact ⟨hc.1, walkOkL_iff.2 ⟨right_iff.2 ⟨hs, fill_ok hr hf hv⟩, by show xs.length ≤ 60; omega, g1⟩, hl, hv, g2⟩
  ·cases h
 ·rw [undB_no hc] at h; cases h
end
section
variable {ar t f : List Int} {rs : Rules} {ss xs : List StepL} {k : Nat}
end
section
variable {f : List Int} {ss : List StepL} {s : StepL} {k : Nat}
def smallT (ss : List StepL) : Prop := ∀ i, (ss.getD i (0, 0, [])).2.2.length ≤ 2000
theorem smallT.nil : smallT [] := fun i => by simp
theorem smallT.snoc (h : smallT ss) (hs : s.2.2.length ≤ 2000) : smallT (ss ++ [s]) := fun i => by
 rcases Nat.lt_trichotomy i ss.length with g | g | g
 ·rw [List.getD_eq_getElem?_getD, List.getElem?_append_left g, ← List.getD_eq_getElem?_getD]; exact h i
 ·subst g; simpa [List.getD_eq_getElem?_getD] using hs
 ·rw [List.getD_eq_getElem?_getD, List.getElem?_eq_none (by simp; omega)]; simp
theorem smallT.set (h : smallT ss) (hs : s.2.2.length ≤ 2000) (k : Nat) : smallT (ss.set k s) := fun i => by
 by_cases e : k = i
 ·subst e
  rcases Nat.lt_or_ge k ss.length with g | g
  ·simpa [List.getD_eq_getElem?_getD, g] using hs
  ·rw [List.set_eq_of_length_le g]; exact h k
 ·rw [List.getD_eq_getElem?_getD, List.getElem?_set_ne e, ← List.getD_eq_getElem?_getD]; exact h i
theorem smallT.take (h : smallT ss) (k : Nat) : smallT (ss.take k) := fun i => by
 rcases Nat.lt_or_ge i k with g | g
 ·rw [List.getD_eq_getElem?_getD, List.getElem?_take, if_pos g, ← List.getD_eq_getElem?_getD]; exact h i
 ·rw [List.getD_eq_getElem?_getD, List.getElem?_take, if_neg (by omega)]; simp
theorem smallT.drop (h : smallT ss) (k : Nat) : smallT (ss.drop k) := fun i => by
 rw [List.getD_eq_getElem?_getD, List.getElem?_drop, ← List.getD_eq_getElem?_getD]; exact h _
end
end Go.Proofs.YtenomejgjcpbdaaGreat.M
set_option linter.unusedSimpArgs false
set_option linter.unusedVariables false
namespace Go.Proofs.YtenomejgjcpbdaaGreat.M
section
variable {ar t p : List Int} {g g' b : RowL}
theorem getD_set_self {b : RowL} {k : Nat} {x : List Int} (h : k < b.length) : (b.set k x).getD k [] = x := by
 rw [List.getD_eq_getElem?_getD, List.getElem?_set_self h]; rfl
theorem getD_set_other {b : RowL} {k j : Nat} {x : List Int} (h : k ≠ j) : (b.set k x).getD j [] = b.getD j [] := by
 rw [List.getD_eq_getElem?_getD, List.getElem?_set_ne h, ← List.getD_eq_getElem?_getD]
theorem mGo_sound (ht : termOk ar t = true) : ∀ (P : List Int) (n i e : Nat) (g g' : RowL), endGo ar P n = some P.length → endGo ar (t.drop i) n = some e → (∀ x ∈ P, -24 ≤ x) → g.length = 24 → mGo ar t P i g = some g' →
  FM g' P = (t.drop i).take e ∧ ∀ k, g.getD k [] ≠ [] → g'.getD k [] = g.getD k []
 | [], n, i, e, g, g', hP, hE, hr, hl, h => by
  simp [mGo] at h; subst h
  cases n with
  | zero => simp [endGo] at hE; subst hE; exact ⟨by simp [FM], fun k _ => rfl⟩
  | succ n => simp [endGo] at hP
 | x :: P, n, i, e, g, g', hP, hE, hr, hl, h => by
  obtain ⟨m, rfl, hx⟩ := Forest.lt (ar := ar) (r := P) (x := x) hP
  have hF := (Forest.cons hx).1 hP
  have hr' : ∀ y ∈ P, -24 ≤ y := fun y hy => hr y (List.mem_cons_of_mem _ hy)
  rw [mGo] at h
  split at h
  ·cases h
  ·rename_i hi
   have hi2 : i < t.length := by omega
   split at h
   ·rename_i h0
    split at h
    ·rename_i he
     rw [endGo_step (show 0 < m + 1 by omega) hi2 (by rw [he]; exact hx), he, show m + 1 - 1 = m from rfl] at hE
     cases hq : endGo ar (t.drop (i + 1)) (m + (arity ar x).toNat) with
     | none => rw [hq] at hE; simp at hE
     | some e1 =>
      rw [hq] at hE; simp at hE; subst hE
      obtain ⟨h1, h2⟩ := mGo_sound ht P _ (i + 1) e1 g g' hF hq hr' hl h
      refine ⟨?_, h2⟩
      rw [drop_get 0 hi2, List.take_succ_cons, he, ← h1, FM, List.flatMap_cons, lk_sym h0]
      rfl
    ·cases h
   ·rename_i h0
    rw [arity_var (by omega), show m + (0 : Int).toNat = m from rfl] at hF
    rw [Nat.add_comm m 1] at hE
    obtain ⟨e1, e2, h1, h2, rfl⟩ := endGo_split hE
    have hN : endN ar t i = i + e1 := endN_of h1
    have hS : sub ar t i = (t.drop i).take e1 := by unfold sub; rw [hN, Nat.add_sub_cancel_left]
    have hSl : (sub ar t i).length = e1 := by rw [sub_length ht hi2, hN, Nat.add_sub_cancel_left]
    have hne := sub_ne ht hi2
    have hv : varIx x < 24 := by have := hr x (by simp); unfold varIx; omega
    rw [List.drop_drop] at h2
    have fin : ∀ (g' : RowL), g'.getD (varIx x) [] = sub ar t i → FM g' P = (t.drop (i + e1)).take e2 → FM g' (x :: P) = (t.drop i).take (e1 + e2) := by
     intro g' h3 h4
     rw [FM, List.flatMap_cons, lk_some (by omega) (by rw [h3]; exact hne), h3, hS, List.take_add, List.drop_drop, ← h4]
    split at h
    ·rename_i he
     rw [hSl] at h
     obtain ⟨h3, h4⟩ := mGo_sound ht P m (i + e1) e2 _ g' hF h2 hr' (by rw [List.length_set]; exact hl) h
     refine ⟨fin g' ?_ h3, fun k hk => ?_⟩
     ·have := h4 (varIx x) (by rw [getD_set_self (by omega)]; exact hne)
      rw [this, getD_set_self (by omega)]
     ·have hkx : varIx x ≠ k := fun e => hk (e ▸ he)
      have := h4 k (by rw [getD_set_other hkx]; exact hk)
      rw [this, getD_set_other hkx]
    ·rename_i he
     split at h
     ·rename_i hq
      rw [hSl] at h
      obtain ⟨h3, h4⟩ := mGo_sound ht P m (i + e1) e2 g g' hF h2 hr' hl h
      exact ⟨fin g' (by rw [h4 _ he, hq]) h3, h4⟩
     ·cases h
theorem match_fm (hp : termOk ar p = true) (ht : termOk ar t = true) (h : matchB ar p t = some b) : FM b p = t := by
 have hT := termOk_iff.1 ht
 have hP := termOk_iff.1 hp
 have := (mGo_sound ht p 1 0 t.length _ b hP.whole (by rw [List.drop_zero]; exact hT.whole) hP.ge (by simp) h).1
 rwa [List.drop_zero, List.take_length] at this
theorem match_fill (hp : termOk ar p = true) (ht : termOk ar t = true) (h : (matchB ar p t).isSome = true) : fillL (matchP ar p t) p = some t := by
 obtain ⟨b, hb⟩ := Option.isSome_iff_exists.1 h
 have e := match_fm hp ht hb
 have : matchP ar p t = plainL b := by rw [matchP, hb]; rfl
 rw [this, fillL_plain, fillL_of (by rw [e]; exact (termOk_len ht).2), e]
theorem matchP_ok (ht : termOk ar t = true) : substOk ar (matchP ar p t) = true := by
 refine substOk_iff.2 ⟨termOk_sig ht, matchP_len.1, fun i _ => ?_⟩
 cases hb : matchB ar p t with
 | none => left; rw [matchP, hb]; simp
 | some b =>
  rw [matchP, hb]
  show (plainL b).getD i [] = [] ∨ termOk ar ((plainL b).getD i []) = true
  rw [plainL_get]
  split
  ·exact .inl rfl
  ·exact matchB_ok ht hb i
end
section
variable {ar t f : List Int} {rs : Rules} {n : Int} {all : List FoundV} {ss ys : List StepV} {p many : Int} {s : RowL}
theorem loop0_law (hs : sysOk ar rs = true) (ht : termOk ar t = true) (hn : 0 ≤ n ∧ n ≤ 20) (h : (loop0 ar rs t (reachL ar rs t n).1).2.2.2.2 = true) :
  loopOkL ar rs (loop0 ar rs t (reachL ar rs t n).1).1 (loop0 ar rs t (reachL ar rs t n).1).2.1 (loop0 ar rs t (reachL ar rs t n).1).2.2.1 (loop0 ar rs t (reachL ar rs t n).1).2.2.2.1 = true ∧ ((loop0 ar rs t (reachL ar rs t n).1).2.1.length : Int) ≤ n + 1 := by
 unfold loop0 at h ⊢
 split at h
 ·rename_i hl
  rw [if_pos hl]
  obtain ⟨h1, h2⟩ := badG_lt ([], 0, (0, 0, []), 0) hl
  generalize hk : (loopI ar rs t (reachL ar rs t n).1).toNat = k
  have hk1 : k < (reachL ar rs t n).1.length := by rw [← hk]; exact h1
  have h3 : 0 ≤ nextI ar t (stepsL ar rs (EL (reachL ar rs t n).1 k).1) := by
   have := of_decide_eq_false h2
   rw [← hk]
   show 0 ≤ nextI ar t (stepsL ar rs ((reachL ar rs t n).1.getD (badG (fun x => decide (nextI ar t (stepsL ar rs x.1) < 0)) (reachL ar rs t n).1).toNat ([], 0, (0, 0, []), 0)).1)
   omega
  obtain ⟨h4, h5⟩ := badG_lt ((0 : Int), (0 : Int), ([] : List Int)) h3
  generalize hq : (nextI ar t (stepsL ar rs (EL (reachL ar rs t n).1 k).1)).toNat = q
  have hq1 : q < (stepsL ar rs (EL (reachL ar rs t n).1 k).1).length := by rw [← hq]; exact h4
  have h6 : 0 ≤ instI ar t ((stepsL ar rs (EL (reachL ar rs t n).1 k).1).getD q (0, 0, [])).2.2 := by
   have := of_decide_eq_false h5
   rw [← hq]
   show 0 ≤ instI ar t ((stepsL ar rs (EL (reachL ar rs t n).1 k).1).getD (badG (fun s => decide (instI ar t s.2.2 < 0)) (stepsL ar rs (EL (reachL ar rs t n).1 k).1)).toNat (0, 0, [])).2.2
   omega
  have hmem : (stepsL ar rs (EL (reachL ar rs t n).1 k).1).getD q (0, 0, []) ∈ stepsL ar rs (EL (reachL ar rs t n).1 k).1 := by
   rw [List.getD_eq_getElem?_getD, List.getElem?_eq_getElem hq1]; exact List.getElem_mem hq1
  have hko := (reachL_ok (n := n) hs ht).2 k hk1
  have hso := steps_ok hs hko hq1
  generalize (stepsL ar rs (EL (reachL ar rs t n).1 k).1).getD q (0, 0, []) = s at h6 hmem hso
  obtain ⟨w1, w2, w3⟩ := walkL_ok hs ht hn hk1
  obtain ⟨a, j, q1, q2, q3, q4, q5⟩ := mem_steps2 hmem
  have hst : stepAtL ar rs (EL (reachL ar rs t n).1 k).1 s.1 s.2.1 = some s.2.2 := by rw [q3, q4, stepAt_of (right_iff.2 ⟨hs, hko⟩) q1 q2, q5]
  have hgo := goOk_snoc (walkOkL_iff.1 w1).2.2 (by rw [w2]; exact hst)
  obtain ⟨i1, i2⟩ := badG_lt (0 : Nat) h6
  have i3 : (matchB ar t (sub ar s.2.2 (instI ar t s.2.2).toNat)).isSome = true := by
   rw [List.length_range] at i1
   rw [range_getD i1] at i2
   unfold instI
   simpa using i2
  have i4 : (instI ar t s.2.2).toNat < s.2.2.length := by rw [List.length_range] at i1; exact i1
  refine ⟨loopOkL_iff.2 ⟨by show (walkL _ k ++ [s]).length ≠ 0; simp, ?_, ?_, ?_, ?_⟩, ?_⟩
  ·refine walkOkL_iff.2 ⟨(walkOkL_iff.1 w1).1, ?_, hgo⟩
   show (walkL _ k ++ [s]).length ≤ 60
   rw [List.length_append, List.length_singleton]; omega
  ·show posOk ar (endL t (walkL _ k ++ [s])) (instI ar t s.2.2) = true
   rw [endL_snoc]
   exact posOk_iff.2 ⟨hso, h6, by omega⟩
  ·exact matchP_ok (sub_ok hso i4)
  ·show fillL (instS ar t s.2.2) t = some (sub ar (endL t (walkL _ k ++ [s])) (instI ar t s.2.2).toNat)
   rw [endL_snoc]
   exact match_fill ht (sub_ok hso i4) i3
  ·show (((walkL (reachL ar rs t n).1 k ++ [s]).length : Nat) : Int) ≤ n + 1
   rw [List.length_append, List.length_singleton]; omega
 ·cases h
theorem loopF_law (h : (loopF ar rs t n).2.2.2.2 = true) : loopOkL ar rs (loopF ar rs t n).1 (loopF ar rs t n).2.1 (loopF ar rs t n).2.2.1 (loopF ar rs t n).2.2.2.1 = true ∧ ((loopF ar rs t n).2.1.length : Int) ≤ n := by
 unfold loopF at h ⊢
 split at h
 ·rename_i hc
  rw [if_pos hc]
  have := loop0_law hc.1.1 hc.1.2 (n := n - 1) (by omega) h
  exact ⟨this.1, by omega⟩
 ·cases h
theorem firstF_sys (h : (firstF ar rs n).2.2.2.2 = true) : sysOk ar rs = true ∧ 1 ≤ n ∧ n ≤ 20 := by
 unfold firstF at h
 split at h
 ·assumption
 ·cases h
theorem firstF_law (h : (firstF ar rs n).2.2.2.2 = true) : loopOkL ar rs (firstF ar rs n).1 (firstF ar rs n).2.1 (firstF ar rs n).2.2.1 (firstF ar rs n).2.2.2.1 = true ∧ ((firstF ar rs n).2.1.length : Int) ≤ n := by
 unfold firstF at h ⊢
 split at h
 ·rename_i hc
  rw [if_pos hc]
  split at h
  ·rename_i hi
   rw [if_pos hi]
   exact loopF_law h
  ·cases h
 ·cases h
theorem loopF_none (h : (loopF ar rs t n).2.2.2.2 = false) : (loopF ar rs t n).2.1 = [] := by
 unfold loopF at h ⊢
 split
 ·rename_i hc
  rw [if_pos hc] at h
  unfold loop0 at h ⊢
  split
  ·rename_i hl; rw [if_pos hl] at h; cases h
  ·rfl
 ·rfl
theorem firstF_noloop (h : (firstF ar rs n).2.2.2.2 = false) : (firstF ar rs n).2.1 = [] := by
 unfold firstF at h ⊢
 split
 ·rename_i hc
  rw [if_pos hc] at h
  split
  ·rename_i hi; rw [if_pos hi] at h; exact loopF_none h
  ·rfl
 ·rfl
theorem withinF_law (h : (firstF ar rs n).2.2.2.2 = true) : 1 ≤ withinF ar rs n ∧ withinF ar rs n ≤ n := by
 have hc := firstF_sys h
 have key : 0 ≤ withinI ar rs n ∧ withinI ar rs n < n := by
  unfold withinI
  by_cases hb : 0 ≤ badG (fun k : Nat => !(firstF ar rs ((k : Int) + 1)).2.2.2.2) (List.range n.toNat)
  ·have := (badG_lt 0 hb).1
   rw [List.length_range] at this
   exact ⟨hb, by omega⟩
  ·exfalso
   apply hb
   unfold badG
   split
   ·omega
   ·rename_i he
    rw [List.findIdx?_eq_none_iff] at he
    have h9 := he (n.toNat - 1) (List.mem_range.2 (by omega))
    have e : (((n.toNat - 1 : Nat) : Int) + 1) = n := by omega
    simp only [e, h] at h9
    simp at h9
 unfold withinF
 rw [if_pos hc]
 omega
def againGo (ar : List Int) (rs : Rules) (f : List Int) (ss : List StepV) (p : Int) (s : RowL) : Nat → List StepV → Option (List StepV)
 | 0, ys => some ys
 | m + 1, ys => if (undB ar rs f ys s).2.2 = true then
   if (insR ar (undB ar rs f ys s).1 (undB ar rs f ys s).2.1 (endL f ss) p.toNat).2.2 = true then
    if (joinW f ss (insR ar (undB ar rs f ys s).1 (undB ar rs f ys s).2.1 (endL f ss) p.toNat).1 (insR ar (undB ar rs f ys s).1 (undB ar rs f ys s).2.1 (endL f ss) p.toNat).2.1).2.2 = true then
     againGo ar rs f ss p s m (joinW f ss (insR ar (undB ar rs f ys s).1 (undB ar rs f ys s).2.1 (endL f ss) p.toNat).1 (insR ar (undB ar rs f ys s).1 (undB ar rs f ys s).2.1 (endL f ss) p.toNat).2.1).2.1
    else none
   else none
  else none
def againOk (ar : List Int) (rs : Rules) (f : List Int) (ss : List StepV) (p : Int) (s : RowL) (many : Int) : Prop := (sysOk ar rs && loopOkL ar rs f ss p s) = true ∧ 1 ≤ many ∧ many ≤ 60 ∧ many * (ss.length : Int) ≤ 60
instance : Decidable (againOk ar rs f ss p s many) := by unfold againOk; infer_instance
def againF (ar : List Int) (rs : Rules) (f : List Int) (ss : List StepV) (p : Int) (s : RowL) (many : Int) : WalkV :=
 if againOk ar rs f ss p s many then (match againGo ar rs f ss p s (many - 1).toNat ss with | some ys => (f, ys, true) | none => ([], [], false)) else ([], [], false)
theorem againF_no (h : ¬ againOk ar rs f ss p s many) : againF ar rs f ss p s many = ([], [], false) := if_neg h
theorem againF_none (h : againGo ar rs f ss p s (many - 1).toNat ss = none) : againF ar rs f ss p s many = ([], [], false) := by
 unfold againF
 rw [h]
 split <;> rfl
theorem againF_yes (h : againOk ar rs f ss p s many) (h2 : againGo ar rs f ss p s (many - 1).toNat ss = some ys) : againF ar rs f ss p s many = (f, ys, true) := by
 unfold againF
 rw [if_pos h, h2]
section
variable {m : Nat}
theorem again_und (h : (undB ar rs f ys s).2.2 = false) : againGo ar rs f ss p s (m + 1) ys = none := by
 rw [againGo, if_neg (by rw [h]; simp)]
theorem again_ins (h : (undB ar rs f ys s).2.2 = true) (h2 : (insR ar (undB ar rs f ys s).1 (undB ar rs f ys s).2.1 (endL f ss) p.toNat).2.2 = false) : againGo ar rs f ss p s (m + 1) ys = none := by
 rw [againGo, if_pos h, if_neg (by rw [h2]; simp)]
theorem again_join (h : (undB ar rs f ys s).2.2 = true) (h2 : (insR ar (undB ar rs f ys s).1 (undB ar rs f ys s).2.1 (endL f ss) p.toNat).2.2 = true)
  (h3 : (joinW f ss (insR ar (undB ar rs f ys s).1 (undB ar rs f ys s).2.1 (endL f ss) p.toNat).1 (insR ar (undB ar rs f ys s).1 (undB ar rs f ys s).2.1 (endL f ss) p.toNat).2.1).2.2 = false) : againGo ar rs f ss p s (m + 1) ys = none := by
 rw [againGo, if_pos h, if_pos h2, if_neg (by rw [h3]; simp)]
theorem again_next (h : (undB ar rs f ys s).2.2 = true) (h2 : (insR ar (undB ar rs f ys s).1 (undB ar rs f ys s).2.1 (endL f ss) p.toNat).2.2 = true)
  (h3 : (joinW f ss (insR ar (undB ar rs f ys s).1 (undB ar rs f ys s).2.1 (endL f ss) p.toNat).1 (insR ar (undB ar rs f ys s).1 (undB ar rs f ys s).2.1 (endL f ss) p.toNat).2.1).2.2 = true) :
  againGo ar rs f ss p s (m + 1) ys = againGo ar rs f ss p s m (joinW f ss (insR ar (undB ar rs f ys s).1 (undB ar rs f ys s).2.1 (endL f ss) p.toNat).1 (insR ar (undB ar rs f ys s).1 (undB ar rs f ys s).2.1 (endL f ss) p.toNat).2.1).2.1 := by
 rw [againGo, if_pos h, if_pos h2, if_pos h3]
theorem joinW_law {g : List Int} {xs zs : List StepV} (hx : walkOkL ar rs f xs = true) (hz : walkOkL ar rs g zs = true) (h : (joinW f xs g zs).2.2 = true) :
  (joinW f xs g zs).1 = f ∧ walkOkL ar rs f (joinW f xs g zs).2.1 = true ∧ (joinW f xs g zs).2.1.length = xs.length + zs.length := by
 unfold joinW at h ⊢
 split at h
 ·rename_i hc
  rw [if_pos hc]
  obtain ⟨x1, x2, x3⟩ := walkOkL_iff.1 hx
  obtain ⟨z1, z2, z3⟩ := walkOkL_iff.1 hz
  refine ⟨rfl, walkOkL_iff.2 ⟨x1, ?_, goOk_app x3 (by rw [hc.1]; exact z3)⟩, List.length_append⟩
  show (xs ++ zs).length ≤ 60
  rw [List.length_append]; exact hc.2
 ·cases h
theorem round_law (hl : loopOkL ar rs f ss p s = true) (hy : walkOkL ar rs f ys = true) (h : (undB ar rs f ys s).2.2 = true) :
  walkOkL ar rs (undB ar rs f ys s).1 (undB ar rs f ys s).2.1 = true ∧ (undB ar rs f ys s).2.1.length = ys.length ∧ termOk ar (endL f ss) = true ∧ p.toNat < (endL f ss).length ∧
  ((insR ar (undB ar rs f ys s).1 (undB ar rs f ys s).2.1 (endL f ss) p.toNat).2.2 = true → walkOkL ar rs (insR ar (undB ar rs f ys s).1 (undB ar rs f ys s).2.1 (endL f ss) p.toNat).1 (insR ar (undB ar rs f ys s).1 (undB ar rs f ys s).2.1 (endL f ss) p.toNat).2.1 = true ∧
   (insR ar (undB ar rs f ys s).1 (undB ar rs f ys s).2.1 (endL f ss) p.toNat).2.1.length = ys.length) := by
 obtain ⟨_, l2, l3, _, _⟩ := loopOkL_iff.1 hl
 obtain ⟨u1, u2, u3, u4, u5⟩ := undB_law h
 obtain ⟨p1, p2, p3⟩ := posOk_iff.1 l3
 refine ⟨u2, u3, p1, by omega, fun hi => ?_⟩
 obtain ⟨i1, i2, _⟩ := insR_law u2 p1 (by omega) hi
 exact ⟨i1, by omega⟩
theorem againGo_law (hl : loopOkL ar rs f ss p s = true) : ∀ (m k : Nat) (ys zs : List StepV), walkOkL ar rs f ys = true → ys.length = k * ss.length → againGo ar rs f ss p s m ys = some zs → walkOkL ar rs f zs = true ∧ zs.length = (k + m) * ss.length
 | 0, k, ys, zs, hy, hk, h => by simp [againGo] at h; subst h; exact ⟨hy, hk⟩
 | m + 1, k, ys, zs, hy, hk, h => by
  cases h1 : (undB ar rs f ys s).2.2 with
  | false => rw [again_und h1] at h; cases h
  | true =>
   cases h2 : (insR ar (undB ar rs f ys s).1 (undB ar rs f ys s).2.1 (endL f ss) p.toNat).2.2 with
   | false => rw [again_ins h1 h2] at h; cases h
   | true =>
    cases h3 : (joinW f ss (insR ar (undB ar rs f ys s).1 (undB ar rs f ys s).2.1 (endL f ss) p.toNat).1 (insR ar (undB ar rs f ys s).1 (undB ar rs f ys s).2.1 (endL f ss) p.toNat).2.1).2.2 with
    | false => rw [again_join h1 h2 h3] at h; cases h
    | true =>
     rw [again_next h1 h2 h3] at h
     obtain ⟨_, _, _, _, r5⟩ := round_law hl hy h1
     obtain ⟨i1, i2⟩ := r5 h2
     obtain ⟨_, j2, j3⟩ := joinW_law (loopOkL_iff.1 hl).2.1 i1 h3
     have := againGo_law hl m (k + 1) _ zs j2 (by rw [j3, i2, hk, Nat.add_mul, Nat.one_mul, Nat.add_comm]) h
     exact ⟨this.1, by rw [this.2]; congr 1; omega⟩
theorem againF_law (h : (againF ar rs f ss p s many).2.2 = true) : walkOkL ar rs (againF ar rs f ss p s many).1 (againF ar rs f ss p s many).2.1 = true ∧ ((againF ar rs f ss p s many).2.1.length : Int) = many * (ss.length : Int) ∧ (againF ar rs f ss p s many).1 = f := by
 unfold againF at h ⊢
 split at h
 ·rename_i hc
  rw [if_pos hc]
  split at h
  ·rename_i zs hz
   have hl : loopOkL ar rs f ss p s = true := by have := hc.1; simp only [Bool.and_eq_true] at this; exact this.2
   have := againGo_law hl (many - 1).toNat 1 ss zs (loopOkL_iff.1 hl).2.1 (by omega) hz
   refine ⟨this.1, ?_, rfl⟩
   show ((zs.length : Nat) : Int) = many * (ss.length : Int)
   rw [this.2, show 1 + (many - 1).toNat = many.toNat from by have := hc.2.1; omega]
   have h0 := hc.2.1
   rw [Int.natCast_mul, Int.toNat_of_nonneg (by omega)]
  ·cases h
 ·cases h
theorem againF_one (hs : sysOk ar rs = true) (hl : loopOkL ar rs f ss p s = true) (hn : ss.length ≤ 60) : (againF ar rs f ss p s 1).2.2 = true := by
 have : againOk ar rs f ss p s 1 := ⟨by rw [hs, hl]; rfl, by omega, by omega, by omega⟩
 rw [againF_yes this (ys := ss) rfl]
end
end
end Go.Proofs.YtenomejgjcpbdaaGreat.M
set_option linter.unusedSimpArgs false
set_option linter.unusedVariables false
namespace Go.Proofs.YtenomejgjcpbdaaGreat.X
open Go Go.WideShapes Go.ChangeShapes Go.RowKit
def fhOf (w : World) : FH := ⟨fun b => w.heap[b]?, w.os, w.output, w.tape⟩
theorem holds_fhOf (w : World) : Holds (fhOf w) [] w := ⟨rfl, rfl, rfl, fun _ _ h => h, [], rfl, List.nodup_nil, fun p hp => absurd hp (by simp)⟩
theorem cell_fhOf (w : World) (a : Addr) : (fhOf w).cell? a = w.cell? a := by
 unfold FH.cell? World.cell? fhOf
 rfl
theorem below_of_holds {w w' : World} {F' : FH} {L' : List HP} (le : fhOf w ≤ F') (h : Holds F' L' w') : Below w.heap.size w w' := by
 have key : ∀ k o, w.heap[k]? = some o → w'.heap[k]? = some o := fun k o hk => h.cells k o (le.cells k o hk)
 refine ⟨h.os.trans le.os, h.tape.trans le.tape, h.output.trans le.output, ?_, fun k hk => ?_⟩
 ·rcases Nat.eq_zero_or_pos w.heap.size with h0 | h0
  ·omega
  ·have h1 : w.heap[w.heap.size - 1]? = some (w.heap[w.heap.size - 1]'(by omega)) := Array.getElem?_eq_getElem (by omega)
   have h2 := (Array.getElem?_eq_some_iff.1 (key _ _ h1)).1
   omega
 ·have h1 : w.heap[k]? = some (w.heap[k]'hk) := Array.getElem?_eq_getElem hk
  rw [h1]
  exact key _ _ h1
def Opens (P : Program) (t : TypeId) {α : Type} (R : FH → List Value → α → Prop) (B : α → Prop) : Prop :=
 ∀ (H : Type) (enc : TypeId × Value → H) (w : World) (base : Nat) (spare : Nat → Bool) (held : Bool) (fuel : Nat) (cs : List Value) (x : DataW H × List MemPlace),
  DataW.trod enc P w base spare held fuel t cs = some x → ∃ a, R (fhOf w) cs a ∧ B a
variable {P : Program} {t e : TypeId}
theorem opens_slice {α : Type} {R : FH → List Value → α → Prop} {B : α → Prop} {s : Nat} (d : α) (ht : P.underlying t = some (.slice e)) (hc : P.cellsOf e = s) (ho : Opens P e R B) :
  Opens P t (fun F cs (xs : List α) => ∃ v, cs = [v] ∧ SlOf s R d F v xs) (fun xs => xs.length ≤ 9223372036854775807 ∧ ∀ i, i < xs.length → B (xs.getD i d)) := by
 intro H enc w base spare held fuel cs x h
 rcases Go.Deep.open_slice ht h with ⟨rfl, _⟩ | ⟨a, len, cap, m, n, D, Pl, rfl, hb, hl, hm, hmm, _, hx⟩
 ·exact ⟨[], ⟨_, rfl, [], ⟨by simp, none, 0, rfl, by simp, fun _ => rfl, fun a h => by cases h⟩, fun i hi => by simp at hi⟩, by simp, fun i hi => by simp at hi⟩
 ·have hlm : len ≤ m := by rw [hmm]; split <;> omega
  rw [hc] at hx
  have each : ∀ i, i < len → ∃ q : α, ∃ cs' : List Value, cs'.length = s ∧ (∀ r, r < s → w.cell? (a.add (i * s + r)) = cs'[r]?) ∧ R (fhOf w) cs' q ∧ B q := by
   intro i hi
   obtain ⟨cs', h1, h2⟩ := hx i (by omega)
   obtain ⟨_, hlen, hcell⟩ := World.cells?_some h1
   obtain ⟨q, hq, hbq⟩ := ho H enc w base spare held n cs' _ h2
   exact ⟨q, cs', hlen, fun r hr => by rw [← hcell r hr, add_add], hq, hbq⟩
  have ⟨q, hq⟩ : ∃ q : Nat → α, ∀ i, i < len → ∃ cs' : List Value, cs'.length = s ∧ (∀ r, r < s → w.cell? (a.add (i * s + r)) = cs'[r]?) ∧ R (fhOf w) cs' (q i) ∧ B (q i) := by
   haveI : Inhabited α := ⟨d⟩
   exact Go.Deep.choose_lt each
  let V : Nat → Value := fun j => (w.cell? (a.add j)).getD undef
  have hV : ∀ j, j < len * s → w.cell? (a.add j) = some (V j) := by
   intro j hj
   have hs : 0 < s := by rcases Nat.eq_zero_or_pos s with h0 | h0; subst h0; simp at hj; exact h0
   have hdiv : j / s < len := (Nat.div_lt_iff_lt_mul hs).2 hj
   obtain ⟨cs', hl', hcell, _⟩ := hq (j / s) hdiv
   have hr := hcell (j % s) (Nat.mod_lt _ hs)
   have e1 : j / s * s + j % s = j := by rw [Nat.mul_comm]; exact Nat.div_add_mod j s
   rw [e1] at hr
   have hlt : j % s < cs'.length := by rw [hl']; exact Nat.mod_lt _ hs
   rw [List.getElem?_eq_getElem hlt] at hr
   show w.cell? (a.add j) = some ((w.cell? (a.add j)).getD undef)
   rw [hr]; rfl
  have hxl : ((List.range len).map q).length = len := by simp
  have hgd : ∀ i, i < len → ((List.range len).map q).getD i d = q i := fun i hi => by simp [List.getD, hi]
  refine ⟨(List.range len).map q, ⟨_, rfl, (List.range (len * s)).map V, ⟨by simp, some a, cap, by rw [hxl], by omega, (fun h => by cases h), ?_⟩, ?_⟩, by rw [hxl]; unfold maxLen at hm; omega, fun i hi => ?_⟩
  ·intro a' ha i u hu
   obtain rfl := Option.some.inj ha
   have hi : i < len * s := by have := (List.getElem?_eq_some_iff.1 hu).1; simpa using this
   rw [cell_fhOf, hV i hi]
   rw [List.getElem?_map, List.getElem?_range hi] at hu
   exact hu
  ·intro i hi
   rw [hxl] at hi
   obtain ⟨cs', hl', hcell, hR, _⟩ := hq i hi
   refine ⟨cs', hl', ?_, by rw [hgd i hi]; exact hR⟩
   have hle : i * s + s ≤ len * s := by
    have : (i + 1) * s ≤ len * s := Nat.mul_le_mul_right s hi
    rwa [Nat.succ_mul] at this
   apply List.ext_getElem?
   intro r
   rcases Nat.lt_or_ge r s with hr | hr
   ·rw [List.getElem?_take, if_pos hr, List.getElem?_drop, List.getElem?_map, List.getElem?_range (by omega), ← hcell r hr, hV _ (by omega)]; rfl
   ·rw [List.getElem?_eq_none (by simp; omega), List.getElem?_eq_none (by omega)]
  ·rw [hxl] at hi
   obtain ⟨_, _, _, _, hB⟩ := hq i hi
   rw [hgd i hi]
   exact hB
theorem Opens.mono {α : Type} {R R' : FH → List Value → α → Prop} {B B' : α → Prop} (h : Opens P t R B) (hR : ∀ F cs a, R F cs a → R' F cs a) (hB : ∀ a, B a → B' a) : Opens P t R' B' := fun H enc w base spare held fuel cs x hx =>
 let ⟨a, h1, h2⟩ := h H enc w base spare held fuel cs x hx
 ⟨a, hR _ _ _ h1, hB _ h2⟩
theorem Opens.slv {α : Type} {R : FH → List Value → α → Prop} {B : α → Prop} (h : Opens P t R B) (ht : P.underlying t = some (.slice e)) {H : Type} {enc : TypeId × Value → H} {w : World} {r : Reach} {base b0 : Nat} {spare : Nat → Bool} {held : Bool} {v : Value} {d : DataW H} {ps : List MemPlace}
  (hv : Value.okWide P w r b0 t v) (ht' : DataW.Trod enc P w base spare held t v d ps) : ∃ a, R (fhOf w) [v] a ∧ B a := by
 obtain ⟨a, l, c, rfl⟩ := okWide_slice ht hv
 obtain ⟨n, hn⟩ := ht'
 exact h H enc w base spare held n _ _ hn
theorem Opens.agg {α : Type} {R : FH → List Value → α → Prop} {B : α → Prop} (h : Opens P t R B) {fs : Array Field} (ht : P.underlying t = some (.struct fs)) {H : Type} {enc : TypeId × Value → H} {w : World} {r : Reach} {base b0 : Nat} {spare : Nat → Bool} {held : Bool} {v : Value} {d : DataW H} {ps : List MemPlace}
  (hv : Value.okWide P w r b0 t v) (ht' : DataW.Trod enc P w base spare held t v d ps) : ∃ cs : List Value, v = .agg cs.toArray ∧ ∃ a, R (fhOf w) cs a ∧ B a := by
 obtain ⟨cs, rfl, _⟩ := okWide_struct ht hv
 obtain ⟨n, hn⟩ := ht'
 exact ⟨cs.toList, by simp, h H enc w base spare held n _ _ hn⟩
theorem Opens.int {k : IntKind} (ht : P.underlying t = some (.int k)) {H : Type} {enc : TypeId × Value → H} {w : World} {r : Reach} {base b0 : Nat} {spare : Nat → Bool} {held : Bool} {v : Value} {d : DataW H} {ps : List MemPlace}
  (hv : Value.okWide P w r b0 t v) (ht' : DataW.Trod enc P w base spare held t v d ps) : ∃ n, v = .int k n ∧ (Lit.int k n).wf = true := by
 obtain ⟨n, rfl, _, _, hw⟩ := open_int ht hv ht'
 exact ⟨n, rfl, hw⟩
theorem trodAll_below {H : Type} {enc : TypeId × Value → H} (hl : laidOutB P = true) {W W' : World} (hb : Below W.heap.size W W') {sp : Nat → Bool} :
  ∀ {ts : List TypeId} {vs : List Value} {ds : List (DataW H)} {ps : List MemPlace}, (ts.all fun t => P.readableRec t && decide (t < P.types.size)) = true → DataW.TrodAll enc P W 0 (fun _ => true) true ts vs ds ps →
   (∀ x ∈ ps, x.block < W.heap.size) → (∀ p ∈ ps, sp p.block = true) → DataW.TrodAll enc P W' 0 sp true ts vs ds ps
 | [], [], [], _, _, h, _, _ => h
 | [], _ :: _, _, _, _, h, _, _ => by cases h
 | [], [], _ :: _, _, _, h, _, _ => by cases h
 | _ :: _, [], _, _, _, h, _, _ => by cases h
 | _ :: _, _ :: _, [], _, _, h, _, _ => by cases h
 | t :: ts, v :: vs, d :: ds, ps, hr, h, hlt, hsp => by
  obtain ⟨p, q, h1, h2, rfl⟩ := h
  simp only [List.all_cons, Bool.and_eq_true, decide_eq_true_eq] at hr
  exact ⟨p, q, Go.WideElems.Trod_stays hl hr.1.1 hr.1.2 h1 (fun x hx => hb.same (hlt x (List.mem_append_left _ hx))) (fun x hx => hsp x (List.mem_append_left _ hx)),
   trodAll_below hl hb hr.2 h2 (fun x hx => hlt x (List.mem_append_right _ hx)) (fun x hx => hsp x (List.mem_append_right _ hx)), rfl⟩
theorem post_of_law {H : Type} {enc : TypeId × Value → H} {f : Func} {s : ChangeSpec} {apart fresh handsOn : Bool} {W W' : World} {args : Array Value} {ds gs : List (DataW H)} {before : List MemPlace} {tb : TypeId}
  (hs : s.vars = []) (hfn : s.fn H (ds ++ gs) = { results := [.lit (.bool true)], args := ds }) (hl : laidOutB P = true) (hr : (f.params.toList.all fun t => P.readableRec t && decide (t < P.types.size)) = true)
  (hres : f.resultTypes = #[tb]) (htb : P.underlying tb = some .bool) (hW : DataW.Whole enc P f.params.toList s.vars apart W args.toList ds gs before) (hb : Below W.heap.size W W') : s.post enc P f apart fresh handsOn false W args (.bool true) W' := by
 have hlt := hW.lt
 have hW' := hW
 obtain ⟨p, q, hA, hV, rfl, _, _⟩ := hW
 rw [hs] at hV
 obtain ⟨rfl, rfl⟩ := trodVars_none hV
 refine ⟨ds, [], p ++ [], [], p, [], hW', ?_, ?_, ?_, ?_, fun h => by cases h⟩
 ·rw [hfn, hres]
  exact trodAll_cons_mk (shut_bool htb _) trodAll_mk0
 ·rw [hfn]
  exact trodAll_below hl hb hr hA (fun x hx => hlt x (by simpa using hx)) (fun x hx => by simpa using hlt x (by simpa using hx))
 ·rw [hfn, hs]; rfl
 ·exact World.keptBut_mono (fun x hx => ⟨hx, .inr (.inl (by simpa using hx))⟩) (hb.frame (· ∈ p ++ []))
theorem Does.atTop {f : FuncId} {args : List Value} {W : World} (h : Does P f args (fhOf W) [] fun v _ _ => v = .bool true) : Calls P f args.toArray W fun e W' => e = .returned (.bool true) ∧ Below W.heap.size W W' :=
 (h W (holds_fhOf W)).mono fun _ _ ⟨_, _, _, he, le, H, hv⟩ => ⟨by rw [he, hv], below_of_holds le H⟩
end Go.Proofs.YtenomejgjcpbdaaGreat.X
set_option linter.unusedSimpArgs false
set_option linter.unusedVariables false
namespace Go.Proofs.YtenomejgjcpbdaaGreat.X
open Go Go.WideShapes Go.ChangeShapes Go.RowKit
variable {P : Program} {t e : TypeId}
end Go.Proofs.YtenomejgjcpbdaaGreat.X
set_option linter.unusedSimpArgs false
set_option linter.unusedVariables false
namespace Go.Proofs.YtenomejgjcpbdaaGreat.X
open Go Go.ChangeShapes Go.WideShapes Go.ChangeAt
variable {P : Program} {t e : TypeId}
theorem opens_byte (ht : P.underlying e = some (.int .u8)) : Opens P e ByteE (fun _ => True) := by
 intro H enc w base spare held fuel cs x h
 obtain ⟨n, rfl, _, hw⟩ := DataW.trod_int ht h
 refine ⟨n, ⟨rfl, ?_⟩, trivial⟩
 simp [Lit.wf, IntKind.min, IntKind.max, IntKind.signed, IntKind.bits] at hw
 omega
theorem opens_bytes (ht : P.underlying t = some (.slice e)) (he : P.underlying e = some (.int .u8)) (hc : P.cellsOf e = 1) :
  Opens P t (fun F cs (xs : List Int) => ∃ v, cs = [v] ∧ BytesF F v xs) (fun xs => xs.length ≤ 9223372036854775807) :=
 (opens_slice 0 ht hc (opens_byte he)).mono (fun _ _ _ h => h) (fun _ h => h.1)
end Go.Proofs.YtenomejgjcpbdaaGreat.X
