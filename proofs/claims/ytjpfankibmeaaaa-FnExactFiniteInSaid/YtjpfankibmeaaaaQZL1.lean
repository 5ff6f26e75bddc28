/-
  What the walks rest on (part 2).
-/
import Derived.Orders
import Derived.Tactics
import Derived.Below
import Derived.Laws.CopyRow
import Derived.Laws.AppendOwn
import Derived.IntWalk
import Derived.Lib.AppendZeros
import Derived.OrdersIn
import Derived.TacticsIn
import Derived.RangeFuncSeq
import Derived.RangeFuncRecord
import Derived.RangeFuncLeaves
import Derived.Scope
import Derived.Laws.Append
import Derived.MapKept
import Derived.Lib.Builder
import Derived.Lib.UnsafeStr
import Derived.Laws.Externs
import Derived.WalkKit
import Derived.ProofKit
import Derived.OpenShut
import Derived.JoinedCond
import Derived.Carry
import Derived.Deep.Slices
import Derived.Test.YtjpfankibmeaaaaQZL0
set_option linter.unusedSimpArgs false
set_option linter.unusedVariables false
namespace Go.Proofs.Ytjpfankibmeaaaa.M
def Forest (ar l : List Int) (n : Nat) : Prop := endGo ar l n = some l.length
theorem endGo_more {ar : List Int} : ∀ {a b : List Int} {n e : Nat}, endGo ar a n = some e → endGo ar (a ++ b) n = some e
 | a, b, 0, e, h => by simp [endGo] at h; subst h; simp [endGo]
 | [], b, n + 1, e, h => by simp [endGo] at h
 | x :: a, b, n + 1, e, h => by
  simp only [endGo, List.cons_append] at h ⊢
  split at h
  ·rename_i hx
   rw [if_pos hx]
   cases hr : endGo ar a (n + (arity ar x).toNat) with
   | none => rw [hr] at h; simp at h
   | some q => rw [hr] at h; rw [endGo_more hr]; exact h
  ·cases h
theorem Forest.append {ar a b : List Int} {n m : Nat} (h : Forest ar a n) (k : Forest ar b m) : Forest ar (a ++ b) (n + m) := by
 unfold Forest at *
 have h1 := endGo_more (b := b) h
 have := endGo_join (m := m) (e2 := b.length) h1 (by rw [List.drop_left]; exact k)
 rw [this, List.length_append]
theorem Forest.cons {ar r : List Int} {x : Int} {n : Nat} (hx : x < ar.length) : Forest ar (x :: r) (n + 1) ↔ Forest ar r (n + (arity ar x).toNat) := by
 unfold Forest
 simp only [endGo, if_pos hx, List.length_cons]
 cases endGo ar r (n + (arity ar x).toNat) <;> simp
theorem Forest.lt {ar r : List Int} {x : Int} {n : Nat} (h : Forest ar (x :: r) n) : ∃ m, n = m + 1 ∧ x < ar.length := by
 unfold Forest at h
 cases n with
 | zero => simp [endGo] at h
 | succ m =>
  refine ⟨m, rfl, ?_⟩
  simp only [endGo] at h
  split at h
  ·assumption
  ·cases h
theorem arity_var {ar : List Int} {x : Int} (h : x < 0) : arity ar x = 0 := by simp [arity]; omega
theorem Forest.fill {ar : List Int} {s : RowL} (hs : ∀ x : Int, x < 0 → Forest ar (lk s x) 1) : ∀ (t : List Int) (n : Nat), Forest ar t n → Forest ar (t.flatMap (lk s)) n
 | [], n, h => h
 | x :: t, n, h => by
  obtain ⟨m, rfl, hx⟩ := h.lt
  have h1 := (Forest.cons hx).1 h
  rw [List.flatMap_cons]
  by_cases h0 : x < 0
  ·rw [arity_var h0] at h1
   rw [Nat.add_comm]
   exact (hs x h0).append (Forest.fill hs t m (by simpa using h1))
  ·rw [lk_sym (by omega)]
   exact (Forest.cons hx).2 (Forest.fill hs t _ h1)
theorem fillGo_flat {s : RowL} : ∀ (t acc u : List Int), fillGo s t acc = some u → u = acc ++ t.flatMap (lk s)
 | [], acc, u, h => by simp [fillGo] at h; simp [h]
 | n :: t, acc, u, h => by
  rw [fillGo] at h
  split at h
  ·cases h
  ·rw [fillGo_flat t _ u h, List.flatMap_cons, List.append_assoc]
theorem fillL_flat {s : RowL} {t u : List Int} (h : fillL s t = some u) : u = t.flatMap (lk s) := by
 have := fillGo_flat t [] u h
 simpa using this
def RowsOk (ar : List Int) (s : RowL) : Prop := ∀ i, s.getD i [] = [] ∨ termOk ar (s.getD i []) = true
theorem lk_forest {ar : List Int} {s : RowL} (h : RowsOk ar s) (hs : sigOk ar = true) (x : Int) (hx : x < 0) : Forest ar (lk s x) 1 := by
 unfold lk
 rw [if_neg (by omega)]
 split
 ·have : Forest ar [x] (0 + 1) := (Forest.cons (by have := sigOk_spec hs; omega)).2 (by rw [arity_var hx]; rfl)
  exact this
 ·rename_i e
  exact (termOk_iff.1 ((h (varIx x)).resolve_left e)).whole
theorem lk_ge {ar : List Int} {s : RowL} (h : RowsOk ar s) {x : Int} (hx : -24 ≤ x) : ∀ y ∈ lk s x, -24 ≤ y := by
 intro y hy
 unfold lk at hy
 split at hy
 ·simp at hy; omega
 ·split at hy
  ·simp at hy; omega
  ·rename_i e; exact (termOk_iff.1 ((h (varIx x)).resolve_left e)).ge y hy
theorem fill_ok {ar : List Int} {s : RowL} {t u : List Int} (h : RowsOk ar s) (ht : termOk ar t = true) (hu : fillL s t = some u) : termOk ar u = true := by
 have hT := termOk_iff.1 ht
 have hl := fillL_len hu
 have hf := Forest.fill (lk_forest h hT.sig) t 1 hT.whole
 rw [← fillL_flat hu] at hf
 refine termOk_iff.2 ⟨hT.sig, by have := hT.pos; omega, hl.1, ?_, hf⟩
 rw [fillL_flat hu]
 intro y hy
 obtain ⟨x, hx, hy⟩ := List.mem_flatMap.1 hy
 exact lk_ge h (hT.ge x hx) y hy
theorem mGo_ok {ar t : List Int} (ht : termOk ar t = true) : ∀ (p : List Int) (i : Nat) (b r : RowL), mGo ar t p i b = some r → RowsOk ar b → RowsOk ar r
 | [], i, b, r, h, hb => by simp [mGo] at h; subst h; exact hb
 | n :: p, i, b, r, h, hb => by
  rw [mGo] at h
  split at h
  ·cases h
  ·rename_i hi
   split at h
   ·split at h
    ·exact mGo_ok ht p _ _ _ h hb
    ·cases h
   ·split at h
    ·refine mGo_ok ht p _ _ _ h (fun k => ?_)
     by_cases e : varIx n = k
     ·subst e
      rcases Nat.lt_or_ge (varIx n) b.length with hl | hl
      ·have : (b.set (varIx n) (sub ar t i)).getD (varIx n) [] = sub ar t i := by simp [List.getD_eq_getElem?_getD, hl]
       rw [this]; exact .inr (sub_ok ht (by omega))
      ·rw [List.set_eq_of_length_le hl]; exact hb _
     ·rw [List.getD_eq_getElem?_getD, List.getElem?_set_ne e, ← List.getD_eq_getElem?_getD]; exact hb k
    ·split at h
     ·exact mGo_ok ht p _ _ _ h hb
     ·cases h
theorem matchB_ok {ar p t : List Int} {b : RowL} (ht : termOk ar t = true) (h : matchB ar p t = some b) : RowsOk ar b := by
 refine mGo_ok ht p 0 _ b h (fun k => .inl ?_)
 rw [List.getD_eq_getElem?_getD, List.getElem?_replicate]
 split <;> rfl
theorem Forest.swap {ar S U B : List Int} (hS : Forest ar S 1) (hU : Forest ar U 1) (hp : S ≠ []) : ∀ (A : List Int) (n : Nat), Forest ar (A ++ S ++ B) n → Forest ar (A ++ U ++ B) n
 | [], n, h => by
  simp only [List.nil_append] at h ⊢
  cases S with
  | nil => exact absurd rfl hp
  | cons x S =>
   obtain ⟨m, rfl, _⟩ := Forest.lt h
   unfold Forest at h
   rw [Nat.add_comm] at h
   obtain ⟨e1, e2, h1, h2, h3⟩ := endGo_split h
   have h4 := endGo_more (b := B) hS
   rw [h4] at h1
   cases h1
   rw [List.drop_left] at h2
   have hB : Forest ar B m := by
    unfold Forest
    rw [h2]
    rw [List.length_append] at h3
    congr 1; omega
   rw [Nat.add_comm]
   exact hU.append hB
 | x :: A, n, h => by
  obtain ⟨m, rfl, hx⟩ := Forest.lt h
  exact (Forest.cons hx).2 (Forest.swap hS hU hp A _ ((Forest.cons hx).1 h))
theorem parts {ar t : List Int} {p : Nat} (ht : termOk ar t = true) (hp : p < t.length) : t = t.take p ++ sub ar t p ++ t.drop (endN ar t p) := by
 have he := endN_spec ht hp
 have : sub ar t p ++ t.drop (endN ar t p) = t.drop p := by
  unfold sub
  have e : t.drop (endN ar t p) = (t.drop p).drop (endN ar t p - p) := by rw [List.drop_drop]; congr 1; omega
  rw [e, List.take_append_drop]
 rw [List.append_assoc, this, List.take_append_drop]
theorem put_ok {ar t u v : List Int} {p : Nat} (ht : termOk ar t = true) (hp : p < t.length) (hu : termOk ar u = true) (h : putL ar t p u = some v) : termOk ar v = true := by
 unfold putL at h
 split at h
 ·cases h
 ·rename_i hl
  cases h
  have hT := termOk_iff.1 ht
  have hU := termOk_iff.1 hu
  refine termOk_iff.2 ⟨hT.sig, by have := hU.pos; simp; omega, by omega, ?_, ?_⟩
  ·intro x hx
   simp only [List.mem_append] at hx
   rcases hx with (hx | hx) | hx
   ·exact hT.ge x (List.mem_of_mem_take hx)
   ·exact hU.ge x hx
   ·exact hT.ge x (List.mem_of_mem_drop hx)
  ·have h1 : Forest ar (t.take p ++ sub ar t p ++ t.drop (endN ar t p)) 1 := by rw [← parts ht hp]; exact hT.whole
   exact Forest.swap (termOk_iff.1 (sub_ok ht hp)).whole hU.whole (sub_ne ht hp) _ _ h1
theorem stepL_ok {ar : List Int} {rs : Rules} {t u : List Int} {p r : Nat} (hs : sysOk ar rs = true) (ht : termOk ar t = true) (hp : p < t.length) (hr : r < rs.length) (h : stepL ar rs t p r = some u) : termOk ar u = true := by
 have hR := ruleOk_iff.1 ((sysOk_iff.1 hs).2.2 r hr)
 unfold stepL at h
 split at h
 ·cases h
 ·rename_i b hb
  split at h
  ·cases h
  ·rename_i w hw
   exact put_ok ht hp (fill_ok (matchB_ok (sub_ok ht hp) hb) hR.right hw) h
def walkGo (ar : List Int) (rs : Rules) (st : Int) : Nat → List Int → List (Int × Int × List Int) × Bool
 | 0, t => ([], decide (redL ar rs t = []))
 | n + 1, t => if redL ar rs t = [] then ([], true) else
  match stepL ar rs t (pickL ar rs t st).toNat (ruleAtL ar rs t (pickL ar rs t st).toNat).toNat with
  | none => ([], false)
  | some u => ((pickL ar rs t st, ruleAtL ar rs t (pickL ar rs t st).toNat, u) :: (walkGo ar rs st n u).1, (walkGo ar rs st n u).2)
section
variable {ar : List Int} {rs : Rules} {t u : List Int} {st : Int} {m : Nat}
end
section
variable {ar : List Int} {rs : Rules} {t : List Int} {p k j : Nat}
def cntR (ar : List Int) (rs : Rules) (t : List Int) (p k : Nat) : Nat := ((List.range k).filter (isRedex ar rs t p)).length
def cntP (ar : List Int) (rs : Rules) (t : List Int) (k : Nat) : Nat := ((List.range k).map (fun p => cntR ar rs t p rs.length)).sum
theorem cntR_yes {m : Nat} (h : isRedex ar rs t p k = true) : m + cntR ar rs t p k + 1 = m + cntR ar rs t p (k + 1) := by
 simp [cntR, List.range_succ, h]; omega
theorem cntR_no {m : Nat} (h : isRedex ar rs t p k = false) : m + cntR ar rs t p k = m + cntR ar rs t p (k + 1) := by
 simp [cntR, List.range_succ, h]
theorem cntR_le : cntR ar rs t p k ≤ k := by
 have := List.length_filter_le (isRedex ar rs t p) (List.range k)
 rwa [List.length_range] at this
theorem cntP_succ (h : j = rs.length) : cntP ar rs t k + cntR ar rs t k j = cntP ar rs t (k + 1) := by
 subst h; simp [cntP, List.range_succ]
theorem cntP_le (h : rs.length ≤ 12) : ∀ k, cntP ar rs t k ≤ k * 12
 | 0 => by simp [cntP]
 | k + 1 => by
  rw [← cntP_succ rfl]
  have := cntP_le h k
  have := cntR_le (ar := ar) (rs := rs) (t := t) (p := k) (k := rs.length)
  omega
end
def dec (z : Int) (n : Nat) : Int := if z - n < 0 then -1 else z - n
theorem dec_neg {z : Int} {n : Nat} (h : z - n < 0) : dec z n = -1 := if_pos h
theorem dec_pos {z : Int} {n : Nat} (h : ¬ z - n < 0) : dec z n = z - n := if_neg h
theorem dec_dec {z : Int} {n m : Nat} (h : ¬ dec z n < 0) : dec (dec z n) m = dec z (n + m) := by
 unfold dec at *
 split at h
 ·omega
 ·rename_i h1
  rw [if_neg h1]
  by_cases h2 : z - n - m < 0
  ·rw [if_pos h2, if_pos (by omega)]
  ·rw [if_neg h2, if_neg (by omega)]; omega
theorem dec_out {z : Int} {n m : Nat} (h : dec z n < 0) : dec z (n + m) = -1 := by
 unfold dec at *
 split at h
 ·rw [if_pos (by omega)]
 ·omega
theorem dec_range (z : Int) (n : Nat) : -1 ≤ dec z n ∧ (0 ≤ z → dec z n ≤ z) := by
 unfold dec
 split <;> omega
theorem dec_mono {z : Int} {n m : Nat} (h : dec z n < 0) (hm : n ≤ m) : dec z m = -1 := by
 rw [show m = n + (m - n) from by omega]; exact dec_out h
def szTo (rs : Rules) (k : Nat) : Nat := ((rs.take k).map (fun r => r.1.length + r.2.length)).sum
theorem szTo_succ {rs : Rules} {k : Nat} (h : k < rs.length) : szTo rs k + ((rs.getD k ([], [])).1.length + (rs.getD k ([], [])).2.length) = szTo rs (k + 1) := by
 unfold szTo
 rw [take_succ_getD ([], []) h]
 simp
theorem szTo_le {rs : Rules} : ∀ (k j : Nat), k ≤ j → j ≤ rs.length → szTo rs k ≤ szTo rs j := by
 intro k j hkj
 induction j with
 | zero => intro _; rw [show k = 0 from by omega]; exact Nat.le_refl _
 | succ j ih =>
  intro hj
  rcases Nat.lt_or_ge k (j + 1) with h | h
  ·have := ih (by omega) (by omega)
   rw [← szTo_succ (show j < rs.length by omega)]
   omega
  ·rw [show k = j + 1 from by omega]; exact Nat.le_refl _
theorem take_set_next {l : List Int} {k : Nat} {v : Int} (h : k < l.length) (_ : k < l.length) : (l.set k v).take (k + 1) = l.take k ++ [v] := by
 rw [take_succ_getD 0 (by simpa using h)]
 congr 1
 ·rw [List.take_set, List.set_eq_of_length_le (by simp; omega)]
 ·simp [List.getD_eq_getElem?_getD, h]
theorem ext_pair {a b : Rules} (hl : a.length = b.length) (h : ∀ i, i < a.length → a.getD i ([], []) = b.getD i ([], [])) : a = b := by
 apply List.ext_getElem hl
 intro i h1 h2
 have := h i h1
 simpa [List.getD_eq_getElem?_getD, h1, h2] using this
def szR (rs : Rules) : Nat := rs.length + szTo rs rs.length
theorem dec_le {z : Int} {n : Nat} (h : ¬ dec z n < 0) : (n : Int) ≤ z := by
 unfold dec at h
 split at h <;> omega
theorem szR_le {rs : Rules} : rs.length ≤ szR rs ∧ ∀ i, i < rs.length → (rs.getD i ([], [])).1.length ≤ szR rs ∧ (rs.getD i ([], [])).2.length ≤ szR rs := by
 refine ⟨by unfold szR; omega, fun i hi => ?_⟩
 have h1 := szTo_succ hi
 have h2 := szTo_le (rs := rs) (i + 1) rs.length (by omega) (Nat.le_refl _)
 unfold szR
 omega
def flatPair (r : List Int × List Int) : List Int := r.1 ++ r.2
theorem take_set_any {α : Type} {l : List α} {k : Nat} {v : α} (h : k < l.length) : (l.set k v).take (k + 1) = l.take k ++ [v] := by
 rw [List.take_set, List.take_succ_eq_append_getElem h, List.set_append_right _ _ (by simp; omega)]
 simp [Nat.min_eq_left (Nat.le_of_lt h)]
abbrev StepL := Int × Int × List Int
def endL (f : List Int) (ss : List StepL) : List Int := if ss.length = 0 then f else (ss.getD (ss.length - 1) (0, 0, [])).2.2
section
variable {ar : List Int} {rs : Rules} {t f : List Int} {ss : List StepL}
end
section
variable {α : Type} {f : α → Nat} {l : List α} {k : Nat}
end
theorem flatPair_len (rs : Rules) : (rs.flatMap flatPair).length ≤ szR rs := by
 unfold szR szTo
 rw [List.take_length, List.length_flatMap]
 have : (List.map (fun a => (flatPair a).length) rs) = rs.map (fun r => r.1.length + r.2.length) := List.map_congr_left fun r _ => by simp [flatPair]
 rw [this]; omega
theorem dec_le2 {z : Int} {n : Nat} (h : ¬ dec z n < 0) (hz : z ≤ 1048576) : (n : Int) ≤ 1048576 ∧ dec z n ≤ 1048576 ∧ 0 ≤ dec z n := by
 have h1 := dec_le h
 unfold dec at *
 split at h <;> omega
section
variable {ar : List Int} {rs : Rules} {t u f : List Int} {ss : List StepL} {st : Int} {m k : Nat}
end
section
variable {ar : List Int} {rs : Rules} {t f u : List Int} {ss acc : List StepL} {p : Nat} {k : Nat}
end
section
variable {ar : List Int} {rs : Rules} {t f : List Int} {ss : List StepL} {s : RowL} {p : Int}
theorem fill_eq {v : List Int} (h : (fillL s f).isSome = true) : fillL s f = some v ↔ (fillL s f).getD [] = v := by
 obtain ⟨x, hx⟩ := Option.isSome_iff_exists.1 h
 rw [hx]; simp
end
end Go.Proofs.Ytjpfankibmeaaaa.M
namespace Go.Proofs.Ytjpfankibmeaaaa.X
open Go
def FR (r : Option Nat) : Fence := { Fence.wide with round := r }
theorem callsIn_FR {r : Option Nat} {n : Nat} {P : Program} {f : FuncId} {args : Array Value} {w : World} {R : Ending → World → Prop} (h : Calls P f args w R) : CallsIn (FR r) n P f args w R := by
 have h1 : CallsIn Fence.wide n P f args w R := callsIn_wide.2 h
 exact h1
structure RepD (n : Nat) (d : List Deferred) (a : Act) (ρ : Env) : Prop where
 size : a.tmps.size = n
 defers : a.defers = d
 get : ∀ i, a.tmps.getD i undef = ρ i
theorem RepD.eval {n : Nat} {d : List Deferred} {a : Act} {ρ : Env} (h : RepD n d a ρ) : a.eval = evO ρ := by
 funext x
 cases x <;> first | rfl | exact h.get _
theorem Rep.toD {n : Nat} {a : Act} {ρ : Env} (h : Rep n a ρ) : RepD n [] a ρ := ⟨h.size, h.defers, h.get⟩
theorem RepD.of {n : Nat} {a : Act} {ρ : Env} (h : RepD n [] a ρ) : Rep n a ρ := ⟨h.size, h.defers, h.get⟩
theorem RepD.put {n : Nat} {ds : List Deferred} {a : Act} {ρ : Env} (h : RepD n ds a ρ) {d : Option Tmp} (hd : dOk n d = true) (v : Value) : RepD n ds (a.put d v) (putE ρ d v) := by
 have h' : Rep n { a with defers := [] } ρ := ⟨h.size, rfl, h.get⟩
 have := h'.put hd v
 refine ⟨?_, ?_, ?_⟩
 ·have := this.size; cases d <;> exact this
 ·cases d <;> exact h.defers
 ·have := this.get; cases d <;> exact this
def notDef (o : Oper) : Bool := match o.op with | .defer _ => false | _ => true
theorem notDef_spec {o : Oper} (h : notDef o = true) : ∀ c, o.op ≠ .defer c := by
 intro c e; simp [notDef, e] at h
def opsOkI (n : Nat) (l : List Oper) : Bool := l.all fun o => dOk n o.dst && notDef o
theorem opsOkI_ops {n : Nat} {l : List Oper} (h : opsOkI n l = true) : opsOk n l = true := by
 simp only [opsOkI, opsOk, List.all_eq_true, Bool.and_eq_true] at h ⊢
 exact fun o ho => (h o ho).1
theorem opsOkI_def {n : Nat} {l : List Oper} (h : opsOkI n l = true) : ∀ o ∈ l, ∀ c, o.op ≠ .defer c := by
 simp only [opsOkI, List.all_eq_true, Bool.and_eq_true] at h
 exact fun o ho => notDef_spec (h o ho).2
def lowI (n : Nat) (d : List Deferred) (F : FH) (Q : QX) : Exit → Act → World → Prop := fun e a w => ∃ ρ F' L, RepD n d a ρ ∧ F ≤ F' ∧ Holds F' L w ∧ Q e ρ F' L
theorem lowI_le {n : Nat} {d : List Deferred} {F F' : FH} {Q : QX} (le : F ≤ F') {e : Exit} {a : Act} {w : World} (h : lowI n d F' Q e a w) : lowI n d F Q e a w :=
 let ⟨ρ, F'', L, r, l, H, q⟩ := h; ⟨ρ, F'', L, r, le.trans l, H, q⟩
theorem wpListIn_mono {F : Fence} {n : Nat} {P : Program} {ops : Array Oper} {Q Q' : Exit → Act → World → Prop} (h : ∀ e a w, Q e a w → Q' e a w) :
  ∀ (l : List Oper) (a : Act) (w : World), wpListIn F n P ops Q l a w → wpListIn F n P ops Q' l a w
 | [], a, w, k => h _ _ _ k
 | o :: l, a, w, k => by
  unfold wpListIn at *
  have hout : LetsOut Q → LetsOut Q' := fun ⟨a0, w0, hq⟩ => ⟨a0, w0, h _ _ _ hq⟩
  split
  ·rename_i hw
   rw [if_pos hw] at k
   refine ⟨k.1, ?_⟩
   have k := k.2
   generalize (o.semAt F.round a.eval).run P w = r at *
   cases r with
   | ok m w' =>
    cases m <;> simp only [Oper.uponIn] at k ⊢ <;>
     first
      | exact wpListIn_mono h l _ _ k
      | exact ⟨k.1, CallsIn.mono k.2 (fun e w'' he => by cases e <;> first | exact wpListIn_mono h l _ _ he | exact h _ _ _ he | exact hout he)⟩
      | exact ⟨k.1, RowsIn.mono k.2 (fun _ _ he => wpListIn_mono h l _ _ he)⟩
      | exact ⟨k.1, RoundIn.mono k.2 (fun e w'' he => by cases e <;> first | exact wpListIn_mono h l _ _ he | exact h _ _ _ he | exact hout he)⟩
   | halt x w' => cases x <;> simp only [Oper.uponIn] at k ⊢ <;> first | exact h _ _ _ k | exact k.elim
  ·rename_i hw
   rw [if_neg hw] at k
   exact ⟨k.1, wpListIn_mono h l _ _ k.2⟩
def XIL (P : Program) (n : Nat) (r0 : Option Nat) (d0 : List Deferred) (ops : Array Oper) (l : List Oper) (Q : QX) (ρ : Env) (F : FH) (L : List HP) : Prop :=
 opsOkI n l = true → ∀ a w, RepD n d0 a ρ → Holds F L w → wpListIn (FR r0) 9 P ops (lowI n d0 F Q) l a w
section
variable {P : Program} {n : Nat} {r0 : Option Nat} {d0 : List Deferred} {ops : Array Oper} {l : List Oper} {Q : QX} {ρ : Env} {F : FH} {L : List HP}
theorem XIL.nil (h : Q .normal ρ F L) : XIL P n r0 d0 ops [] Q ρ F L := fun _ _ _ r H => ⟨ρ, F, L, r, FLe.refl F, H, h⟩
theorem wpIn_of_XOp {o : Oper} {K : Post} {a : Act} {w : World} {Q : Exit → Act → World → Prop} {N : Act → World → Prop}
  (h : XOp P o ρ F L K) (r : RepD n d0 a ρ) (H : Holds F L w) (hd : dOk n o.dst = true) (hn : ∀ c, o.op ≠ .defer c)
  (hN : ∀ v F' L' w', F ≤ F' → Holds F' L' w' → K v F' L' → RepD n d0 (a.put o.dst v) (putE ρ o.dst v) → N (a.put o.dst v) w') : o.wpIn (FR r0) 9 P a w N Q := by
 refine ⟨fun _ _ => trivial, ?_⟩
 rw [Oper.semAt_eq _ _ _ hn, r.eval]
 rcases h w H with ⟨v, w', F', L', h1, h2, h3, h4⟩ | ⟨w', F', L', h1, h2, h3, h4⟩ | ⟨f, args, w', h1, h2⟩
 ·rw [h1]; exact hN v F' L' w' h2 h3 h4 (r.put hd v)
 ·rw [h1]; exact hN undef F' L' w' h2 h3 h4 (r.put hd undef)
 ·rw [h1]
  refine ⟨fun _ => by decide, callsIn_FR (h2.mono fun e w'' ⟨v, F', L', he, hle, hH, hk⟩ => ?_)⟩
  subst he
  exact hN v F' L' w'' hle hH hk (r.put hd v)
theorem XIL.cons {d : Option Tmp} {op : Op} {ty : TypeId} {pos : String} {af : Array Edge}
  (h : XOp P ⟨d, op, ty, pos, af, none⟩ ρ F L fun v F' L' => XIL P n r0 d0 ops l Q (putE ρ d v) F' L') : XIL P n r0 d0 ops (⟨d, op, ty, pos, af, none⟩ :: l) Q ρ F L := by
 intro ok a w r H
 have hd := opsOkI_def ok
 simp only [opsOkI, List.all_cons, Bool.and_eq_true] at ok
 unfold wpListIn
 rw [if_pos (by simp [Region.wanted])]
 exact wpIn_of_XOp h r H ok.1.1 (hd _ (by simp)) fun v F' L' w' le H' k r' => wpListIn_mono (fun _ _ _ q => lowI_le le q) _ _ _ (k ok.2 _ _ r' H')
def Yld (P : Program) (l : Nat) (args : List Value) (F : FH) (L : List HP) (K : Post) : Prop :=
 ∀ w, Holds F L w → YieldAt Fence.wide 9 P l args.toArray w fun e w' => ∃ v F' L', e = .returned v ∧ F ≤ F' ∧ Holds F' L' w' ∧ K v F' L'
theorem Yld.mono {k : Nat} {args : List Value} {K K' : Post} (h : Yld P k args F L K) (hk : ∀ v F' L', F ≤ F' → K v F' L' → K' v F' L') : Yld P k args F L K' := by
 intro w H
 obtain ⟨fn, tmps, assign, body, hy, hr⟩ := h w H
 exact ⟨fn, tmps, assign, body, hy, hr.mono fun e w' ⟨v, F', L', a, b, c, d⟩ => ⟨v, F', L', a, b, c, hk _ _ _ b d⟩⟩
theorem Yld.weaken {k : Nat} {args : List Value} {K : Post} {L' : List HP} (s : Sub L L') (h : Yld P k args F L' K) : Yld P k args F L K := fun w H => h w (s.holds H)
theorem roundIn_FR {r : Option Nat} {m m' k : Nat} {f : FuncId} {tmps : Array Value} {assign body : Code} {w : World} {R : Ending → World → Prop} (h : RoundIn Fence.wide m P k f tmps assign body w R) : RoundIn (FR r) m' P k f tmps assign body w R :=
 ⟨trivial, fun c cs hr => h.2 c cs (fun _ hd => by cases hd)⟩
theorem XIL.yield {k : Nat} {d : Option Tmp} {c : Operand} {as : List Operand} {ts : Array TypeId} {ty : TypeId} {pos : String} {af : Array Edge} {args : List Value}
  (hc : evO ρ c = .func (.yield k) #[] #[]) (ha : as.map (evO ρ) = args)
  (h : Yld P k args F L fun v F' L' => XIL P n r0 d0 ops l Q (putE ρ d v) F' L') :
  XIL P n r0 d0 ops (⟨d, .call { callee := .value c, args := as.toArray, argTypes := ts }, ty, pos, af, none⟩ :: l) Q ρ F L := by
 intro ok a w r H
 simp only [opsOkI, List.all_cons, Bool.and_eq_true] at ok
 unfold wpListIn
 rw [if_pos (by simp [Region.wanted])]
 refine ⟨fun _ _ => trivial, ?_⟩
 rw [Oper.semAt_eq _ _ _ (by simp), r.eval]
 obtain ⟨fn, tmps, assign, body, hy, hr⟩ := h w H
 have e : (execOp (evO ρ) ⟨d, .call { callee := .value c, args := as.toArray, argTypes := ts }, ty, pos, af, none⟩).run P w = .ok (.round k fn tmps assign body) w := by
  subst ha
  simp [execOp, resolve, hc, Deferred.ofValue, invoke, hy, Sem.run_bind, Sem.run_pure, Result.andThen]
 rw [e]
 refine ⟨fun _ => by decide, (roundIn_FR hr).mono ?_⟩
 rintro e w'' ⟨v, F', L', rfl, le, H', hk⟩
 exact wpListIn_mono (fun _ _ _ q => lowI_le le q) _ _ _ (hk ok.2 _ _ (r.put ok.1.1 v) H')
end
def cOkI (n : Nat) : Code → Bool
 | .region _ ops _ => opsOkI n ops.toList
 | .seq a b => cOkI n a && cOkI n b
 | .cond _ a b => cOkI n a && cOkI n b
 | .block _ a => cOkI n a
 | .loop a => cOkI n a
 | .scope a => cOkI n a
 | .rangeFunc _ _ a b => cOkI n a && cOkI n b
 | _ => true
def XI (P : Program) (n : Nat) (r0 : Option Nat) (d0 : List Deferred) (c : Code) (Q : QX) (ρ : Env) (F : FH) (L : List HP) : Prop :=
 cOkI n c = true → ∀ a w, RepD n d0 a ρ → Holds F L w → c.wpIn (FR r0) 9 P (lowI n d0 F Q) a w
section
variable {P : Program} {n : Nat} {r0 : Option Nat} {d0 : List Deferred} {Q : QX} {ρ : Env} {F : FH} {L : List HP}
theorem X.ofI {c : Code} (hok : cOkI n c = true) (h : XI P n none [] c Q ρ F L) : X P n c Q ρ F L := by
 intro _ a w r H
 refine Code.wp_mono ?_ (wpIn_wide.1 (h hok a w r.toD H))
 rintro e a' w' ⟨ρ', F', L', r', le, H', q⟩
 exact ⟨ρ', F', L', r'.of, le, H', q⟩
theorem XI.freezeF {c : Code} (A B : List HP) (h : HP) (hL : L = A ++ h :: B) (H : ∀ F', F ≤ F' → Fresh F F' h → XI P n r0 d0 c Q ρ F' (A ++ B)) : XI P n r0 d0 c Q ρ F L := by
 subst hL
 intro ok a w r Hw
 obtain ⟨F', le, fz, H', _⟩ := Hw.lendF
 exact wpIn_mono (H F' le fz ok a w r H') (fun _ _ _ q => lowI_le le q)
theorem XI.block {id : Nat} {c : Code} (h : XI P n r0 d0 c (blockQ id Q) ρ F L) : XI P n r0 d0 (.block id c) Q ρ F L := by
 intro ok a w r H
 refine wpIn_block (wpIn_mono (h ok a w r H) ?_)
 rintro e a' w' ⟨ρ', F', L', r', le, H', q⟩
 cases e with
 | exit i =>
  simp only [Exit.inBlock, blockQ] at q ⊢
  split
  ·rename_i hi; rw [if_pos hi] at q; exact ⟨ρ', F', L', r', le, H', q⟩
  ·rename_i hi; rw [if_neg hi] at q; exact ⟨ρ', F', L', r', le, H', q⟩
 | _ => exact ⟨ρ', F', L', r', le, H', q⟩
theorem XI.ret (h : Q .ret ρ F L) : XI P n r0 d0 .ret Q ρ F L := fun _ _ _ r H => wpIn_ret ⟨ρ, F, L, r, FLe.refl F, H, h⟩
theorem XI.seq {x y : Code} (h : XI P n r0 d0 x (thenQ (fun ρ' F' L' => XI P n r0 d0 y Q ρ' F' L') Q) ρ F L) : XI P n r0 d0 (.seq x y) Q ρ F L := by
 intro ok a w r H
 simp only [cOkI, Bool.and_eq_true] at ok
 refine wpIn_seq (wpIn_mono (h ok.1 a w r H) ?_)
 rintro e a' w' ⟨ρ', F', L', r', le, H', q⟩
 cases e with
 | normal => exact wpIn_mono (q ok.2 a' w' r' H') (fun _ _ _ q => lowI_le le q)
 | _ => exact ⟨ρ', F', L', r', le, H', q⟩
theorem XI.cond {c : Operand} {x y : Code} {t : Bool} (hc : evO ρ c = .bool t) (ht : t = true → XI P n r0 d0 x Q ρ F L) (hf : t = false → XI P n r0 d0 y Q ρ F L) : XI P n r0 d0 (.cond c x y) Q ρ F L := by
 intro ok a w r H
 simp only [cOkI, Bool.and_eq_true] at ok
 exact wpIn_cond_split (t := t) (by rw [r.eval]; exact hc) (fun h => ht h ok.1 a w r H) (fun h => hf h ok.2 a w r H)
theorem XI.condT {c : Operand} {x y : Code} (hc : evO ρ c = .bool true) (ht : XI P n r0 d0 x Q ρ F L) : XI P n r0 d0 (.cond c x y) Q ρ F L := XI.cond hc (fun _ => ht) (fun h => by cases h)
theorem XI.condF {c : Operand} {x y : Code} (hc : evO ρ c = .bool false) (hf : XI P n r0 d0 y Q ρ F L) : XI P n r0 d0 (.cond c x y) Q ρ F L := XI.cond hc (fun h => by cases h) (fun _ => hf)
theorem XI.region {id : Nat} {l : List Oper} (h : XIL P n r0 d0 l.toArray l Q ρ F L) : XI P n r0 d0 (.region id l.toArray false) Q ρ F L :=
 fun ok a w r H => wpIn_region_lit (h (by simpa [cOkI] using ok) a w r H)
theorem XI.slots {c : Code} (l : List (Nat × Value)) (hs : sat ρ l) (h : ∀ r, XI P n r0 d0 c Q (envs l r) F L) : XI P n r0 d0 c Q ρ F L := by
 have := h ρ
 rwa [envs_of_sat hs] at this
end
theorem XI.draw {P : Program} {n id : Nat} {r0 : Option Nat} {d0 : List Deferred} {Q : QX} {ρ : Env} {F : FH} {L : List HP} {l : List Oper} (Bs L0 : List HP) (m : Nat) (uses cls : List (List Nat)) (phi : Nat → List Value → Value → Prop) (own : Nat → List Value → Value → List HP)
  (hmix : P.follows .mixedOrders = true) (hL : L = Bs ++ L0) (hm : Nat.ble m l.length = true) (hok : drawOk l m uses cls = true)
  (hstep : stepsP P l ρ F Bs phi own uses cls (l.take m) 0)
  (hend : ∀ vals : Nat → Value, (∀ i, i < m → phi i ((uses.getD i []).map vals) (vals i)) → XIL P n r0 d0 l.toArray (l.drop m) Q (canon vals (l.take m) 0 ρ) F (made own uses vals (List.range m) ++ (Bs ++ L0))) :
  XI P n r0 d0 (.region id l.toArray true) Q ρ F L := by
 subst hL
 have hm' : m ≤ l.length := Nat.le_of_ble_eq_true hm
 have ok := drawOk_spec hok
 intro cok a w r H
 have cokI : opsOkI n l = true := by simpa [cOkI] using cok
 have cok' := opsOkI_ops cokI
 have cokD := opsOkI_def cokI
 refine wpIn_region_any hmix ?_
 have H1 : Holds F (Bs ++ L0) { w with drawn := w.drawn + 1 } := H.drew
 generalize { w with drawn := w.drawn + 1 } = w0 at H1
 -- the tail, in its text's order
 have tailP : ∀ (k : Nat) (fuel : Nat) (listed : Array Bool) (a : Act) (w : World), fuel + k = l.length → m ≤ k → listed.size = l.length → (∀ i, i < k → listed.getD i true = true) → (∀ i, k ≤ i → i < l.length → listed.getD i true = false) →
   wpListIn (FR r0) 9 P l.toArray (lowI n d0 F Q) (l.drop k) a w → wpAnyIn (FR r0) 9 P .any l.toArray (lowI n d0 F Q) fuel listed a w := by
  intro k fuel
  induction fuel generalizing k with
  | zero =>
   intro listed a w hk hmk hsz hin hout h
   have hk' : k = l.length := by omega
   subst hk'
   rw [List.drop_length] at h
   refine ⟨?_, h⟩
   unfold Region.ready
   rw [List.filter_eq_nil_iff]
   intro i hi
   have hi' : i < l.length := by simpa using hi
   simp [hin i hi']
  | succ fuel ih =>
   intro listed a w hk hmk hsz hin hout h
   have hkl : k < l.length := by omega
   obtain ⟨o, ho⟩ : ∃ o, l[k]? = some o := ⟨l[k], List.getElem?_eq_getElem hkl⟩
   have hready : ∀ i, i ∈ Region.ready .any l.toArray listed → i = k := by
    intro i hi
    obtain ⟨hun, oi, hoi, hall⟩ := mem_ready.1 hi
    have hoi' : l[i]? = some oi := by simpa using hoi
    have hil : i < l.length := (List.getElem?_eq_some_iff.1 hoi').1
    have hki : k ≤ i := by
     rcases Nat.lt_or_ge i k with h' | h'
     ·have := hin i h'; rw [this] at hun; cases hun
     ·exact h'
    rcases Nat.lt_or_ge k i with h' | h'
    · -- k is ahead of i: so some edge of i's leads to k, which is not listed
     exfalso
     have hmem := ok.tail i (by omega) hil k h'
     have key : ∀ (t j : Nat), (∀ oj : Oper, l[j]? = some oj → ∀ e ∈ oj.after, Region.binds .any e = true → listed.getD e.on false = true) → j ≤ t → k ∈ clo l j → (j < l.length) → False := by
      intro t
      induction t with
      | zero =>
       intro j hj hjt hkj hjl
       obtain ⟨e, he, hb, hlt, _⟩ := mem_clo (List.getElem?_eq_getElem hjl) hkj
       omega
      | succ t iht =>
       intro j hj hjt hkj hjl
       obtain ⟨e, he, hb, hlt, hor⟩ := mem_clo (List.getElem?_eq_getElem hjl) hkj
       have hl := hj _ (List.getElem?_eq_getElem hjl) e (by simpa using he) hb
       rcases hor with rfl | hmem
       ·have := hout _ (Nat.le_refl _) hkl
        simp only [Array.getD_eq_getD_getElem?] at this hl
        rw [Array.getElem?_eq_getElem (by omega)] at this hl
        simp at this hl
        rw [this] at hl; cases hl
       ·have hon : e.on < k := by
         rcases Nat.lt_or_ge e.on k with h'' | h''
         ·exact h''
         ·have := hout e.on h'' (by omega)
          simp only [Array.getD_eq_getD_getElem?] at this hl
          rw [Array.getElem?_eq_getElem (by omega)] at this hl
          simp at this hl
          rw [this] at hl; cases hl
        -- below k everything in the closure is below k
        obtain ⟨e2, he2, hb2, hlt2, hor2⟩ := mem_clo (List.getElem?_eq_getElem (show e.on < l.length by omega)) hmem
        have low : ∀ (t j : Nat), j ≤ t → j < k → k ∈ clo l j → False := by
         intro t
         induction t with
         | zero => intro j hjt hjk hkj; obtain ⟨e, _, _, hlt, _⟩ := mem_clo (List.getElem?_eq_getElem (show j < l.length by omega)) hkj; omega
         | succ t iht2 =>
          intro j hjt hjk hkj
          obtain ⟨e, _, _, hlt, hor⟩ := mem_clo (List.getElem?_eq_getElem (show j < l.length by omega)) hkj
          rcases hor with rfl | hmem
          ·omega
          ·exact iht2 e.on (by omega) (by omega) hmem
        exact low _ _ (Nat.le_refl _) hon hmem
     refine key i i (fun oj hoj e he hb => ?_) (Nat.le_refl _) hmem hil
     rw [hoi'] at hoj; cases hoj
     exact hall e he hb
    ·omega
   have hkready : k ∈ Region.ready .any l.toArray listed := by
    refine mem_ready.2 ⟨hout k (Nat.le_refl _) hkl, o, by simpa using ho, fun e he hb => ?_⟩
    have hlt := ok.back k o ho e (by simpa using he) hb
    have := hin e.on hlt
    simp only [Array.getD_eq_getD_getElem?] at this ⊢
    rw [Array.getElem?_eq_getElem (by omega)] at this ⊢
    simpa using this
   refine ⟨fun h0 => (by rw [h0] at hkready; cases hkready), fun i hi => ?_⟩
   obtain rfl := hready i hi
   have hdrop : l.drop i = o :: l.drop (i + 1) := by
    rw [List.drop_eq_getElem_cons hkl]
    have := (List.getElem?_eq_some_iff.1 ho).2
    rw [this]
   rw [hdrop] at h
   unfold wpListIn at h
   unfold wpOpIn
   have hoA : l.toArray[i]? = some o := by simpa using ho
   rw [hoA]
   have nxt : ∀ a' w', wpListIn (FR r0) 9 P l.toArray (lowI n d0 F Q) (l.drop (i + 1)) a' w' → wpAnyIn (FR r0) 9 P .any l.toArray (lowI n d0 F Q) fuel (listed.setIfInBounds i true) a' w' := by
    intro a' w' h'
    refine ih (i + 1) (listed.setIfInBounds i true) a' w' (by omega) (by omega) (by simp [hsz]) ?_ ?_ h'
    ·intro j hj
     simp only [Array.getD_eq_getD_getElem?, Array.getElem?_setIfInBounds]
     by_cases hij : i = j
     ·subst hij; simp [hsz, hkl]
     ·simp only [hij, if_false]
      have := hin j (by omega)
      simpa [Array.getD_eq_getD_getElem?] using this
    ·intro j hj hjl
     simp only [Array.getD_eq_getD_getElem?, Array.getElem?_setIfInBounds]
     have hij : ¬ i = j := by omega
     simp only [hij, if_false]
     have := hout j (by omega) hjl
     simpa [Array.getD_eq_getD_getElem?] using this
   show (if Region.wanted o (yielded l.toArray a.tmps) = true then _ else _)
   split
   ·rename_i hw
    rw [if_pos hw] at h
    exact Oper.wpIn_mono nxt h
   ·rename_i hw
    rw [if_neg hw] at h
    exact ⟨h.1, nxt _ _ h.2⟩
 -- all of the head is done
 have finish : ∀ (fuel : Nat) (listed : Array Bool) (ex : List Nat) (vals : Nat → Value) (a : Act) (w : World), fuel + ex.length = l.length → listed.size = l.length → ex.Nodup → (∀ i, i ∈ ex ↔ i < m) →
   (∀ i, i < l.length → (listed.getD i true = true ↔ i ∈ ex)) → (∀ i ∈ ex, phi i ((uses.getD i []).map vals) (vals i)) →
   a.tmps.size = n → a.defers = d0 → (∀ i ∈ ex, ∀ o : Oper, l[i]? = some o → ∀ s, o.dst = some s → a.tmps.getD s undef = vals i) → (∀ s, (∀ i ∈ ex, ∀ o : Oper, l[i]? = some o → o.dst ≠ some s) → a.tmps.getD s undef = ρ s) →
   Holds F (made own uses vals ex ++ (Bs ++ L0)) w → wpAnyIn (FR r0) 9 P .any l.toArray (lowI n d0 F Q) fuel listed a w := by
  intro fuel listed ex vals a w hf hsz hnd hmem hlist hphi hsize hdef hs1 hs2 HH
  have hperm : ex.Perm (List.range m) := perm_of_mem hnd List.nodup_range (fun i => by rw [hmem]; simp)
  have hlen : ex.length = m := by rw [hperm.length_eq]; simp
  have hX := hend vals (fun i hi => hphi i ((hmem i).2 hi))
  have hone : ∀ (i j : Nat) (o q : Oper), (l.take m)[i]? = some o → (l.take m)[j]? = some q → ∀ d, o.dst = some d → q.dst = some d → i = j := by
   intro i j o q ho hq d hd hqd
   rw [List.getElem?_take] at ho hq
   split at ho
   ·split at hq
    ·rename_i h1 h2
     exact ok.one i j o q h1 h2 ho hq d hd hqd
    ·cases hq
   ·cases ho
  have rep : RepD n d0 a (canon vals (l.take m) 0 ρ) := by
   refine ⟨hsize, hdef, fun s => ?_⟩
   obtain ⟨c1, c2⟩ := canon_get vals (l.take m) 0 ρ s hone
   by_cases hw : ∃ i o, i < m ∧ l[i]? = some o ∧ o.dst = some s
   ·obtain ⟨i, o, hi, ho, hd⟩ := hw
    rw [hs1 i ((hmem i).2 hi) o ho s hd, c1 i o (by rw [List.getElem?_take, if_pos hi]; exact ho) hd, Nat.zero_add]
   ·rw [hs2 s (fun i hi o ho hd => hw ⟨i, o, (hmem i).1 hi, ho, hd⟩), c2 (fun i o ho hd => by
     rw [List.getElem?_take] at ho
     split at ho
     ·rename_i hi; exact hw ⟨i, o, hi, ho, hd⟩
     ·cases ho)]
  have hsub : Sub (made own uses vals ex ++ (Bs ++ L0)) (made own uses vals (List.range m) ++ (Bs ++ L0)) :=
   Sub.append (Sub.perm (hperm.flatMap_right _)) (Sub.refl _)
  have hwp := hX (by
   simp only [opsOkI, List.all_eq_true] at cokI ⊢
   exact fun o ho => cokI o (List.mem_of_mem_drop ho)) a w rep (hsub.holds HH)
  exact tailP m fuel listed a w (by omega) (Nat.le_refl _) hsz (fun i hi => (hlist i (by omega)).2 ((hmem i).2 hi)) (fun i hi hil => by
   cases hb : listed.getD i true with
   | false => rfl
   | true => have := (hmem i).1 ((hlist i hil).1 hb); omega) hwp
 -- the head, in any order
 have headP : ∀ (fuel : Nat) (listed : Array Bool) (ex : List Nat) (vals : Nat → Value) (a : Act) (w : World), fuel + ex.length = l.length → listed.size = l.length → ex.Nodup → (∀ i, i ∈ ex → i < m) →
   (∀ i, i < l.length → (listed.getD i true = true ↔ i ∈ ex)) → (∀ i ∈ ex, ∀ j ∈ clo l i, j ∈ ex) → (∀ i ∈ ex, phi i ((uses.getD i []).map vals) (vals i)) →
   a.tmps.size = n → a.defers = d0 → (∀ i ∈ ex, ∀ o : Oper, l[i]? = some o → ∀ s, o.dst = some s → a.tmps.getD s undef = vals i) → (∀ s, (∀ i ∈ ex, ∀ o : Oper, l[i]? = some o → o.dst ≠ some s) → a.tmps.getD s undef = ρ s) →
   Holds F (made own uses vals ex ++ (Bs ++ L0)) w → wpAnyIn (FR r0) 9 P .any l.toArray (lowI n d0 F Q) fuel listed a w := by
  intro fuel
  induction fuel with
  | zero =>
   intro listed ex vals a w hf hsz hnd hlt hlist hdown hphi hsize hdef hs1 hs2 HH
   have hall : ∀ i, i ∈ ex ↔ i < m := by
    intro i
    refine ⟨hlt i, fun hi => ?_⟩
    rcases Classical.em (i ∈ ex) with h' | h'
    ·exact h'
    ·have := nodup_lt m (i :: ex) (List.nodup_cons.2 ⟨h', hnd⟩) (fun k hk => by
      rcases List.mem_cons.1 hk with rfl | hk
      ·exact hi
      ·exact hlt k hk)
     simp at this
     omega
   exact finish 0 listed ex vals a w hf hsz hnd hall hlist hphi hsize hdef hs1 hs2 HH
  | succ fuel ih =>
   intro listed ex vals a w hf hsz hnd hlt hlist hdown hphi hsize hdef hs1 hs2 HH
   by_cases hcov : ∀ i, i < m → i ∈ ex
   ·exact finish (fuel + 1) listed ex vals a w hf hsz hnd (fun i => ⟨hlt i, hcov i⟩) hlist hphi hsize hdef hs1 hs2 HH
   -- an operation that is ready: what stands ahead of it is done
   have ahead : ∀ i ∈ Region.ready .any l.toArray listed, i < l.length ∧ i ∉ ex ∧ ∀ j ∈ clo l i, j ∈ ex := by
    intro i hi
    obtain ⟨hun, o, ho, hall⟩ := mem_ready.1 hi
    have ho' : l[i]? = some o := by simpa using ho
    have hil : i < l.length := (List.getElem?_eq_some_iff.1 ho').1
    refine ⟨hil, fun hm => ?_, fun j hj => ?_⟩
    ·rw [(hlist i hil).2 hm] at hun; cases hun
    ·obtain ⟨e, he, hb, hlt', hor⟩ := mem_clo ho' hj
     have hl := hall e (by simpa using he) hb
     have hex : e.on ∈ ex := by
      refine (hlist e.on (by omega)).1 ?_
      simp only [Array.getD_eq_getD_getElem?] at hl ⊢
      rw [Array.getElem?_eq_getElem (by omega)] at hl ⊢
      simpa using hl
     rcases hor with rfl | hj'
     ·exact hex
     ·exact hdown _ hex _ hj'
   have small : ∀ i ∈ Region.ready .any l.toArray listed, i < m := by
    intro i hi
    obtain ⟨hil, _, hc⟩ := ahead i hi
    rcases Nat.lt_or_ge i m with h' | h'
    ·exact h'
    ·exact absurd (fun j hj => hc j (ok.tail i h' hil j (by omega))) hcov
   refine ⟨fun h0 => ?_, fun i hi => ?_⟩
   · -- not all is done, so something is ready: the least that is not listed
    exfalso
    apply hcov
    intro i
    induction i using Nat.strongRecOn with
    | _ i ihs =>
     intro him
     rcases Classical.em (i ∈ ex) with h' | h'
     ·exact h'
     ·exfalso
      have hil : i < l.length := by omega
      have : i ∈ Region.ready .any l.toArray listed := by
       refine mem_ready.2 ⟨?_, l[i], by simp [hil], fun e he hb => ?_⟩
       ·cases hb : listed.getD i true with
        | false => rfl
        | true => exact absurd ((hlist i hil).1 hb) h'
       ·have hlt' := ok.back i l[i] (List.getElem?_eq_getElem hil) e (by simpa using he) hb
        have := (hlist e.on (by omega)).2 (ihs e.on hlt' (by omega))
        simp only [Array.getD_eq_getD_getElem?] at this ⊢
        rw [Array.getElem?_eq_getElem (by omega)] at this ⊢
        simpa using this
      rw [h0] at this
      cases this
   ·obtain ⟨hil, hnex, hclo⟩ := ahead i hi
    have him := small i hi
    obtain ⟨o, ho⟩ : ∃ o, l[i]? = some o := ⟨l[i], List.getElem?_eq_getElem hil⟩
    have hG := stepsP_get (l.take m) 0 hstep i o (by rw [List.getElem?_take, if_pos him]; exact ho) vals (made own uses vals ex ++ L0) (fun j hj => hphi j (hclo j (ok.cls i hil j (by simpa using hj))))
    rw [Nat.zero_add] at hG
    have H2 : Holds F (Bs ++ (made own uses vals ex ++ L0)) w := by
     refine Sub.holds (Sub.perm ?_) HH
     rw [← List.append_assoc, ← List.append_assoc]
     exact List.perm_append_comm.append_right L0
    have hone : ∀ (k j : Nat) (o q : Oper), (l.take i)[k]? = some o → (l.take i)[j]? = some q → ∀ d, o.dst = some d → q.dst = some d → k = j := by
     intro k j o q ho hq d hd hqd
     rw [List.getElem?_take] at ho hq
     split at ho
     ·split at hq
      ·rename_i h1 h2
       exact ok.one k j o q (by omega) (by omega) ho hq d hd hqd
      ·cases hq
     ·cases ho
    have slot : ∀ s ∈ o.looksAt l.toArray, a.tmps.getD s undef = canon vals (l.take i) 0 ρ s := by
     intro s hs
     obtain ⟨c1, c2⟩ := canon_get vals (l.take i) 0 ρ s hone
     by_cases hw : ∃ j q, j < m ∧ l[j]? = some q ∧ q.dst = some s
     ·obtain ⟨j, q, hj, hq, hd⟩ := hw
      rcases ok.read i j o q him hj ho hq s hs hd with ⟨hjc, hji⟩ | ⟨hic, hij⟩
      ·rw [hs1 j (hclo j hjc) q hq s hd, c1 j q (by rw [List.getElem?_take, if_pos hji]; exact hq) hd, Nat.zero_add]
      ·rw [hs2 s (fun k hk q2 hq2 hd2 => by
        obtain rfl := ok.one k j q2 q (hlt k hk) hj hq2 hq s hd2 hd
        exact hnex (hdown k hk i hic)), c2 (fun k q2 hq2 hd2 => by
        rw [List.getElem?_take] at hq2
        split at hq2
        ·rename_i hk
         have := ok.one k j q2 q (by omega) hj hq2 hq s hd2 hd
         omega
        ·cases hq2)]
     ·rw [hs2 s (fun j hj q hq hd => hw ⟨j, q, hlt j hj, hq, hd⟩), c2 (fun j q hq hd => by
       rw [List.getElem?_take] at hq
       split at hq
       ·rename_i hj; exact hw ⟨j, q, by omega, hq, hd⟩
       ·cases hq)]
    have hev : execOp a.eval o = execOp (evO (canon vals (l.take i) 0 ρ)) o := by
     refine execOp_congr o (ok.sel i o ho) fun x hx => ?_
     cases x with
     | tmp t => exact slot t (List.mem_append_left _ (List.mem_filterMap.2 ⟨.tmp t, by simpa using hx, rfl⟩))
     | _ => rfl
    have hus : ∀ j ∈ uses.getD i [], j ≠ i := fun j hj e => hnex (hclo i (e ▸ ok.uses i hil j hj))
    have husx : ∀ k ∈ ex, i ∉ uses.getD k [] := fun k hk hm => hnex (hdown k hk i (ok.uses k (by have := hlt k hk; omega) i hm))
    have hdo : dOk n o.dst = true := by
     simp only [opsOk, List.all_eq_true] at cok'
     exact cok' o (List.mem_of_getElem? ho)
    have next : ∀ v w', Holds F (own i ((uses.getD i []).map vals) v ++ (Bs ++ (made own uses vals ex ++ L0))) w' → phi i ((uses.getD i []).map vals) v → wpAnyIn (FR r0) 9 P .any l.toArray (lowI n d0 F Q) fuel (listed.setIfInBounds i true) (a.put o.dst v) w' := by
     intro v w' H3 hp
     have hi' : (uses.getD i []).map (fun j => if j = i then v else vals j) = (uses.getD i []).map vals := map_upd (fun h => hus i h rfl)
     have hx' : ∀ k ∈ ex, (uses.getD k []).map (fun j => if j = i then v else vals j) = (uses.getD k []).map vals := fun k hk => map_upd (husx k hk)
     have hki : ∀ k ∈ ex, k ≠ i := fun k hk e => hnex (e ▸ hk)
     have hmade : made own uses (fun j => if j = i then v else vals j) (i :: ex) = own i ((uses.getD i []).map vals) v ++ made own uses vals ex := by
      simp only [made, List.flatMap_cons, hi', if_true]
      congr 1
      rw [List.flatMap_def, List.flatMap_def]
      congr 1
      apply List.map_congr_left
      intro k hk
      rw [hx' k hk, if_neg (hki k hk)]
     refine ih (listed.setIfInBounds i true) (i :: ex) (fun j => if j = i then v else vals j) _ w' (by simp; omega) (by simp [hsz]) (List.nodup_cons.2 ⟨hnex, hnd⟩) ?_ ?_ ?_ ?_ ?_ ?_ ?_ ?_ ?_
     ·intro k hk; rcases List.mem_cons.1 hk with rfl | hk
      ·exact him
      ·exact hlt k hk
     ·intro k hk
      simp only [Array.getD_eq_getD_getElem?, Array.getElem?_setIfInBounds, List.mem_cons]
      by_cases hik : i = k
      ·subst hik; simp [hsz, hil]
      ·have := hlist k hk
       simp only [Array.getD_eq_getD_getElem?] at this
       simp only [hik, if_false, this]
       constructor
       ·exact fun h => .inr h
       ·rintro (rfl | h)
        ·exact absurd rfl hik
        ·exact h
     ·intro k hk j hj
      rcases List.mem_cons.1 hk with rfl | hk
      ·exact List.mem_cons_of_mem _ (hclo j hj)
      ·exact List.mem_cons_of_mem _ (hdown k hk j hj)
     ·intro k hk
      rcases List.mem_cons.1 hk with rfl | hk
      ·rw [hi', if_pos rfl]; exact hp
      ·rw [hx' k hk, if_neg (hki k hk)]; exact hphi k hk
     ·cases o.dst <;> simp [Act.put, hsize]
     ·cases o.dst <;> simp [Act.put, hdef]
     ·intro k hk q hq s hd
      rcases List.mem_cons.1 hk with rfl | hk
      ·rw [ho] at hq; cases hq
       rw [if_pos rfl, hd]
       have hsn : s < n := by rw [hd] at hdo; exact Nat.le_of_ble_eq_true hdo
       simp [Act.put, Array.getD_eq_getD_getElem?, Array.getElem?_setIfInBounds, hsize, hsn]
      ·rw [if_neg (hki k hk)]
       have hne : o.dst ≠ some s := fun e => hki k hk (ok.one k i q o (hlt k hk) him hq ho s hd e)
       have := hs1 k hk q hq s hd
       cases hod : o.dst with
       | none => simpa [Act.put] using this
       | some d =>
        have hds : d ≠ s := fun e => hne (by rw [hod, e])
        simp only [Act.put, Array.getD_eq_getD_getElem?, Array.getElem?_setIfInBounds_ne hds] at this ⊢
        exact this
     ·intro s hno
      have hne : o.dst ≠ some s := hno i List.mem_cons_self o ho
      have := hs2 s (fun k hk q hq => hno k (List.mem_cons_of_mem _ hk) q hq)
      cases hod : o.dst with
      | none => simpa [Act.put] using this
      | some d =>
       have hds : d ≠ s := fun e => hne (by rw [hod, e])
       simp only [Act.put, Array.getD_eq_getD_getElem?, Array.getElem?_setIfInBounds_ne hds] at this ⊢
       exact this
     ·rw [hmade]
      refine Sub.holds (Sub.perm ?_) H3
      rw [List.append_assoc]
      refine List.Perm.append_left _ ?_
      rw [← List.append_assoc, ← List.append_assoc]
      exact List.perm_append_comm.append_right L0
    have opwp : XOp P o (canon vals (l.take i) 0 ρ) F (Bs ++ (made own uses vals ex ++ L0)) (fun v F' L' => F = F' ∧ phi i ((uses.getD i []).map vals) v ∧ L' = own i ((uses.getD i []).map vals) v ++ (Bs ++ (made own uses vals ex ++ L0))) →
      o.wpIn (FR r0) 9 P a w (wpAnyIn (FR r0) 9 P .any l.toArray (lowI n d0 F Q) fuel (listed.setIfInBounds i true)) (lowI n d0 F Q) := by
     intro hop
     refine ⟨fun _ _ => trivial, ?_⟩
     rw [Oper.semAt_eq _ _ _ (cokD o (List.mem_of_getElem? ho)), hev]
     rcases hop w H2 with ⟨v, w', F', L', h1, _, h3, rfl, hp, rfl⟩ | ⟨w', F', L', h1, _, h3, rfl, hp, rfl⟩ | ⟨f, args, w', h1, h2⟩
     ·rw [h1]; exact next v w' h3 hp
     ·rw [h1]; exact next undef w' h3 hp
     ·rw [h1]
      refine ⟨fun _ => by decide, callsIn_FR (h2.mono fun e w'' ⟨v, F', L', he, _, hH, hk⟩ => ?_)⟩
      obtain ⟨rfl, hp, rfl⟩ := hk
      subst he
      exact next v w'' hH hp
    unfold wpOpIn
    have hoA : l.toArray[i]? = some o := by simpa using ho
    rw [hoA]
    show (if Region.wanted o (yielded l.toArray a.tmps) = true then _ else _)
    unfold XG at hG
    cases hg : o.guard with
    | none =>
     rw [hg] at hG
     rw [if_pos (by simp [Region.wanted, hg])]
     exact opwp hG
    | some gw =>
     obtain ⟨j, want⟩ := gw
     rw [hg] at hG
     obtain ⟨t, ht, ⟨b, hv, hif⟩ | ⟨hv, hif⟩⟩ := hG
     ·have hy : yielded l.toArray a.tmps j = some b := by
       unfold yielded
       rw [ht]
       have hts := slot t (List.mem_append_right _ (by simp only [hg]; simpa using ht))
       rw [hv, Array.getD_eq_getD_getElem?] at hts
       cases hx : a.tmps[t]? with
       | none => rw [hx] at hts; simp [undef] at hts
       | some x => rw [hx] at hts; simp at hts; subst hts; simp [hx]
      by_cases hb : b = want
      ·rw [if_pos hb] at hif
       rw [if_pos (by simp [Region.wanted, hg, hy, hb])]
       exact opwp hif
      ·rw [if_neg hb] at hif
       rw [if_neg (by simp [Region.wanted, hg, hy, hb])]
       obtain ⟨_, hp, hL'⟩ := hif
       have := next undef w (by rw [← hL']; exact H2) hp
       exact ⟨fun _ _ => trivial, this⟩
     ·have hy : yielded l.toArray a.tmps j = none := by
       unfold yielded
       rw [ht]
       have hts := slot t (List.mem_append_right _ (by simp only [hg]; simpa using ht))
       rw [hv, Array.getD_eq_getD_getElem?] at hts
       cases hx : a.tmps[t]? with
       | none => simp [hx]
       | some x => rw [hx] at hts; simp at hts; subst hts; simp [hx, undef]
      rw [if_neg (by simp [Region.wanted, hg, hy])]
      obtain ⟨_, hp, hL'⟩ := hif
      have := next undef w (by rw [← hL']; exact H2) hp
      exact ⟨fun _ _ => trivial, this⟩
 refine headP l.toArray.size (Array.replicate l.toArray.size false) [] (fun _ => undef) a w0 (by simp) (by simp) List.nodup_nil (by simp) ?_ (by simp) (by simp) r.size r.defers (by simp) (fun s _ => r.get s) H1
 intro i hi
 simp only [Array.getD_eq_getD_getElem?, Array.getElem?_replicate]
 simp [hi]
def setP : List (Tmp × Value) → Env → Env
 | [], ρ => ρ
 | p :: l, ρ => setP l (upd ρ p.1 p.2)
theorem setP_rep {n : Nat} : ∀ (l : List (Tmp × Value)) (t : Array Value) (ρ : Env), t.size = n → (∀ i, t.getD i undef = ρ i) → (∀ p ∈ l, p.1 < n) →
  ((l.foldl (fun t (p : Tmp × Value) => t.setIfInBounds p.1 p.2) t).size = n ∧ ∀ i, (l.foldl (fun t (p : Tmp × Value) => t.setIfInBounds p.1 p.2) t).getD i undef = setP l ρ i)
 | [], t, ρ, h1, h2, _ => ⟨h1, h2⟩
 | p :: l, t, ρ, h1, h2, h3 => by
  rw [List.foldl_cons]
  refine setP_rep l _ _ (by simp [h1]) (fun i => ?_) (fun q hq => h3 q (List.mem_cons_of_mem _ hq))
  have hp := h3 p (by simp)
  have r : Rep n { tmps := t, defers := [] } ρ := ⟨h1, rfl, h2⟩
  have := (r.put (d := some p.1) (by simpa [dOk, Nat.blt] using Nat.ble_eq_true_of_le hp) p.2).get i
  simpa [Act.put, putE] using this
def roundQ (l : Nat) (R : Loop) (K : Post) : QX := fun e _ F L => e = .normal ∧ ∃ L0, Sub L (objH l (.loop { R with state := .busy }) :: L0) ∧ K (.bool true) F (objH l (.loop { R with state := .ready, pending := none }) :: L0)
theorem Holds.turn {F : FH} {L : List HP} {l : Nat} {o o' : Obj} {w : World} (H : Holds F (objH l o :: L) w) : Holds F (objH l o' :: L) (w.putObj l o') := by
 have hg := Holds.get (A := []) H
 have hlt := (Array.getElem?_eq_some_iff.1 hg).1
 exact Holds.put (A := []) H rfl rfl rfl (World.putObj_heap_same hlt) (fun k hk => World.putObj_heap_other hk)
theorem Yld.of_round {P : Program} {n l : Nat} {R : Loop} {ps : Array Tmp} {assign body : Code} {args : List Value} {F : FH} {L : List HP} {ρ : Env} {K : Post}
  (hr : R.state = .ready) (hp0 : R.pending = none) (hps : R.params = ps) (ha : R.assign = assign) (hb : R.body = body) (hsz : R.tmps.size = n) (hget : ∀ i, R.tmps.getD i undef = ρ i)
  (hlen : args.length = ps.size) (hlt0 : (ps.toList.all fun p => Nat.blt p n) = true) (oka : cOkI n assign = true) (okb : cOkI n body = true)
  (h : XI P n (some l) [] assign (thenQ (fun ρ1 F1 L1 => ∃ L2, Sub L1 (objH l (.loop R) :: L2) ∧ XI P n (some l) [] body (roundQ l R K) ρ1 F1 (objH l (.loop { R with state := .busy }) :: L2)) (fun _ _ _ _ => False)) (setP (ps.toList.zip args) ρ) F (objH l (.loop R) :: L)) :
  Yld P l args F (objH l (.loop R) :: L) K := by
 have hlt : ∀ p ∈ ps.toList, p < n := fun p hp => Nat.le_of_ble_eq_true (List.all_eq_true.1 hlt0 p hp)
 intro w H
 have hl := Holds.get (A := []) H
 have hy := run_yield (P := P) (args := args.toArray) hl (by rw [hps]; simp [hlen])
 refine ⟨_, _, _, _, hy, roundIn_of_wpIn trivial ?_⟩
 have hfold : (R.params.zip args.toArray).foldl (fun tmps (x : Tmp × Value) => tmps.setIfInBounds x.1 x.2) R.tmps = (ps.toList.zip args).foldl (fun t (p : Tmp × Value) => t.setIfInBounds p.1 p.2) R.tmps := by
  rw [hps, ← Array.foldl_toList, Array.toList_zip]
 have hset := setP_rep (n := n) (ps.toList.zip args) R.tmps ρ hsz hget (fun p hp => hlt p.1 (List.of_mem_zip hp).1)
 have hrep : RepD n [] { tmps := (R.params.zip args.toArray).foldl (fun tmps (x : Tmp × Value) => tmps.setIfInBounds x.1 x.2) R.tmps, defers := [] } (setP (ps.toList.zip args) ρ) := by
  rw [hfold]; exact ⟨hset.1, rfl, hset.2⟩
 rw [ha, hb]
 refine wpIn_mono (F := Fence.wide.inRound l) (n := 9) (show Code.wpIn (Fence.wide.inRound l) 9 P assign _ _ w from h oka _ w hrep H) ?_
 rintro e a1 w1 ⟨ρ1, F1, L1, r1, le1, H1, q⟩
 cases e with
 | normal =>
  obtain ⟨L2, s2, q2⟩ := q
  have H2 := s2.holds H1
  have hl2 := Holds.get (A := []) H2
  refine ⟨_, run_beginRound hl2 hr, ?_⟩
  refine wpIn_mono (F := Fence.wide.inRound l) (n := 9) (show Code.wpIn (Fence.wide.inRound l) 9 P body _ _ _ from q2 okb a1 _ r1 H2.turn) ?_
  rintro e a3 w3 ⟨ρ3, F3, L3, r3, le3, H3, he, L4, s4, k4⟩
  subst he
  have H4 := s4.holds H3
  have hl4 := Holds.get (A := []) H4
  refine ⟨_, _, run_endRound none hl4, _, F3, _, rfl, le1.trans le3, H4.turn, ?_⟩
  exact k4
 | _ => exact q.elim
def markD (D : Nat) : List Deferred := [{ target := .collected D, args := #[] }]
def fin (P : Program) (F0 : FH) (Q : Post) : Ending → World → Prop := fun e w' => ∃ v F' L', e = .returned v ∧ F0 ≤ F' ∧ Holds F' L' w' ∧ Q v F' L'
def XF (P : Program) (fn : Func) (F0 : FH) (c : Code) (Q : Post) (ρ : Env) (F : FH) (L : List HP) : Prop :=
 cOkI fn.ntmps c = true → ∀ a w, Rep fn.ntmps a ρ → Holds F L w → c.wpIn Fence.wide 9 P (bodyPostM Fence.wide 9 P fn (fin P F0 Q)) a w
theorem Does.of_XF {P : Program} {f : FuncId} {fn : Func} {c : Code} {args : List Value} {F : FH} {L : List HP} {Q : Post}
  (hf : P.funcs[f]? = some fn) (hb : fn.body = some c) (hd : cOkI fn.ntmps c = true) (hn : Nat.ble args.length fn.ntmps = true)
  (h : XF P fn F c Q (env0 args) F L) : Does P f args F L Q := by
 intro w H
 refine callsIn_wide.1 (callsIn_of_wp_marks (n := 9) hf hb trivial (h hd _ w ⟨?_, rfl, fun i => ?_⟩ H))
 ·have := Nat.le_of_ble_eq_true hn
  simp
  omega
 ·simp only [env0, Array.getD_eq_getD_getElem?, List.getD_eq_getElem?_getD, Array.getElem?_append, List.size_toArray, List.getElem?_toArray, Array.getElem?_replicate]
  split
  ·rfl
  ·rename_i hi
   rw [List.getElem?_eq_none (Nat.le_of_not_lt hi)]
   split <;> rfl
theorem cOkI_cOk {n : Nat} : ∀ {c : Code}, cOkI n c = true → cOk n c = true
 | .region _ ops _, h => opsOkI_ops (l := ops.toList) h
 | .seq a b, h => by simp only [cOkI, cOk, Bool.and_eq_true] at h ⊢; exact ⟨cOkI_cOk h.1, cOkI_cOk h.2⟩
 | .cond _ a b, h => by simp only [cOkI, cOk, Bool.and_eq_true] at h ⊢; exact ⟨cOkI_cOk h.1, cOkI_cOk h.2⟩
 | .block _ a, h => by simp only [cOkI, cOk] at h ⊢; exact cOkI_cOk h
 | .loop a, h => by simp only [cOkI, cOk] at h ⊢; exact cOkI_cOk h
 | .scope a, h => by simp only [cOkI, cOk] at h ⊢; exact cOkI_cOk h
 | .rangeFunc _ _ a b, h => by simp only [cOkI, cOk, Bool.and_eq_true] at h ⊢; exact ⟨cOkI_cOk h.1, cOkI_cOk h.2⟩
 | .skip, _ => rfl
 | .exit _, _ => rfl
 | .ret, _ => rfl
 | .label _, _ => rfl
 | .goto _, _ => rfl
 | .refuse _, _ => rfl
def finD (P : Program) (fn : Func) (F0 : FH) (D : Nat) (Q : Post) : QX := fun e ρ F L => (e = .ret ∨ e = .normal) ∧ ∃ vs L1 L' F2, ResAll P F (objH D (.deferred none) :: L1) ρ fn.results.toList vs ∧ F0 ≤ F2 ∧ F2 ≤ F ∧ Sub L (objH D (.deferred (some [])) :: L1) ∧ Sub L1 L' ∧ Q (oneOr vs) F2 L'
theorem retEndD {P : Program} {fn : Func} {F0 F2 : FH} {D : Nat} {Q : Post} {ρ : Env} {F : FH} {L L' : List HP} (vs : List Value) (v : Value) (hr : ∀ F L, ResAll P F L ρ fn.results.toList vs) (hv : oneOr vs = v) (l1 : F0 ≤ F2) (l2 : F2 ≤ F) (s : Sub L (objH D (.deferred (some [])) :: L')) (h : Q v F2 L') : finD P fn F0 D Q .ret ρ F L :=
 ⟨.inl rfl, vs, L', L', F2, hr _ _, l1, l2, s, Sub.refl _, hv ▸ h⟩
section
variable {P : Program} {fn : Func} {Q : Post} {ρ : Env} {F F0 : FH} {L : List HP}
theorem XF.seq {x y : Code} (h : X P fn.ntmps x (thenQ (fun ρ' F' L' => XF P fn F0 y Q ρ' F' L') (fun _ _ _ _ => False)) ρ F L) : XF P fn F0 (.seq x y) Q ρ F L := by
 intro ok a w r H
 simp only [cOkI, Bool.and_eq_true] at ok
 refine wpIn_seq (wpIn_mono (wpIn_wide.2 (h (cOkI_cOk ok.1) a w r H)) ?_)
 rintro e a' w' ⟨ρ', F', L', r', le, H', q⟩
 cases e with
 | normal => exact q ok.2 a' w' r' H'
 | _ => exact q.elim
def XR (P : Program) (fn : Func) (F0 : FH) (c rest : Code) (Q : Post) (ρ : Env) (F : FH) (L : List HP) : Prop :=
 cOkI fn.ntmps c = true → cOkI fn.ntmps rest = true → ∀ a w, Rep fn.ntmps a ρ → Holds F L w →
  c.wpIn Fence.wide 9 P (Exit.then (rest.wpIn Fence.wide 9 P (bodyPostM Fence.wide 9 P fn (fin P F0 Q))) (bodyPostM Fence.wide 9 P fn (fin P F0 Q))) a w
theorem XF.ofR {c rest : Code} (h : XR P fn F0 c rest Q ρ F L) : XF P fn F0 (.seq c rest) Q ρ F L := by
 intro ok a w r H
 simp only [cOkI, Bool.and_eq_true] at ok
 exact wpIn_seq (h ok.1 ok.2 a w r H)
theorem XR.seq {x y rest : Code} (h : X P fn.ntmps x (thenQ (fun ρ' F' L' => XR P fn F0 y rest Q ρ' F' L') (fun _ _ _ _ => False)) ρ F L) : XR P fn F0 (.seq x y) rest Q ρ F L := by
 intro ok okr a w r H
 simp only [cOkI, Bool.and_eq_true] at ok
 refine wpIn_seq (wpIn_mono (wpIn_wide.2 (h (cOkI_cOk ok.1) a w r H)) ?_)
 rintro e a' w' ⟨ρ', F', L', r', le, H', q⟩
 cases e with
 | normal => exact q ok.2 okr a' w' r' H'
 | _ => exact q.elim
theorem XR.rangeB {id : Nat} {g : Operand} {ps : Array Tmp} {assign body rest : Code} {gf : Nat} {lb : List Value}
  (hg : evO ρ g = .func (.func gf) #[] lb.toArray) (eg : ∀ args w, (callFunc gf args).run P w = .ok (.enter gf args) w)
  (h : ∀ (l D : Nat) (R : Loop), R.state = .ready → R.pending = none → R.params = ps → R.assign = assign → R.body = body → R.tmps.size = fn.ntmps → (∀ i, R.tmps.getD i undef = ρ i) →
   Does P gf (.func (.yield l) #[] #[] :: lb) F (objH l (.loop R) :: objH D (.deferred (some [])) :: L) (fun _ F' L' => ∃ (R' : Loop) (L2 : List HP), R'.state ≠ .busy ∧ R'.pending = none ∧
    Sub L' (objH l (.loop R') :: objH D (.deferred (some [])) :: L2) ∧ XI P fn.ntmps none (markD D) rest (finD P fn F0 D Q) ρ F' (objH D (.deferred (some [])) :: L2))) :
  XR P fn F0 (.block id (.rangeFunc g ps assign body)) rest Q ρ F L := by
 intro ok1 okr a w r H
 have ok : cOkI fn.ntmps (.block id (.rangeFunc g ps assign body)) = true ∧ cOkI fn.ntmps rest = true := ⟨ok1, okr⟩
 refine wpIn_block (wpIn_rangeFunc (fun fid _ => ?_))
 have H1 := H.new (.deferred (some []))
 have H2 := H1.new (.loop { state := .ready, pending := none, fn := fid, tmps := a.tmps, params := ps, assign, body, defers := w.heap.size })
 rw [World.size_alloc] at H2
 have he := run_enterLoop_outer (P := P) (w := w) fid a.tmps ps assign body
 generalize (w.alloc (.deferred (some []))).alloc (.loop { state := .ready, pending := none, fn := fid, tmps := a.tmps, params := ps, assign, body, defers := w.heap.size }) = W1 at he H2
 have hd := h (w.heap.size + 1) w.heap.size { state := .ready, pending := none, fn := fid, tmps := a.tmps, params := ps, assign, body, defers := w.heap.size } rfl rfl rfl rfl rfl r.size r.get W1 H2
 refine ⟨w.heap.size + 1, markD w.heap.size, W1, { target := .fn (.func gf) lb.toArray, args := #[.func (.yield (w.heap.size + 1)) #[] #[]] }, W1, gf, #[.func (.yield (w.heap.size + 1)) #[] #[]] ++ lb.toArray, W1, he, ?_, fun _ _ => trivial, ?_, fun _ => by decide, ?_⟩
 ·have hg' : a.eval g = .func (.func gf) #[] lb.toArray := by rw [r.eval]; exact hg
  simp only [resolve, hg', Deferred.ofValue]
  simp [go_sem, Act.eval]
 ·simp [invoke, go_sem, eg]
 ·have hargs : (Value.func (.yield (w.heap.size + 1)) #[] #[] :: lb).toArray = #[.func (.yield (w.heap.size + 1)) #[] #[]] ++ lb.toArray := by simp
  rw [hargs] at hd
  refine callsIn_wide.2 (hd.mono ?_)
  rintro e w3 ⟨v, F', L', rfl, le, H3, R', L2, hb, hp, hs, hx⟩
  have H4 := hs.holds H3
  have hl := Holds.get (A := []) H4
  have hend := (run_endLoop (P := P) hl hb).trans (congrArg (fun p => Result.ok p _) hp)
  have H5 := (Sub.drop (Sub.refl _)).holds (H4.turn (o' := .loop { R' with state := .exhausted }))
  refine ⟨none, _, hend, ?_⟩
  have r' : RepD fn.ntmps (markD w.heap.size) { a with defers := markD w.heap.size ++ a.defers } ρ := ⟨r.size, by simp [r.defers], r.get⟩
  refine wpIn_mono (hx ok.2 _ _ r' H5) ?_
  rintro e a4 w4 ⟨ρ4, F4, L4, r4, le4, H6, he, vs, L5, L6, F2, hv, l1, l2, hsub, hsub2, q⟩
  have H7 := hsub.holds H6
  have hk := Holds.get (A := []) H7
  have H8 := H7.turn (o' := .deferred none)
  have hres := results_run (P := P) (fn := fn) (n := fn.ntmps) (a := { a4 with defers := [] }) (w := w4.putObj w.heap.size (.deferred none)) ⟨r4.size, rfl, r4.get⟩ H8 hv
  have hfin : fin P F0 Q (.returned (oneOr vs)) (w4.putObj w.heap.size (.deferred none)) := ⟨_, F2, L6, rfl, l1, ((Sub.drop hsub2).holds H8).forget l2, q⟩
  have hlv : LeavesInM Fence.wide 9 P fn a4.tmps (fin P F0 Q) (markD w.heap.size) .returning w4 := ⟨by simp, .inl ⟨_, _, rfl, run_takeDeferred hk, ⟨_, hres, hfin⟩⟩⟩
  rcases he with rfl | rfl
  ·show LeavesInM _ _ _ _ _ _ a4.defers _ _
   rw [r4.defers]; exact hlv
  ·show LeavesInM _ _ _ _ _ _ a4.defers _ _
   rw [r4.defers]; exact hlv
end
abbrev FoundT := List Int × Int × StepT × Int
def FoundF (F : FH) (es : List Value) (x : FoundT) : Prop := ∃ a0 a4, es = [a0, .int .i64 x.2.1, .int .i64 x.2.2.1.1, .int .i64 x.2.2.1.2.1, a4, .int .i64 x.2.2.2] ∧ IntsF F a0 x.1 ∧ IntsF F a4 x.2.2.1.2.2
theorem FoundF.mono {F F' : FH} (le : F ≤ F') (es : List Value) (x : FoundT) (h : FoundF F es x) : FoundF F' es x := by
 obtain ⟨a0, a4, e, h0, h4⟩ := h
 exact ⟨a0, a4, e, h0.mono le, h4.mono le⟩
def FoundsF (F : FH) (v : Value) (xs : List FoundT) (cs : List Value) : Prop := ArrF F 6 v xs.length cs ∧ CO 6 FoundF ([], 0, (0, 0, []), 0) F cs xs
theorem FoundsF.mono {F F' : FH} {v : Value} {xs : List FoundT} {cs : List Value} (h : FoundsF F v xs cs) (le : F ≤ F') : FoundsF F' v xs cs := ⟨h.1.mono le, CO.mono (FoundF.mono le) h.2⟩
theorem FoundsF.slv {F : FH} {L : List HP} {v : Value} {xs : List FoundT} {cs : List Value} (h : FoundsF F v xs cs) : SlV F L v xs.length := SlV.arr h.1
theorem FoundsF.isSl {F : FH} {v : Value} {xs : List FoundT} {cs : List Value} (h : FoundsF F v xs cs) : IsSl v := h.1.isSl
theorem FoundsF.rd {F : FH} {v : Value} {xs : List FoundT} {cs : List Value} (h : FoundsF F v xs cs) {i : Nat} (hi : i < xs.length) : ∃ a0 a4, IntsF F a0 (xs.getD i ([], 0, (0, 0, []), 0)).1 ∧ IntsF F a4 (xs.getD i ([], 0, (0, 0, []), 0)).2.2.1.2.2 ∧ (∀ L j u, ([a0, .int .i64 (xs.getD i ([], 0, (0, 0, []), 0)).2.1, .int .i64 (xs.getD i ([], 0, (0, 0, []), 0)).2.2.1.1, .int .i64 (xs.getD i ([], 0, (0, 0, []), 0)).2.2.1.2.1, a4, .int .i64 (xs.getD i ([], 0, (0, 0, []), 0)).2.2.2] : List Value)[j]? = some u → Rd F L (elemA v (i * 6 + j)) u) ∧ (∀ j u, ([a0, .int .i64 (xs.getD i ([], 0, (0, 0, []), 0)).2.1, .int .i64 (xs.getD i ([], 0, (0, 0, []), 0)).2.2.1.1, .int .i64 (xs.getD i ([], 0, (0, 0, []), 0)).2.2.1.2.1, a4, .int .i64 (xs.getD i ([], 0, (0, 0, []), 0)).2.2.2] : List Value)[j]? = some u → cs[i * 6 + j]? = some u) := by
 obtain ⟨es, h1, h2, a0, a4, rfl, h0, h4⟩ := h.2.2 i hi
 refine ⟨a0, a4, h0, h4, fun L j u hu => ?_, fun j u hu => ?_⟩
 ·have := Rd.arrN (L := L) (k := i * 6) (vs := [a0, .int .i64 (xs.getD i ([], 0, (0, 0, []), 0)).2.1, .int .i64 (xs.getD i ([], 0, (0, 0, []), 0)).2.2.1.1, .int .i64 (xs.getD i ([], 0, (0, 0, []), 0)).2.2.1.2.1, a4, .int .i64 (xs.getD i ([], 0, (0, 0, []), 0)).2.2.2]) h.1 (by rw [h1]; exact h2) j u hu
  rwa [elemA_add] at this
 ·rw [← h2, List.getElem?_take] at hu
  split at hu
  ·rwa [List.getElem?_drop] at hu
  ·cases hu
def FoundsC (F : FH) (cs : List Value) (xs : List FoundT) : Prop := CO 6 FoundF ([], 0, (0, 0, []), 0) F cs xs
theorem FoundsC.mono {F F' : FH} {cs : List Value} {xs : List FoundT} (h : FoundsC F cs xs) (le : F ≤ F') : FoundsC F' cs xs := CO.mono (FoundF.mono le) h
theorem FoundsC.snoc {F : FH} {cs : List Value} {xs : List FoundT} {a0 a4 : Value} {y0 : List Int} {y1 : Int} {y2 : Int} {y3 : Int} {y4 : List Int} {y5 : Int} (h : FoundsC F cs xs) (h0 : IntsF F a0 y0) (h4 : IntsF F a4 y4) : FoundsC F (cs ++ [a0, .int .i64 y1, .int .i64 y2, .int .i64 y3, a4, .int .i64 y5]) (xs ++ [(y0, y1, (y2, y3, y4), y5)]) := CO.snoc h rfl ⟨a0, a4, rfl, h0, h4⟩
theorem FoundsC.get {F : FH} {cs : List Value} {xs : List FoundT} (h : FoundsC F cs xs) {i : Nat} (hi : i < xs.length) : ∃ a0 a4, IntsF F a0 (xs.getD i ([], 0, (0, 0, []), 0)).1 ∧ IntsF F a4 (xs.getD i ([], 0, (0, 0, []), 0)).2.2.1.2.2 ∧ (∀ j u, ([a0, .int .i64 (xs.getD i ([], 0, (0, 0, []), 0)).2.1, .int .i64 (xs.getD i ([], 0, (0, 0, []), 0)).2.2.1.1, .int .i64 (xs.getD i ([], 0, (0, 0, []), 0)).2.2.1.2.1, a4, .int .i64 (xs.getD i ([], 0, (0, 0, []), 0)).2.2.2] : List Value)[j]? = some u → cs[i * 6 + j]? = some u) := by
 obtain ⟨es, hl, ⟨a0, a4, rfl, h0, h4⟩, hr⟩ := CO.get h hi
 exact ⟨a0, a4, h0, h4, hr⟩
theorem FoundsC.fz {F : FH} {cs : List Value} {xs : List FoundT} {E : TypeId} {v : Value} {n : Nat} (h : FoundsC F cs xs) (hn : n = xs.length) (hf : Fz (slH E 6 v n cs) F) : FoundsF F v xs cs := by
 subst hn
 exact ⟨hf.sl, h⟩
abbrev MoveT := Int × Int × Bool × List Int
def MoveF (F : FH) (es : List Value) (x : MoveT) : Prop := ∃ a3, es = [.int .i64 x.1, .int .i64 x.2.1, .bool x.2.2.1, a3] ∧ IntsF F a3 x.2.2.2
theorem MoveF.mono {F F' : FH} (le : F ≤ F') (es : List Value) (x : MoveT) (h : MoveF F es x) : MoveF F' es x := by
 obtain ⟨a3, e, h3⟩ := h
 exact ⟨a3, e, h3.mono le⟩
def MovesF : FH → Value → List MoveT → Prop := SlOf 4 MoveF (0, 0, false, [])
theorem MovesF.mono {F F' : FH} {v : Value} {xs : List MoveT} (h : MovesF F v xs) (le : F ≤ F') : MovesF F' v xs := SlOf.mono (MoveF.mono le) h le
theorem MovesF.slv {F : FH} {L : List HP} {v : Value} {xs : List MoveT} (h : MovesF F v xs) : SlV F L v xs.length := SlOf.slv h
theorem MovesF.isSl {F : FH} {v : Value} {xs : List MoveT} (h : MovesF F v xs) : IsSl v := by obtain ⟨_, h, _⟩ := h; exact h.isSl
theorem MovesF.rd {F : FH} {v : Value} {xs : List MoveT} (h : MovesF F v xs) {i : Nat} (hi : i < xs.length) : ∃ a3, IntsF F a3 (xs.getD i (0, 0, false, [])).2.2.2 ∧ (∀ L j u, ([.int .i64 (xs.getD i (0, 0, false, [])).1, .int .i64 (xs.getD i (0, 0, false, [])).2.1, .bool (xs.getD i (0, 0, false, [])).2.2.1, a3] : List Value)[j]? = some u → Rd F L (elemA v (i * 4 + j)) u) ∧ True := by
 obtain ⟨es, hl, ⟨a3, rfl, h3⟩, hr⟩ := SlOf.get h hi
 exact ⟨a3, h3, hr, trivial⟩
def MovesC (F : FH) (cs : List Value) (xs : List MoveT) : Prop := CO 4 MoveF (0, 0, false, []) F cs xs
theorem MovesC.mono {F F' : FH} {cs : List Value} {xs : List MoveT} (h : MovesC F cs xs) (le : F ≤ F') : MovesC F' cs xs := CO.mono (MoveF.mono le) h
theorem MovesC.snoc {F : FH} {cs : List Value} {xs : List MoveT} {a3 : Value} {y0 : Int} {y1 : Int} {y2 : Bool} {y3 : List Int} (h : MovesC F cs xs) (h3 : IntsF F a3 y3) : MovesC F (cs ++ [.int .i64 y0, .int .i64 y1, .bool y2, a3]) (xs ++ [(y0, y1, y2, y3)]) := CO.snoc h rfl ⟨a3, rfl, h3⟩
theorem MovesC.get {F : FH} {cs : List Value} {xs : List MoveT} (h : MovesC F cs xs) {i : Nat} (hi : i < xs.length) : ∃ a3, IntsF F a3 (xs.getD i (0, 0, false, [])).2.2.2 ∧ (∀ j u, ([.int .i64 (xs.getD i (0, 0, false, [])).1, .int .i64 (xs.getD i (0, 0, false, [])).2.1, .bool (xs.getD i (0, 0, false, [])).2.2.1, a3] : List Value)[j]? = some u → cs[i * 4 + j]? = some u) := by
 obtain ⟨es, hl, ⟨a3, rfl, h3⟩, hr⟩ := CO.get h hi
 exact ⟨a3, h3, hr⟩
abbrev PolyT := Int × List Int
def PolyF (F : FH) (es : List Value) (x : PolyT) : Prop := ∃ a1, es = [.int .i64 x.1, a1] ∧ IntsF F a1 x.2
theorem PolyF.mono {F F' : FH} (le : F ≤ F') (es : List Value) (x : PolyT) (h : PolyF F es x) : PolyF F' es x := by
 obtain ⟨a1, e, h1⟩ := h
 exact ⟨a1, e, h1.mono le⟩
def PolysF : FH → Value → List PolyT → Prop := SlOf 2 PolyF (0, [])
theorem PolysF.mono {F F' : FH} {v : Value} {xs : List PolyT} (h : PolysF F v xs) (le : F ≤ F') : PolysF F' v xs := SlOf.mono (PolyF.mono le) h le
theorem PolysF.slv {F : FH} {L : List HP} {v : Value} {xs : List PolyT} (h : PolysF F v xs) : SlV F L v xs.length := SlOf.slv h
theorem PolysF.isSl {F : FH} {v : Value} {xs : List PolyT} (h : PolysF F v xs) : IsSl v := by obtain ⟨_, h, _⟩ := h; exact h.isSl
theorem PolysF.rd {F : FH} {v : Value} {xs : List PolyT} (h : PolysF F v xs) {i : Nat} (hi : i < xs.length) : ∃ a1, IntsF F a1 (xs.getD i (0, [])).2 ∧ (∀ L j u, ([.int .i64 (xs.getD i (0, [])).1, a1] : List Value)[j]? = some u → Rd F L (elemA v (i * 2 + j)) u) ∧ True := by
 obtain ⟨es, hl, ⟨a1, rfl, h1⟩, hr⟩ := SlOf.get h hi
 exact ⟨a1, h1, hr, trivial⟩
def PolysC (F : FH) (cs : List Value) (xs : List PolyT) : Prop := CO 2 PolyF (0, []) F cs xs
theorem PolysC.mono {F F' : FH} {cs : List Value} {xs : List PolyT} (h : PolysC F cs xs) (le : F ≤ F') : PolysC F' cs xs := CO.mono (PolyF.mono le) h
theorem PolysC.snoc {F : FH} {cs : List Value} {xs : List PolyT} {a1 : Value} {y0 : Int} {y1 : List Int} (h : PolysC F cs xs) (h1 : IntsF F a1 y1) : PolysC F (cs ++ [.int .i64 y0, a1]) (xs ++ [(y0, y1)]) := CO.snoc h rfl ⟨a1, rfl, h1⟩
theorem PolysC.get {F : FH} {cs : List Value} {xs : List PolyT} (h : PolysC F cs xs) {i : Nat} (hi : i < xs.length) : ∃ a1, IntsF F a1 (xs.getD i (0, [])).2 ∧ (∀ j u, ([.int .i64 (xs.getD i (0, [])).1, a1] : List Value)[j]? = some u → cs[i * 2 + j]? = some u) := by
 obtain ⟨es, hl, ⟨a1, rfl, h1⟩, hr⟩ := CO.get h hi
 exact ⟨a1, h1, hr⟩
abbrev LineT := Int × List (List Int) × List Int
def LineF (F : FH) (es : List Value) (x : LineT) : Prop := ∃ a1 a2, es = [.int .i64 x.1, a1, a2] ∧ RowsF F a1 x.2.1 ∧ IntsF F a2 x.2.2
theorem LineF.mono {F F' : FH} (le : F ≤ F') (es : List Value) (x : LineT) (h : LineF F es x) : LineF F' es x := by
 obtain ⟨a1, a2, e, h1, h2⟩ := h
 exact ⟨a1, a2, e, h1.mono le, h2.mono le⟩
def LinesF : FH → Value → List LineT → Prop := SlOf 3 LineF (0, [], [])
theorem LinesF.mono {F F' : FH} {v : Value} {xs : List LineT} (h : LinesF F v xs) (le : F ≤ F') : LinesF F' v xs := SlOf.mono (LineF.mono le) h le
theorem LinesF.slv {F : FH} {L : List HP} {v : Value} {xs : List LineT} (h : LinesF F v xs) : SlV F L v xs.length := SlOf.slv h
theorem LinesF.isSl {F : FH} {v : Value} {xs : List LineT} (h : LinesF F v xs) : IsSl v := by obtain ⟨_, h, _⟩ := h; exact h.isSl
theorem LinesF.rd {F : FH} {v : Value} {xs : List LineT} (h : LinesF F v xs) {i : Nat} (hi : i < xs.length) : ∃ a1 a2, RowsF F a1 (xs.getD i (0, [], [])).2.1 ∧ IntsF F a2 (xs.getD i (0, [], [])).2.2 ∧ (∀ L j u, ([.int .i64 (xs.getD i (0, [], [])).1, a1, a2] : List Value)[j]? = some u → Rd F L (elemA v (i * 3 + j)) u) ∧ True := by
 obtain ⟨es, hl, ⟨a1, a2, rfl, h1, h2⟩, hr⟩ := SlOf.get h hi
 exact ⟨a1, a2, h1, h2, hr, trivial⟩
def LinesC (F : FH) (cs : List Value) (xs : List LineT) : Prop := CO 3 LineF (0, [], []) F cs xs
theorem LinesC.mono {F F' : FH} {cs : List Value} {xs : List LineT} (h : LinesC F cs xs) (le : F ≤ F') : LinesC F' cs xs := CO.mono (LineF.mono le) h
theorem LinesC.snoc {F : FH} {cs : List Value} {xs : List LineT} {a1 a2 : Value} {y0 : Int} {y1 : List (List Int)} {y2 : List Int} (h : LinesC F cs xs) (h1 : RowsF F a1 y1) (h2 : IntsF F a2 y2) : LinesC F (cs ++ [.int .i64 y0, a1, a2]) (xs ++ [(y0, y1, y2)]) := CO.snoc h rfl ⟨a1, a2, rfl, h1, h2⟩
theorem LinesC.get {F : FH} {cs : List Value} {xs : List LineT} (h : LinesC F cs xs) {i : Nat} (hi : i < xs.length) : ∃ a1 a2, RowsF F a1 (xs.getD i (0, [], [])).2.1 ∧ IntsF F a2 (xs.getD i (0, [], [])).2.2 ∧ (∀ j u, ([.int .i64 (xs.getD i (0, [], [])).1, a1, a2] : List Value)[j]? = some u → cs[i * 3 + j]? = some u) := by
 obtain ⟨es, hl, ⟨a1, a2, rfl, h1, h2⟩, hr⟩ := CO.get h hi
 exact ⟨a1, a2, h1, h2, hr⟩
abbrev CRuleT := List Int × List Int × List (List Int × List Int)
def CRuleF (F : FH) (es : List Value) (x : CRuleT) : Prop := ∃ a0 a1 a2, es = [a0, a1, a2] ∧ IntsF F a0 x.1 ∧ IntsF F a1 x.2.1 ∧ PairsF F a2 x.2.2
theorem CRuleF.mono {F F' : FH} (le : F ≤ F') (es : List Value) (x : CRuleT) (h : CRuleF F es x) : CRuleF F' es x := by
 obtain ⟨a0, a1, a2, e, h0, h1, h2⟩ := h
 exact ⟨a0, a1, a2, e, h0.mono le, h1.mono le, h2.mono le⟩
def CRulesF : FH → Value → List CRuleT → Prop := SlOf 3 CRuleF ([], [], [])
theorem CRulesF.mono {F F' : FH} {v : Value} {xs : List CRuleT} (h : CRulesF F v xs) (le : F ≤ F') : CRulesF F' v xs := SlOf.mono (CRuleF.mono le) h le
theorem CRulesF.slv {F : FH} {L : List HP} {v : Value} {xs : List CRuleT} (h : CRulesF F v xs) : SlV F L v xs.length := SlOf.slv h
theorem CRulesF.isSl {F : FH} {v : Value} {xs : List CRuleT} (h : CRulesF F v xs) : IsSl v := by obtain ⟨_, h, _⟩ := h; exact h.isSl
theorem CRulesF.rd {F : FH} {v : Value} {xs : List CRuleT} (h : CRulesF F v xs) {i : Nat} (hi : i < xs.length) : ∃ a0 a1 a2, IntsF F a0 (xs.getD i ([], [], [])).1 ∧ IntsF F a1 (xs.getD i ([], [], [])).2.1 ∧ PairsF F a2 (xs.getD i ([], [], [])).2.2 ∧ (∀ L j u, ([a0, a1, a2] : List Value)[j]? = some u → Rd F L (elemA v (i * 3 + j)) u) ∧ True := by
 obtain ⟨es, hl, ⟨a0, a1, a2, rfl, h0, h1, h2⟩, hr⟩ := SlOf.get h hi
 exact ⟨a0, a1, a2, h0, h1, h2, hr, trivial⟩
def CRulesC (F : FH) (cs : List Value) (xs : List CRuleT) : Prop := CO 3 CRuleF ([], [], []) F cs xs
theorem CRulesC.mono {F F' : FH} {cs : List Value} {xs : List CRuleT} (h : CRulesC F cs xs) (le : F ≤ F') : CRulesC F' cs xs := CO.mono (CRuleF.mono le) h
theorem CRulesC.snoc {F : FH} {cs : List Value} {xs : List CRuleT} {a0 a1 a2 : Value} {y0 : List Int} {y1 : List Int} {y2 : List (List Int × List Int)} (h : CRulesC F cs xs) (h0 : IntsF F a0 y0) (h1 : IntsF F a1 y1) (h2 : PairsF F a2 y2) : CRulesC F (cs ++ [a0, a1, a2]) (xs ++ [(y0, y1, y2)]) := CO.snoc h rfl ⟨a0, a1, a2, rfl, h0, h1, h2⟩
theorem CRulesC.get {F : FH} {cs : List Value} {xs : List CRuleT} (h : CRulesC F cs xs) {i : Nat} (hi : i < xs.length) : ∃ a0 a1 a2, IntsF F a0 (xs.getD i ([], [], [])).1 ∧ IntsF F a1 (xs.getD i ([], [], [])).2.1 ∧ PairsF F a2 (xs.getD i ([], [], [])).2.2 ∧ (∀ j u, ([a0, a1, a2] : List Value)[j]? = some u → cs[i * 3 + j]? = some u) := by
 obtain ⟨es, hl, ⟨a0, a1, a2, rfl, h0, h1, h2⟩, hr⟩ := CO.get h hi
 exact ⟨a0, a1, a2, h0, h1, h2, hr⟩
def XStepsF (F : FH) (v : Value) (xs : List StepT) (cs : List Value) : Prop := ArrF F 3 v xs.length cs ∧ StepsC F cs xs
theorem XStepsF.mono {F F' : FH} {v : Value} {xs : List StepT} {cs : List Value} (h : XStepsF F v xs cs) (le : F ≤ F') : XStepsF F' v xs cs := ⟨h.1.mono le, h.2.mono le⟩
theorem XStepsF.slv {F : FH} {L : List HP} {v : Value} {xs : List StepT} {cs : List Value} (h : XStepsF F v xs cs) : SlV F L v xs.length := SlV.arr h.1
theorem XStepsF.isSl {F : FH} {v : Value} {xs : List StepT} {cs : List Value} (h : XStepsF F v xs cs) : IsSl v := h.1.isSl
theorem StepsC.fzx {F : FH} {cs : List Value} {xs : List StepT} {E : TypeId} {v : Value} {n : Nat} (h : StepsC F cs xs) (hn : n = xs.length) (hf : Fz (slH E 3 v n cs) F) : XStepsF F v xs cs := by
 subst hn
 exact ⟨hf.sl, h⟩
theorem XStepsF.rd {F : FH} {v : Value} {xs : List StepT} {cs : List Value} (h : XStepsF F v xs cs) {i : Nat} (hi : i < xs.length) : ∃ c, IntsF F c (xs.getD i (0, 0, [])).2.2 ∧ (∀ L, Rd F L (elemA v (i * 3)) (.int .i64 (xs.getD i (0, 0, [])).1)) ∧ (∀ L, Rd F L (elemA v (i * 3 + 1)) (.int .i64 (xs.getD i (0, 0, [])).2.1)) ∧ (∀ L, Rd F L (elemA v (i * 3 + 2)) c) ∧ cs[i * 3 + 2]? = some c := by
 obtain ⟨es, h1, h2, c, rfl, hc⟩ := h.2.2 i hi
 have hq : ∀ j u, ([.int .i64 (xs.getD i (0, 0, [])).1, .int .i64 (xs.getD i (0, 0, [])).2.1, c] : List Value)[j]? = some u → cs[i * 3 + j]? = some u := by
  intro j u hu
  rw [← h2, List.getElem?_take] at hu
  split at hu
  ·rwa [List.getElem?_drop] at hu
  ·cases hu
 have hr : ∀ L j u, ([.int .i64 (xs.getD i (0, 0, [])).1, .int .i64 (xs.getD i (0, 0, [])).2.1, c] : List Value)[j]? = some u → Rd F L (elemA v (i * 3 + j)) u := by
  intro L j u hu
  have := Rd.arrN (L := L) (k := i * 3) (vs := [.int .i64 (xs.getD i (0, 0, [])).1, .int .i64 (xs.getD i (0, 0, [])).2.1, c]) h.1 (by rw [h1]; exact h2) j u hu
  rwa [elemA_add] at this
 exact ⟨c, hc, fun L => by simpa using hr L 0 _ rfl, fun L => hr L 1 _ rfl, fun L => hr L 2 _ rfl, hq 2 _ rfl⟩
section
variable {F F' : FH} {A B M : List HP} {h : HP}
theorem Fresh.none (k : Fresh F F' (star (A ++ B))) : Fresh F F' (star A) := by
 obtain ⟨m, hm, nd, hp⟩ := k
 obtain ⟨a, b, ha, hb, rfl⟩ := star_append.1 hm
 refine ⟨a, ha, ?_, fun p h' => hp p (List.mem_append_left _ h')⟩
 rw [List.map_append] at nd
 exact (List.nodup_append.1 nd).1
end
def FrStepsF (F0 F : FH) (e : TypeId) (v : Value) (xs : List StepT) : Prop := ∃ acs Ls, XStepsF F v xs acs ∧ DeepL 3 (StepO e) acs xs Ls ∧ Fresh F0 F (star Ls)
theorem FrStepsF.mono {F0 F F' : FH} {e : TypeId} {v : Value} {xs : List StepT} (h : FrStepsF F0 F e v xs) (le : F ≤ F') : FrStepsF F0 F' e v xs := by
 obtain ⟨acs, Ls, h1, h2, h3⟩ := h
 exact ⟨acs, Ls, h1.mono le, h2, h3.mono le⟩
theorem FrStepsF.base {F0 F F1 : FH} {e : TypeId} {v : Value} {xs : List StepT} (h : FrStepsF F1 F e v xs) (le : F0 ≤ F1) : FrStepsF F0 F e v xs := by
 obtain ⟨acs, Ls, h1, h2, h3⟩ := h
 exact ⟨acs, Ls, h1, h2, h3.base le⟩
theorem FrStepsF.isSl {F0 F : FH} {e : TypeId} {v : Value} {xs : List StepT} (h : FrStepsF F0 F e v xs) : IsSl v := by
 obtain ⟨acs, Ls, h1, _, _⟩ := h
 exact h1.isSl
end Go.Proofs.Ytjpfankibmeaaaa.X
namespace Go.Proofs.Ytjpfankibmeaaaa.M
section
variable {ar : List Int} {rs : Rules} {a b t : List Int} {ts : RowL} {n : Int} {m k : Nat}
def eqN (ar : List Int) (rs : Rules) (a b : List Int) (m : Nat) : Int :=
 if (walkGo ar rs 1 m a).2 = true ∧ (walkGo ar rs 1 m b).2 = true then (if endL a (walkGo ar rs 1 m a).1 = endL b (walkGo ar rs 1 m b).1 then 1 else 0) else -1
end
section
variable {α : Type} {q : α → Bool} {l : List α} {d : α} {k : Nat}
def badG (q : α → Bool) (l : List α) : Int := match l.findIdx? (fun t => !q t) with | some i => i | none => -1
theorem badG_at (d : α) (hk : k < l.length) (h : q (l.getD k d) = false) (hall : ∀ i, i < k → q (l.getD i d) = true) : badG q l = k := by
 unfold badG
 have : l.findIdx? (fun t => !q t) = some k := by
  rw [List.findIdx?_eq_some_iff_getElem]
  refine ⟨hk, by simpa [List.getD, hk] using h, fun j hj => ?_⟩
  have := hall j hj
  simpa [List.getD, Nat.lt_trans hj hk] using this
 rw [this]
theorem badG_none (d : α) (hall : ∀ i, i < l.length → q (l.getD i d) = true) : badG q l = -1 := by
 unfold badG
 have : l.findIdx? (fun t => !q t) = none := by
  rw [List.findIdx?_eq_none_iff]
  intro x hx
  obtain ⟨i, hi, rfl⟩ := List.getElem_of_mem hx
  simpa [List.getD, hi] using hall i hi
 rw [this]
theorem badG_iff : (badG q l ≥ 0) ↔ l.all q = false := by
 unfold badG
 cases h : l.findIdx? (fun t => !q t) with
 | none =>
  rw [List.findIdx?_eq_none_iff] at h
  have : l.all q = true := List.all_eq_true.2 fun x hx => by simpa using h x hx
  simp [this]
 | some i =>
  rw [List.findIdx?_eq_some_iff_getElem] at h
  obtain ⟨hi, h1, _⟩ := h
  have : l.all q = false := by
   rw [List.all_eq_false]
   exact ⟨_, List.getElem_mem hi, by simpa using h1⟩
  simp [this]
theorem all_getD_iff (d : α) : l.all q = true ↔ ∀ i, i < l.length → q (l.getD i d) = true := by
 rw [List.all_eq_true]
 refine ⟨fun h i hi => h _ (by simp [List.getD, hi]), fun h x hx => ?_⟩
 obtain ⟨i, hi, rfl⟩ := List.getElem_of_mem hx
 simpa [List.getD, hi] using h i hi
theorem all_fail (d : α) (hk : k < l.length) (h : q (l.getD k d) = false) : l.all q = false := by
 cases hx : l.all q with
 | false => rfl
 | true => have := (all_getD_iff d).1 hx k hk; rw [h] at this; cases this
end
section
variable {ar : List Int} {rs es : Rules} {a b : List Int} {n : Int} {m k : Nat}
def eq1 (ar : List Int) (rs : Rules) (m : Nat) (e : List Int × List Int) : Bool := decide (eqN ar rs e.1 e.2 m = 1)
end
abbrev StepV := Int × Int × List Int
def stepOne (ar : List Int) (rs : Rules) (t : List Int) (p r : Nat) : List StepV := match stepL ar rs t p r with | some u => [((p : Int), (r : Int), u)] | none => []
def stepsRow (ar : List Int) (rs : Rules) (t : List Int) (p k : Nat) : List StepV := (List.range k).flatMap (stepOne ar rs t p)
def stepsTo (ar : List Int) (rs : Rules) (t : List Int) (p : Nat) : List StepV := (List.range p).flatMap fun q => stepsRow ar rs t q rs.length
def stepsL (ar : List Int) (rs : Rules) (t : List Int) : List StepV := stepsTo ar rs t t.length
def longOne (ar : List Int) (rs : Rules) (t : List Int) (p r : Nat) : Bool := isRedex ar rs t p r && !(stepL ar rs t p r).isSome
def longRow (ar : List Int) (rs : Rules) (t : List Int) (p k : Nat) : Bool := (List.range k).any (longOne ar rs t p)
def longTo (ar : List Int) (rs : Rules) (t : List Int) (p : Nat) : Bool := (List.range p).any fun q => longRow ar rs t q rs.length
def longL (ar : List Int) (rs : Rules) (t : List Int) : Bool := longTo ar rs t t.length
section
variable {ar t : List Int} {rs : Rules} {p r k : Nat} {u : List Int}
theorem stepsRow_succ : stepsRow ar rs t p (k + 1) = stepsRow ar rs t p k ++ stepOne ar rs t p k := by simp [stepsRow, List.range_succ]
theorem stepsTo_succ : stepsTo ar rs t (p + 1) = stepsTo ar rs t p ++ stepsRow ar rs t p rs.length := by simp [stepsTo, List.range_succ]
theorem longRow_succ : longRow ar rs t p (k + 1) = (longRow ar rs t p k || longOne ar rs t p k) := by simp [longRow, List.range_succ, Bool.or_comm]
theorem longTo_succ : longTo ar rs t (p + 1) = (longTo ar rs t p || longRow ar rs t p rs.length) := by simp [longTo, List.range_succ, Bool.or_comm]
theorem redex_step (h : isRedex ar rs t p r = false) : stepL ar rs t p r = none := stepL_nomatch (by unfold isRedex at h; exact h)
theorem one_none (h : isRedex ar rs t p r = false) : stepOne ar rs t p r = [] ∧ longOne ar rs t p r = false := by
 refine ⟨?_, by unfold longOne; rw [h]; rfl⟩
 unfold stepOne; rw [redex_step h]
theorem one_some (h : (stepL ar rs t p r).isSome = true) : stepOne ar rs t p r = [((p : Int), (r : Int), (stepL ar rs t p r).getD [])] ∧ longOne ar rs t p r = false := by
 obtain ⟨u, hu⟩ := Option.isSome_iff_exists.1 h
 refine ⟨by unfold stepOne; rw [hu]; rfl, by unfold longOne; rw [h]; simp⟩
theorem one_long (hr : isRedex ar rs t p r = true) (h : (stepL ar rs t p r).isSome = false) : stepOne ar rs t p r = [] ∧ longOne ar rs t p r = true := by
 refine ⟨?_, by unfold longOne; rw [hr, h]; rfl⟩
 unfold stepOne
 cases hx : stepL ar rs t p r with
 | none => rfl
 | some u => rw [hx] at h; cases h
theorem stepOne_no (h : (stepL ar rs t p r).isSome = false) : stepOne ar rs t p r = [] := by
 unfold stepOne
 cases hx : stepL ar rs t p r with
 | none => rfl
 | some u => rw [hx] at h; cases h
theorem stepOne_len : (stepOne ar rs t p r).length ≤ 1 := by unfold stepOne; split <;> simp
theorem stepsRow_len : ∀ k, (stepsRow ar rs t p k).length ≤ k
 | 0 => by simp [stepsRow]
 | k + 1 => by have := stepsRow_len k; have := stepOne_len (ar := ar) (rs := rs) (t := t) (p := p) (r := k); rw [stepsRow_succ, List.length_append]; omega
theorem stepsTo_len (h : rs.length ≤ 12) : ∀ p, (stepsTo ar rs t p).length ≤ 12 * p
 | 0 => by simp [stepsTo]
 | p + 1 => by have := stepsTo_len h p; have := stepsRow_len (ar := ar) (rs := rs) (t := t) (p := p) rs.length; rw [stepsTo_succ, List.length_append]; omega
theorem mem_steps {s : StepV} (h : s ∈ stepsL ar rs t) : ∃ q k, q < t.length ∧ k < rs.length ∧ stepL ar rs t q k = some s.2.2 := by
 unfold stepsL stepsTo at h
 obtain ⟨q, hq, h⟩ := List.mem_flatMap.1 h
 unfold stepsRow at h
 obtain ⟨k, hk, h⟩ := List.mem_flatMap.1 h
 refine ⟨q, k, List.mem_range.1 hq, List.mem_range.1 hk, ?_⟩
 unfold stepOne at h
 split at h
 ·rename_i u hu; simp at h; rw [h]; exact hu
 ·cases h
theorem steps_ok (hs : sysOk ar rs = true) (ht : termOk ar t = true) {i : Nat} (hi : i < (stepsL ar rs t).length) : termOk ar ((stepsL ar rs t).getD i (0, 0, [])).2.2 = true := by
 obtain ⟨q, k, h1, h2, h3⟩ := mem_steps (show (stepsL ar rs t).getD i (0, 0, []) ∈ stepsL ar rs t by simp [List.getD, hi])
 exact stepL_ok hs ht h1 h2 h3
end
abbrev FoundV := List Int × Int × StepV × Int
section
variable {ar t : List Int} {rs : Rules} {n d : Int} {k f : Nat} {all : List FoundV} {ss : List StepV}
abbrev EL (all : List FoundV) (k : Nat) : FoundV := all.getD k ([], 0, (0, 0, []), 0)
def AllOk (ar : List Int) (all : List FoundV) : Prop := ∀ i, i < all.length → termOk ar (EL all i).1 = true
theorem AllOk.snoc {x : FoundV} (h : AllOk ar all) (hx : termOk ar x.1 = true) : AllOk ar (all ++ [x]) := by
 intro i hi
 rw [List.length_append, List.length_singleton] at hi
 rcases Nat.lt_or_ge i all.length with h1 | h1
 ·have := h i h1; unfold EL at *; rwa [List.getD_eq_getElem?_getD, List.getElem?_append_left h1, ← List.getD_eq_getElem?_getD]
 ·obtain rfl : i = all.length := by omega
  unfold EL; simp [List.getD]; exact hx
def DeepOk (n : Int) (all : List FoundV) : Prop := ∀ i, i < all.length → 0 ≤ (EL all i).2.2.2 ∧ (EL all i).2.2.2 ≤ n
theorem DeepOk.snoc {x : FoundV} (h : DeepOk n all) (hx : 0 ≤ x.2.2.2 ∧ x.2.2.2 ≤ n) : DeepOk n (all ++ [x]) := by
 intro i hi
 rw [List.length_append, List.length_singleton] at hi
 rcases Nat.lt_or_ge i all.length with h1 | h1
 ·have := h i h1; unfold EL at *; rwa [List.getD_eq_getElem?_getD, List.getElem?_append_left h1, ← List.getD_eq_getElem?_getD]
 ·obtain rfl : i = all.length := by omega
  unfold EL; simp [List.getD]; exact hx
end
section
variable {all : List FoundV} {x : FoundV} {i : Nat}
end
def reachOkL (ar : List Int) (rs : Rules) (n : Int) (ts : RowL) : Bool := (sysOk ar rs && decide (0 ≤ n ∧ n ≤ 20)) && ts.all (termOk ar)
theorem reachOk_iff {ar t : List Int} {rs : Rules} {n : Int} : reachOkL ar rs n [t] = true ↔ (sysOk ar rs = true ∧ termOk ar t = true) ∧ (0 ≤ n ∧ n ≤ 20) := by
 unfold reachOkL
 simp only [Bool.and_eq_true, List.all_cons, List.all_nil, Bool.and_true, decide_eq_true_eq]
 constructor
 ·rintro ⟨⟨h1, h2⟩, h3⟩; exact ⟨⟨h1, h3⟩, h2⟩
 ·rintro ⟨⟨h1, h3⟩, h2⟩; exact ⟨⟨h1, h2⟩, h3⟩
theorem reachOk_right {ar t : List Int} {rs : Rules} {n : Int} : reachOkL ar rs n [t] = (rightB ar rs t && decide (0 ≤ n ∧ n ≤ 20)) := by
 unfold reachOkL rightB
 simp only [List.all_cons, List.all_nil, Bool.and_true]
 cases sysOk ar rs <;> cases termOk ar t <;> simp
theorem reachOk_fail {ar : List Int} {rs : Rules} {n : Int} {ts : RowL} {k : Nat} (hk : k < ts.length) (h : termOk ar (ts.getD k []) = false) : reachOkL ar rs n ts = false := by
 unfold reachOkL
 rw [all_fail [] hk h, Bool.and_false]
theorem reachOk_all {ar : List Int} {rs : Rules} {n : Int} {ts : RowL} (hs : sysOk ar rs = true) (hn : 0 ≤ n ∧ n ≤ 20) (h : ∀ i, i < ts.length → termOk ar (ts.getD i []) = true) : reachOkL ar rs n ts = true := by
 unfold reachOkL
 rw [hs, (all_getD_iff []).2 h]
 simp [hn]
end Go.Proofs.Ytjpfankibmeaaaa.M
namespace Go.Proofs.Ytjpfankibmeaaaa.X
open Go
def FrIntsF (F0 F : FH) (e : TypeId) (v : Value) (xs : List Int) : Prop := Fresh F0 F (intsH e v xs)
theorem FrIntsF.mono {F0 F F' : FH} {e : TypeId} {v : Value} {xs : List Int} (h : FrIntsF F0 F e v xs) (le : F ≤ F') : FrIntsF F0 F' e v xs := Fresh.mono h le
theorem FrIntsF.base {F0 F F1 : FH} {e : TypeId} {v : Value} {xs : List Int} (h : FrIntsF F1 F e v xs) (le : F0 ≤ F1) : FrIntsF F0 F e v xs := Fresh.base h le
end Go.Proofs.Ytjpfankibmeaaaa.X
namespace Go.Proofs.Ytjpfankibmeaaaa.M
section
variable {ar t : List Int} {rs : Rules} {all : List FoundV} {k : Nat} {n : Int}
end
def keyU (t : List Int) : List UInt8 := t.map fun n => UInt8.ofNat (n + 24).toNat
def keyS (t : List Int) : ByteArray := ⟨(keyU t).toArray⟩
theorem keyU_inj : ∀ {a b : List Int}, (∀ x ∈ a, -24 ≤ x ∧ x < 200) → (∀ x ∈ b, -24 ≤ x ∧ x < 200) → keyU a = keyU b → a = b
 | [], [], _, _, _ => rfl
 | [], _ :: _, _, _, h => by simp [keyU] at h
 | _ :: _, [], _, _, h => by simp [keyU] at h
 | x :: a, y :: b, ha, hb, h => by
  simp only [keyU, List.map_cons, List.cons.injEq] at h
  have h1 := congrArg UInt8.toNat h.1
  have hx := ha x (by simp)
  have hy := hb y (by simp)
  simp only [UInt8.toNat_ofNat'] at h1
  have h2 : x = y := by omega
  rw [h2, keyU_inj (fun z hz => ha z (List.mem_cons_of_mem _ hz)) (fun z hz => hb z (List.mem_cons_of_mem _ hz)) h.2]
theorem keyS_inj {a b : List Int} (ha : ∀ x ∈ a, -24 ≤ x ∧ x < 200) (hb : ∀ x ∈ b, -24 ≤ x ∧ x < 200) (h : keyS a = keyS b) : a = b := by
 refine keyU_inj ha hb ?_
 have h1 := congrArg (fun z : ByteArray => z.data.toList) h
 simpa [keyS] using h1
theorem termOk_small {ar t : List Int} (hs : sigOk ar = true) (h : termOk ar t = true) : ∀ x ∈ t, -24 ≤ x ∧ x < 200 := by
 intro x hx
 obtain ⟨i, hi, rfl⟩ := List.getElem_of_mem hx
 have h1 := termOk_ge h hi
 have h2 := termOk_lt h hi
 have h3 := (sigOk_spec hs).2.1
 have e : t.getD i 0 = t[i] := by simp [List.getD, hi]
 rw [e] at h1 h2
 omega
theorem keyS_iff {ar : List Int} (hs : sigOk ar = true) {a b : List Int} (ha : termOk ar a = true) (hb : termOk ar b = true) : keyS a = keyS b ↔ a = b :=
 ⟨keyS_inj (termOk_small hs ha) (termOk_small hs hb), fun h => by rw [h]⟩
theorem keys_mem {ar : List Int} (hs : sigOk ar = true) {l : RowL} {t : List Int} (hl : ∀ x ∈ l, termOk ar x = true) (ht : termOk ar t = true) : keyS t ∈ l.map keyS ↔ t ∈ l := by
 rw [List.mem_map]
 constructor
 ·rintro ⟨x, hx, he⟩
  rw [← (keyS_iff hs (hl x hx) ht).1 he]; exact hx
 ·intro h; exact ⟨t, h, rfl⟩
def addN : List StepV → RowL → RowL
 | [], out => out
 | s :: r, out => if s.2.2 ∈ out then addN r out else addN r (out ++ [s.2.2])
def nextGo (ar : List Int) (rs : Rules) : RowL → RowL → Option RowL
 | [], out => some out
 | u :: us, out => if longL ar rs u = true then none else if 60 < (addN (stepsL ar rs u) out).length then none else nextGo ar rs us (addN (stepsL ar rs u) out)
def longestGo (ar : List Int) (rs : Rules) : Nat → Int → RowL → Int
 | 0, _, _ => -1
 | f + 1, k, lv => match nextGo ar rs lv [] with
  | none => -1
  | some nx => if nx = [] then k else longestGo ar rs f (k + 1) nx
def longestL (ar : List Int) (rs : Rules) (t : List Int) (n : Int) : Int := longestGo ar rs (n.toNat + 1) 0 [t]
def longestF (ar : List Int) (rs : Rules) (t : List Int) (n : Int) : Int := if reachOkL ar rs n [t] = true then longestL ar rs t n else -1
section
variable {ar t u : List Int} {rs : Rules} {ss : List StepV} {out lv nx : RowL} {q k f : Nat} {n c : Int}
theorem addN_in (hq : q < ss.length) (h : (ss.getD q (0, 0, [])).2.2 ∈ out) : addN (ss.drop q) out = addN (ss.drop (q + 1)) out := by
 rw [drop_get (0, 0, []) hq, addN, if_pos h]
theorem addN_new (hq : q < ss.length) (h : (ss.getD q (0, 0, [])).2.2 ∉ out) : addN (ss.drop q) out = addN (ss.drop (q + 1)) (out ++ [(ss.getD q (0, 0, [])).2.2]) := by
 rw [drop_get (0, 0, []) hq, addN, if_neg h]
theorem addN_end (hq : ss.length ≤ q) : addN (ss.drop q) out = out := by rw [List.drop_eq_nil_of_le hq]; rfl
theorem next_long (hk : k < lv.length) (h : longL ar rs (lv.getD k []) = true) : nextGo ar rs (lv.drop k) out = none := by
 rw [drop_get [] hk, nextGo, if_pos h]
theorem next_many (hk : k < lv.length) (h : longL ar rs (lv.getD k []) = false) (hm : 60 < (addN (stepsL ar rs (lv.getD k [])) out).length) : nextGo ar rs (lv.drop k) out = none := by
 rw [drop_get [] hk, nextGo, if_neg (by rw [h]; simp), if_pos hm]
theorem next_go (hk : k < lv.length) (h : longL ar rs (lv.getD k []) = false) (hm : ¬ 60 < (addN (stepsL ar rs (lv.getD k [])) out).length) : nextGo ar rs (lv.drop k) out = nextGo ar rs (lv.drop (k + 1)) (addN (stepsL ar rs (lv.getD k [])) out) := by
 rw [drop_get [] hk, nextGo, if_neg (by rw [h]; simp), if_neg hm]
theorem next_end (hk : lv.length ≤ k) : nextGo ar rs (lv.drop k) out = some out := by rw [List.drop_eq_nil_of_le hk]; rfl
theorem longest_none (hf : f ≠ 0) (h : nextGo ar rs lv [] = none) : longestGo ar rs f c lv = -1 := by
 cases f with
 | zero => exact absurd rfl hf
 | succ f => rw [longestGo, h]
theorem longest_done (hf : f ≠ 0) (h : nextGo ar rs lv [] = some []) : longestGo ar rs f c lv = c := by
 cases f with
 | zero => exact absurd rfl hf
 | succ f => rw [longestGo, h]; simp
theorem longest_next (hf : f ≠ 0) (h : nextGo ar rs lv [] = some nx) (hn : nx ≠ []) : longestGo ar rs f c lv = longestGo ar rs (f - 1) (c + 1) nx := by
 cases f with
 | zero => exact absurd rfl hf
 | succ f => rw [longestGo, h]; simp [hn]
theorem longestF_yes (h : reachOkL ar rs n [t] = true) : longestF ar rs t n = longestL ar rs t n := if_pos h
theorem longestF_no (h : reachOkL ar rs n [t] = false) : longestF ar rs t n = -1 := if_neg (by rw [h]; simp)
theorem longestGo_ge : ∀ (f : Nat) (c : Int) (lv : RowL), 0 ≤ c → -1 ≤ longestGo ar rs f c lv ∧ longestGo ar rs f c lv < c + f + 1
 | 0, c, lv, hc => by rw [longestGo]; omega
 | f + 1, c, lv, hc => by
  rw [longestGo]
  split
  ·omega
  ·split
   ·omega
   ·have := longestGo_ge f (c + 1) (by assumption) (by omega); omega
theorem longestF_ge : -1 ≤ longestF ar rs t n ∧ longestF ar rs t n ≤ 1001 := by
 unfold longestF longestL
 split
 ·rename_i h
  have hn := (reachOk_iff.1 h).2
  have := longestGo_ge (ar := ar) (rs := rs) (n.toNat + 1) 0 [t] (by omega); omega
 ·omega
def finF (ar : List Int) (rs : Rules) (t : List Int) (n : Int) : Bool := decide (longestF ar rs t n ≥ 0)
theorem finF_ne : decide (longestF ar rs t n ≠ -1) = finF ar rs t n := by
 have := longestF_ge (ar := ar) (rs := rs) (t := t) (n := n)
 unfold finF
 exact decide_eq_decide.2 ⟨fun h => by omega, fun h => by omega⟩
theorem keys_snoc {x : List Int} : (out ++ [x]).map keyS = out.map keyS ++ [keyS x] := by simp
theorem keys_drop (hk : k < out.length) : (out.drop k).map keyS = keyS (out.getD k []) :: (out.drop (k + 1)).map keyS := by rw [drop_get [] hk]; rfl
theorem keys_done (hk : out.length ≤ k) : (out.drop k).map keyS = [] := by rw [List.drop_eq_nil_of_le hk]; rfl
theorem key_in (hs : sigOk ar = true) {l : RowL} {x : List Int} (hl : ∀ i, i < l.length → termOk ar (l.getD i []) = true) (hx : termOk ar x = true) (h : keyS x ∈ l.map keyS) : x ∈ l :=
 (keys_mem hs (fun y hy => by obtain ⟨i, hi, rfl⟩ := List.getElem_of_mem hy; have := hl i hi; simpa [List.getD, hi] using this) hx).1 h
def OkRows (ar : List Int) (l : RowL) : Prop := ∀ i, i < l.length → termOk ar (l.getD i []) = true
theorem OkRows.nil : OkRows ar [] := fun i hi => by simp at hi
theorem OkRows.one (h : termOk ar t = true) : OkRows ar [t] := by
 intro i hi
 obtain rfl : i = 0 := by simp only [List.length_singleton] at hi; omega
 exact h
theorem OkRows.snoc {l : RowL} {x : List Int} (h : OkRows ar l) (hx : termOk ar x = true) : OkRows ar (l ++ [x]) := by
 intro i hi
 rw [List.length_append, List.length_singleton] at hi
 rcases Nat.lt_or_ge i l.length with h1 | h1
 ·have := h i h1; rwa [List.getD_eq_getElem?_getD, List.getElem?_append_left h1, ← List.getD_eq_getElem?_getD]
 ·obtain rfl : i = l.length := by omega
  simp [List.getD]; exact hx
def nextD (ar : List Int) (rs : Rules) (lv : RowL) : RowL := (nextGo ar rs lv []).getD []
def nextB (ar : List Int) (rs : Rules) (lv : RowL) : Bool := (nextGo ar rs lv []).isSome
theorem next_yes (h : nextGo ar rs lv [] = some nx) : nextD ar rs lv = nx ∧ nextB ar rs lv = true := by unfold nextD nextB; rw [h]; exact ⟨rfl, rfl⟩
theorem next_no (h : nextGo ar rs lv [] = none) : nextD ar rs lv = [] ∧ nextB ar rs lv = false := by unfold nextD nextB; rw [h]; exact ⟨rfl, rfl⟩
theorem nextB_yes (h : nextB ar rs lv = true) : nextGo ar rs lv [] = some (nextD ar rs lv) := by
 unfold nextB at h; unfold nextD
 obtain ⟨x, hx⟩ := Option.isSome_iff_exists.1 h
 rw [hx]; rfl
theorem nextB_no (h : nextB ar rs lv = false) : nextGo ar rs lv [] = none := by
 unfold nextB at h
 cases hx : nextGo ar rs lv [] with
 | none => rfl
 | some x => rw [hx] at h; cases h
theorem addN_ok : ∀ {ss : List StepV} {out : RowL}, OkRows ar out → (∀ s ∈ ss, termOk ar s.2.2 = true) → OkRows ar (addN ss out)
 | [], out, h, _ => h
 | s :: r, out, h, hs => by
  rw [addN]
  split
  ·exact addN_ok h (fun x hx => hs x (List.mem_cons_of_mem _ hx))
  ·exact addN_ok (h.snoc (hs s (by simp))) (fun x hx => hs x (List.mem_cons_of_mem _ hx))
theorem nextGo_ok (hs : sysOk ar rs = true) : ∀ {lv out nx : RowL}, OkRows ar lv → OkRows ar out → out.length ≤ 60 → nextGo ar rs lv out = some nx → OkRows ar nx ∧ nx.length ≤ 60
 | [], out, nx, _, ho, hl, h => by rw [nextGo] at h; cases h; exact ⟨ho, hl⟩
 | u :: lv, out, nx, hv, ho, hl, h => by
  rw [nextGo] at h
  split at h
  ·cases h
  ·split at h
   ·cases h
   ·refine nextGo_ok hs (fun i hi => ?_) (addN_ok ho fun s hx => ?_) (by omega) h
    ·have := hv (i + 1) (by simpa using hi); simpa using this
    ·obtain ⟨q, k, h1, h2, h3⟩ := mem_steps hx
     exact stepL_ok hs (by have := hv 0 (by simp); simpa using this) h1 h2 h3
theorem nextD_ok (hs : sysOk ar rs = true) (hv : OkRows ar lv) (h : nextB ar rs lv = true) : OkRows ar (nextD ar rs lv) ∧ (nextD ar rs lv).length ≤ 60 := nextGo_ok hs hv OkRows.nil (by simp) (nextB_yes h)
theorem row_cnt : ∀ k, (stepsRow ar rs t q k).length ≤ cntR ar rs t q k ∧ ((stepsRow ar rs t q k).length < cntR ar rs t q k ↔ longRow ar rs t q k = true)
 | 0 => by simp [stepsRow, cntR, longRow]
 | k + 1 => by
  obtain ⟨h1, h2⟩ := row_cnt k
  rw [stepsRow_succ, longRow_succ, List.length_append]
  cases hx : isRedex ar rs t q k with
  | false =>
   have h3 := cntR_no (m := 0) hx
   rw [(one_none hx).1, (one_none hx).2, Bool.or_false, ← h2]
   simp only [List.length_nil]
   constructor
   ·omega
   ·constructor <;> intro <;> omega
  | true =>
   have h3 := cntR_yes (m := 0) hx
   cases hy : (stepL ar rs t q k).isSome with
   | true =>
    rw [(one_some hy).1, (one_some hy).2, Bool.or_false, ← h2]
    simp only [List.length_singleton]
    constructor
    ·omega
    ·constructor <;> intro <;> omega
   | false =>
    rw [(one_long hx hy).1, (one_long hx hy).2, Bool.or_true]
    simp only [List.length_nil]
    constructor
    ·omega
    ·constructor
     ·intro; trivial
     ·intro; omega
theorem to_cnt : ∀ p, (stepsTo ar rs t p).length ≤ cntP ar rs t p ∧ ((stepsTo ar rs t p).length < cntP ar rs t p ↔ longTo ar rs t p = true)
 | 0 => by simp [stepsTo, cntP, longTo]
 | p + 1 => by
  obtain ⟨h1, h2⟩ := to_cnt p
  obtain ⟨h3, h4⟩ := row_cnt (ar := ar) (rs := rs) (t := t) (q := p) rs.length
  rw [stepsTo_succ, longTo_succ, List.length_append, ← cntP_succ rfl]
  constructor
  ·omega
  ·rw [Bool.or_eq_true, ← h2, ← h4]
   constructor
   ·intro; omega
   ·rintro (h | h) <;> omega
theorem long_cnt : (((stepsL ar rs t).length : Int) < (cntP ar rs t t.length : Nat)) ↔ longL ar rs t = true := by
 rw [show longL ar rs t = longTo ar rs t t.length from rfl, ← (to_cnt t.length).2]
 show (((stepsTo ar rs t t.length).length : Int) < _) ↔ _
 omega
end
theorem badG_out {l : RowL} {x : List Int} (h : badG (fun y => !decide (y = x)) l < 0) : x ∉ l := by
 intro h9
 have h8 := badG_iff (q := fun y => !decide (y = x)) (l := l)
 have h6 := h8.2 (List.all_eq_false.2 ⟨_, h9, by simp⟩)
 omega
theorem badG_in {l : RowL} {x : List Int} (h : ¬ badG (fun y => !decide (y = x)) l < 0) : x ∈ l := by
 have h8 := (badG_iff (q := fun y => !decide (y = x)) (l := l)).1 (by omega)
 obtain ⟨y, hy, h7⟩ := List.all_eq_false.1 h8
 have h6 : y = x := by simpa using h7
 rw [← h6]; exact hy
end Go.Proofs.Ytjpfankibmeaaaa.M
namespace Go.Proofs.Ytjpfankibmeaaaa.X
open Go
section
variable {F F' G F1 F2 : FH} {D D' : HP} {L M : List HP} {P : Program} {o : Oper} {ρ : Env} {K : Post} {e E : TypeId}
theorem Fresh.perm {A B : List HP} (h : Fresh F F' (star A)) (p : A.Perm B) : Fresh F F' (star B) := by
 obtain ⟨m, hm, nd, hp⟩ := h
 obtain ⟨l, hl, pl⟩ := star_perm p m hm
 exact ⟨l, hl, ((pl.map Prod.fst).nodup_iff).2 nd, fun q hq => hp q (pl.mem_iff.1 hq)⟩
theorem Fresh.left {A B : List HP} (h : Fresh F F' (star (A ++ B))) : Fresh F F' (star A) := h.none
theorem Fresh.right {A B : List HP} (h : Fresh F F' (star (A ++ B))) : Fresh F F' (star B) := (h.perm List.perm_append_comm).none
theorem StepsC.get {F : FH} {cs : List Value} {xs : List StepT} (h : StepsC F cs xs) {i : Nat} (hi : i < xs.length) :
  ∃ a, IntsF F a (xs.getD i (0, 0, [])).2.2 ∧ cs[i * 3]? = some (.int .i64 (xs.getD i (0, 0, [])).1) ∧ cs[i * 3 + 1]? = some (.int .i64 (xs.getD i (0, 0, [])).2.1) ∧ cs[i * 3 + 2]? = some a := by
 obtain ⟨es, _, ⟨a, rfl, ha⟩, hg⟩ := CO.get h hi
 exact ⟨a, ha, by simpa using hg 0 _ rfl, hg 1 _ rfl, hg 2 _ rfl⟩
def FreshsF (F0 F : FH) (D : HP) : Prop := Fresh F0 F D
theorem FreshsF.mono {F0 F F' : FH} {D : HP} (h : FreshsF F0 F D) (le : F ≤ F') : FreshsF F0 F' D := Fresh.mono h le
theorem slH.isSl {s n : Nat} {v : Value} {cs : List Value} {l : OH} (h : slH E s v n cs l) : IsSl v := by
 rcases h.2 with ⟨b, rfl, _⟩ | ⟨b, c, sp, rfl, _⟩
 ·exact ⟨_, _, _, rfl⟩
 ·exact ⟨_, _, _, rfl⟩
end
section
variable {F F' G : FH} {e E : TypeId} {v : Value}
def MoveO (e : TypeId) (es : List Value) (x : MoveT) (K : List HP) : Prop := ∃ c, es = [.int .i64 x.1, .int .i64 x.2.1, .bool x.2.2.1, c] ∧ K = [intsH e c x.2.2.2]
abbrev movesD (e E : TypeId) (v : Value) (xs : List MoveT) : HP := deepH 4 (MoveO e) E v xs
theorem MoveO.fz (es : List Value) (x : MoveT) (K : List HP) (h : MoveO e es x K) (hz : ∃ l, star K l ∧ ∀ p ∈ l, F.cells p.1 = some p.2) : MoveF F es x := by
 obtain ⟨c, rfl, rfl⟩ := h
 exact ⟨c, rfl, intsH.fz (E := e) (frozen_star hz _ (by simp))⟩
theorem movesD.fz {xs : List MoveT} (h : Fz (movesD e E v xs) F) : MovesF F v xs := deepH.fz MoveO.fz h
end
section
variable {P : Program} {ρ : Env} {F : FH} {L : List HP} {K : Post} {d : Option Tmp} {ty : TypeId} {pos : String} {af : Array Edge} {g : Option (Nat × Bool)}
end
theorem StepsC.ones {F : FH} {cs : List Value} {xs : List StepT} (h : StepsC F cs xs) : ∀ u ∈ cs, u.oneCell' = true := by
 intro u hu
 obtain ⟨q, hq, rfl⟩ := List.getElem_of_mem hu
 have hl := h.1
 obtain ⟨es, h1, ⟨c, rfl, hc⟩, hg⟩ := CO.get h (i := q / 3) (by omega)
 have hj : q % 3 < 3 := Nat.mod_lt _ (by decide)
 have e : q / 3 * 3 + q % 3 = q := by omega
 have hx : ∀ v, [Value.int .i64 (xs.getD (q / 3) (0, 0, [])).1, .int .i64 (xs.getD (q / 3) (0, 0, [])).2.1, c][q % 3]? = some v → cs[q] = v := fun v hv => by
  have := hg (q % 3) v hv
  rw [e, List.getElem?_eq_getElem hq] at this
  exact Option.some.inj this
 obtain ⟨b, n, k, rfl⟩ := IntsF.isSl hc
 match hm : q % 3, hj with
 | 0, _ => rw [hx _ (by rw [hm]; rfl)]; rfl
 | 1, _ => rw [hx _ (by rw [hm]; rfl)]; rfl
 | 2, _ => rw [hx _ (by rw [hm]; rfl)]; rfl
def WKJ (F0 : FH) (e ES T : TypeId) (bw : Nat) (fv : Value) (tl : List HP) (I : Nat → List StepT → Prop) (k : Nat) (Fy : FH) (Ly : List HP) : Prop :=
 ∃ (sv : Value) (ss : List StepT) (cs : List Value) (Ls : List HP) (m : Nat), IsSl sv ∧ StepsC Fy cs ss ∧ m = ss.length ∧ DeepL 3 (StepO e) cs ss Ls ∧ Fresh F0 Fy (star Ls) ∧ I k ss ∧ Ly = cellsH bw [fv, sv] T :: slH ES 3 sv m cs :: tl
theorem WKJ.mono {F0 F F' : FH} {e ES T : TypeId} {bw k : Nat} {fv : Value} {tl L : List HP} {I : Nat → List StepT → Prop} (h : WKJ F0 e ES T bw fv tl I k F L) (le : F ≤ F') : WKJ F0 e ES T bw fv tl I k F' L :=
 let ⟨sv, ss, cs, Ls, m, h1, h2, h3, h4, h5, h6, h7⟩ := h
 ⟨sv, ss, cs, Ls, m, h1, h2.mono le, h3, h4, h5.mono le, h6, h7⟩
section
variable {P : Program} {fn : Func} {Q : Post} {ρ : Env} {F F0 : FH} {L : List HP}
theorem Does.at {f : FuncId} {args : List Value} {Q : Value → FH → Prop} {h : HP} (A : List HP) {B : List HP} (H : Does P f args F (h :: (A ++ B)) fun v F' L' => Q v F' ∧ h :: (A ++ B) = L') : Does P f args F (A ++ h :: B) fun v F' L' => Q v F' ∧ A ++ h :: B = L' := fun w Hw =>
 (H w (Sub.front.holds Hw)).mono fun _ _ ⟨v, F', L', he, le, H', hq, hl⟩ => ⟨v, F', _, he, le, Sub.back.holds (hl ▸ H'), hq, rfl⟩
end
section
variable {P : Program} {ρ : Env} {F : FH} {L : List HP} {K : Post} {d : Option Tmp} {ty : TypeId} {pos : String} {af : Array Edge} {g : Option (Nat × Bool)}
end
section
variable {P : Program} {ρ : Env} {F : FH} {L : List HP} {K : Post} {d : Option Tmp} {ty : TypeId} {pos : String} {af : Array Edge} {g : Option (Nat × Bool)}
end
def ByteE (F : FH) (es : List Value) (x : Int) : Prop := es = [.int .u8 x] ∧ 0 ≤ x ∧ x ≤ 255
theorem ByteE.mono {F F' : FH} (es : List Value) (x : Int) (h : ByteE F es x) : ByteE F' es x := h
def BytesF : FH → Value → List Int → Prop := SlOf 1 ByteE 0
theorem BytesF.mono {F F' : FH} {v : Value} {xs : List Int} (h : BytesF F v xs) (le : F ≤ F') : BytesF F' v xs := SlOf.mono ByteE.mono h le
theorem BytesF.slv {F : FH} {L : List HP} {v : Value} {xs : List Int} (h : BytesF F v xs) : SlV F L v xs.length := SlOf.slv h
theorem BytesF.isSl {F : FH} {v : Value} {xs : List Int} (h : BytesF F v xs) : IsSl v := by obtain ⟨_, h, _⟩ := h; exact h.isSl
theorem BytesF.rd {F : FH} {v : Value} {xs : List Int} (h : BytesF F v xs) {i : Nat} (hi : i < xs.length) : ∀ L, Rd F L (elemA v i) (.int .u8 (xs.getD i 0)) := by
 obtain ⟨es, hl, ⟨rfl, _⟩, hr⟩ := SlOf.get h hi
 intro L
 have := hr L 0 _ rfl
 simpa using this
theorem BytesF.range {F : FH} {v : Value} {xs : List Int} (h : BytesF F v xs) {i : Nat} (hi : i < xs.length) : 0 ≤ xs.getD i 0 ∧ xs.getD i 0 ≤ 255 := by
 obtain ⟨es, hl, ⟨rfl, h2⟩, hr⟩ := SlOf.get h hi
 exact h2
section
variable {P : Program} {n : Nat} {ops : Array Oper} {l : List Oper} {Q : QX} {ρ : Env} {F : FH} {L : List HP} {c : Code}
end
def SomesF (F : FH) (v : Value) (Q : List Int → Prop) : Prop := ∃ t, IntsF F v t ∧ Q t
theorem SomesF.mono {F F' : FH} {v : Value} {Q : List Int → Prop} (h : SomesF F v Q) (le : F ≤ F') : SomesF F' v Q := let ⟨t, h1, h2⟩ := h; ⟨t, h1.mono le, h2⟩
theorem SomesF.isSl {F : FH} {v : Value} {Q : List Int → Prop} (h : SomesF F v Q) : IsSl v := let ⟨_, h1, _⟩ := h; h1.isSl
def SomeRowsF (F : FH) (v : Value) (Q : List (List Int) → Prop) : Prop := ∃ t, RowsF F v t ∧ Q t
theorem SomeRowsF.mono {F F' : FH} {v : Value} {Q : List (List Int) → Prop} (h : SomeRowsF F v Q) (le : F ≤ F') : SomeRowsF F' v Q := let ⟨t, h1, h2⟩ := h; ⟨t, h1.mono le, h2⟩
theorem SomeRowsF.isSl {F : FH} {v : Value} {Q : List (List Int) → Prop} (h : SomeRowsF F v Q) : IsSl v := let ⟨_, h1, _⟩ := h; h1.isSl
section
variable {P : Program} {ρ : Env} {F : FH} {L : List HP} {K : Post} {d : Option Tmp} {ty : TypeId} {pos : String} {af : Array Edge} {g : Option (Nat × Bool)}
end
section
variable {P : Program} {ρ : Env} {F : FH} {L : List HP} {K : Post} {d : Option Tmp} {ty : TypeId} {pos : String} {af : Array Edge} {g : Option (Nat × Bool)}
end
theorem RowsC.ones {F : FH} {cs : List Value} {xs : List (List Int)} (h : RowsC F cs xs) : ∀ u ∈ cs, u.oneCell' = true := by
 intro u hu
 obtain ⟨q, hq, rfl⟩ := List.getElem_of_mem hu
 have hl := h.1
 obtain ⟨es, h1, ⟨c, rfl, hc⟩, hg⟩ := CO.get h (i := q) (by omega)
 have h9 := hg 0 c rfl
 rw [show q * 1 + 0 = q from by omega, List.getElem?_eq_getElem hq] at h9
 obtain ⟨b, n, k, rfl⟩ := IntsF.isSl hc
 rw [Option.some.inj h9]; rfl
def SomeStepsF (F : FH) (v : Value) (Q : List StepT → Prop) : Prop := ∃ t, StepsF F v t ∧ Q t
theorem SomeStepsF.mono {F F' : FH} {v : Value} {Q : List StepT → Prop} (h : SomeStepsF F v Q) (le : F ≤ F') : SomeStepsF F' v Q := let ⟨t, h1, h2⟩ := h; ⟨t, h1.mono le, h2⟩
theorem SomeStepsF.isSl {F : FH} {v : Value} {Q : List StepT → Prop} (h : SomeStepsF F v Q) : IsSl v := let ⟨_, h1, _⟩ := h; h1.isSl
def SomeBindsF (F : FH) (bs : List Value) (Q : List (List Int) → Prop) : Prop := ∃ bl, BindC F bs bl ∧ Q bl
theorem SomeBindsF.mono {F F' : FH} {bs : List Value} {Q : List (List Int) → Prop} (h : SomeBindsF F bs Q) (le : F ≤ F') : SomeBindsF F' bs Q := let ⟨t, h1, h2⟩ := h; ⟨t, h1.mono le, h2⟩
def CRuleO (E2 e : TypeId) (es : List Value) (x : CRuleT) (K : List HP) : Prop := ∃ a b c, es = [a, b, c] ∧ K = [intsH e a x.1, intsH e b x.2.1, pairsD e E2 c x.2.2]
abbrev crulesD (e E2 E : TypeId) (v : Value) (xs : List CRuleT) : HP := deepH 3 (CRuleO E2 e) E v xs
section
variable {e E2 E : TypeId} {F G : FH} {v : Value} {cs : List Value} {xs : List CRuleT} {L : List HP}
theorem CRuleO.fz (es : List Value) (x : CRuleT) (K : List HP) (h : CRuleO E2 e es x K) (hz : ∃ l, star K l ∧ ∀ p ∈ l, F.cells p.1 = some p.2) : CRuleF F es x := by
 obtain ⟨a, b, c, rfl, rfl⟩ := h
 exact ⟨a, b, c, rfl, intsH.fz (E := e) (frozen_star hz _ (by simp)), intsH.fz (E := e) (frozen_star hz _ (by simp)), pairsD.fz (e := e) (E := E2) (frozen_star hz _ (by simp))⟩
theorem crulesD.fz (h : Fz (crulesD e E2 E v xs) F) : CRulesF F v xs := deepH.fz CRuleO.fz h
theorem CRulesC.set {a b c : Value} {x y : List Int} {z : List (List Int × List Int)} (h : CRulesC F cs xs) {j : Nat} (hj : j < xs.length) (ha : IntsF F a x) (hb : IntsF F b y) (hc : PairsF F c z) : CRulesC F (cs.take (j * 3) ++ [a, b, c] ++ cs.drop (j * 3 + 3)) (xs.set j (x, y, z)) := CO.setN h hj rfl ⟨a, b, c, rfl, ha, hb, hc⟩
end
def mapH (b : Nat) (ks : List ByteArray) : HP := fun l => ∃ (es : Array MapEntry) (clock : Nat), l = [(b, .map es clock)] ∧ es.toList.map (·.key) = ks.map Value.string ∧ ∀ e ∈ es.toList, e.val = .bool true
theorem Holds.getMap {F : FH} {A B : List HP} {b : Nat} {ks : List ByteArray} {w : World} (h : Holds F (A ++ mapH b ks :: B) w) :
  ∃ (es : Array MapEntry) (clock : Nat), es.toList.map (·.key) = ks.map Value.string ∧ (∀ e ∈ es.toList, e.val = .bool true) ∧ w.heap[b]? = some (.map es clock) ∧ Holds F (A ++ objH b (.map es clock) :: B) w := by
 obtain ⟨h1, h2, h3, h4, l, hl, nd, hp⟩ := h
 obtain ⟨a, m, c, ha, ⟨es, clock, rfl, hk, hv⟩, hc, rfl⟩ := star_mid.1 hl
 have H : Holds F (A ++ objH b (.map es clock) :: B) w := ⟨h1, h2, h3, h4, _, star_mid.2 ⟨a, _, c, ha, rfl, hc, rfl⟩, nd, hp⟩
 exact ⟨es, clock, hk, hv, H.get, H⟩
theorem Sub.mkMap {A B : List HP} {b : Nat} {ks : List ByteArray} {es : Array MapEntry} {clock : Nat} (hk : es.toList.map (·.key) = ks.map Value.string) (hv : ∀ e ∈ es.toList, e.val = .bool true) :
  Sub (A ++ objH b (.map es clock) :: B) (A ++ mapH b ks :: B) := Sub.mid fun l hl => ⟨es, clock, hl, hk, hv⟩
theorem keys_isKey {es : List MapEntry} {ks : List ByteArray} (hk : es.map (·.key) = ks.map Value.string) : ∀ x ∈ es, MapKept.IsKey .string x.key := by
 intro x hx
 have : x.key ∈ es.map (·.key) := List.mem_map.2 ⟨x, hx, rfl⟩
 rw [hk] at this
 obtain ⟨s, _, e⟩ := List.mem_map.1 this
 rw [← e]; exact trivial
theorem keys_mem_iff {es : List MapEntry} {ks : List ByteArray} (hk : es.map (·.key) = ks.map Value.string) (s : ByteArray) : (∃ x ∈ es, x.key = .string s) ↔ s ∈ ks := by
 constructor
 ·rintro ⟨x, hx, e⟩
  have : x.key ∈ es.map (·.key) := List.mem_map.2 ⟨x, hx, rfl⟩
  rw [hk, e] at this
  obtain ⟨s', h, e2⟩ := List.mem_map.1 this
  cases e2; exact h
 ·intro h
  have : Value.string s ∈ ks.map Value.string := List.mem_map.2 ⟨s, h, rfl⟩
  rw [← hk] at this
  obtain ⟨x, hx, e⟩ := List.mem_map.1 this
  exact ⟨x, hx, e⟩
section
variable {P : Program} {ρ : Env} {F : FH} {L : List HP} {K : Post} {d : Option Tmp} {ty : TypeId} {pos : String} {af : Array Edge} {g : Option (Nat × Bool)}
theorem XOp.makeMap {t : TypeId} (k : ∀ b, K (.map (some b)) F (mapH b [] :: L)) : XOp P ⟨d, .makeMap t none, ty, pos, af, g⟩ ρ F L K := by
 intro w H
 refine .inl ⟨.map (some w.heap.size), w.alloc (.map #[] 0), F, _, ?_, FLe.refl F, (Sub.mkMap (A := []) (ks := []) rfl (by simp)).holds (H.new (.map #[] 0)), k _⟩
 simp [execOp, Instr.makeMap, newObj, Sem.run]
theorem XOp.lookupM {t kt et : TypeId} {x ix : Operand} {b : Nat} {ks : List ByteArray} {s : ByteArray} (bb : Bool) (A : List HP) {B : List HP} (hbb : bb = true ↔ s ∈ ks) (hm : P.underlying t = some (.map kt et)) (hd : P.underlying kt = some .string)
  (hz : ∀ w, (zeroValue et).run P w = .ok (.bool false) w) (hx : evO ρ x = .map (some b)) (hi : evO ρ ix = .string s) (hL : L = A ++ mapH b ks :: B) (k : K (.bool bb) F L) :
  XOp P ⟨d, .lookup t x ix false, ty, pos, af, g⟩ ρ F L K := by
 subst hL
 refine XOp.value (fun w H => ?_) k
 obtain ⟨es, clock, hk, hv, hb, _⟩ := H.getMap
 have hkey : MapKept.IsKey .string (.string s) := trivial
 rcases MapKept.findNow_spec hkey es.toList 0 (keys_isKey hk) with ⟨h1, h2⟩ | ⟨j, e, h1, h2, h3⟩
 ·have hn : bb = false := by rw [Bool.eq_false_iff]; intro h0; have h := hbb.1 h0; exact (by obtain ⟨y, hy, e⟩ := (keys_mem_iff hk s).2 h; exact h2 y hy e)
  simp [execOp, hx, hi, Instr.lookup, run_underlying hm, MapKept.run_getObj_map hb, MapKept.run_checkKey hd hkey, MapKept.run_findKey hd h1, Result.andThen, hz, hn]
 ·have hm2 : e ∈ es.toList := List.mem_of_getElem? h2
  have hn : bb = true := hbb.2 ((keys_mem_iff hk s).1 ⟨e, hm2, h3⟩)
  simp [execOp, hx, hi, Instr.lookup, run_underlying hm, MapKept.run_getObj_map hb, MapKept.run_checkKey hd hkey, MapKept.run_findKey hd h1, Result.andThen, hv e hm2, hn]
theorem heap_put {w : World} {b : Nat} {o : Obj} (o' : Obj) (hb : w.heap[b]? = some o) : (w.heap.setIfInBounds b o')[b]? = some o' ∧ ∀ k, k ≠ b → (w.heap.setIfInBounds b o')[k]? = w.heap[k]? := MapKept.heap_set hb
theorem Holds.putMap {A B : List HP} {b : Nat} {es es' : Array MapEntry} {clock clock' : Nat} {ks : List ByteArray} {w : World} (H : Holds F (A ++ objH b (.map es clock) :: B) w) (hb : w.heap[b]? = some (.map es clock))
  (hk : es'.toList.map (·.key) = ks.map Value.string) (hv : ∀ e ∈ es'.toList, e.val = .bool true) : Holds F (A ++ mapH b ks :: B) { w with heap := w.heap.setIfInBounds b (.map es' clock') } :=
 (Sub.mkMap hk hv).holds (H.put rfl rfl rfl (heap_put _ hb).1 (heap_put _ hb).2)
theorem XOp.updateM {t kt et : TypeId} {m x y : Operand} {b : Nat} {ks : List ByteArray} {s : ByteArray} (A : List HP) {B : List HP} (hm : P.underlying t = some (.map kt et)) (hd : P.underlying kt = some .string)
  (hx : evO ρ m = .map (some b)) (hi : evO ρ x = .string s) (hy : evO ρ y = .bool true) (hL : L = A ++ mapH b ks :: B) (hs : s ∉ ks) (k : K undef F (A ++ mapH b (ks ++ [s]) :: B)) :
  XOp P ⟨d, .mapUpdate t m x y, ty, pos, af, g⟩ ρ F L K := by
 subst hL
 intro w H
 obtain ⟨es, clock, hk, hv, hb, H2⟩ := H.getMap
 have hkey : MapKept.IsKey .string (.string s) := trivial
 rcases MapKept.findNow_spec hkey es.toList 0 (keys_isKey hk) with ⟨h1, h2⟩ | ⟨j, e, h1, h2, h3⟩
 ·refine .inr (.inl ⟨{ w with heap := w.heap.setIfInBounds b (.map (es.push { key := .string s, val := .bool true, born := clock }) (clock + 1)) }, F, _, ?_, FLe.refl F, H2.putMap hb ?_ ?_, k⟩)
  ·simp [execOp, hx, hi, hy, Instr.mapUpdate, run_underlying hm, MapKept.run_getObj_map hb, MapKept.run_checkKey hd hkey, MapKept.run_findKey hd h1, MapKept.run_setObj_map _ hb, Result.andThen]
  ·simp [hk]
  ·intro e he
   simp only [Array.toList_push, List.mem_append, List.mem_singleton] at he
   rcases he with he | rfl
   ·exact hv e he
   ·rfl
 ·exact absurd ((keys_mem_iff hk s).1 ⟨e, List.mem_of_getElem? h2, h3⟩) hs
theorem XOp.deleteM {t tk kt et : TypeId} {m x : Operand} {b : Nat} {ks : List ByteArray} {s : ByteArray} (A : List HP) {B : List HP} (hm : P.underlying t = some (.map kt et)) (hd : P.underlying kt = some .string)
  (hx : evO ρ m = .map (some b)) (hi : evO ρ x = .string s) (hL : L = A ++ mapH b (s :: ks) :: B) (k : K (.tuple #[]) F (A ++ mapH b ks :: B)) :
  XOp P ⟨d, .call { callee := .builtin .delete, args := #[m, x], argTypes := #[t, tk] }, ty, pos, af, g⟩ ρ F L K := by
 subst hL
 intro w H
 obtain ⟨es, clock, hk, hv, hb, H2⟩ := H.getMap
 have hkey : MapKept.IsKey .string (.string s) := trivial
 obtain ⟨l⟩ := es
 cases l with
 | nil => simp at hk
 | cons e r =>
  simp only [List.map_cons, List.cons.injEq] at hk
  have h1 : Instr.findNow .string (.string s) (e :: r) 0 = some (some (0, e.val)) := by
   have : (s == s) = true := (MapKept.bytes_beq s s).2 rfl
   simp [Instr.findNow, hk.1, Instr.sameNow, this]
  refine .inl ⟨.tuple #[], { w with heap := w.heap.setIfInBounds b (.map r.toArray clock) }, F, _, ?_, FLe.refl F, H2.putMap hb ?_ ?_, k⟩
  ·simp [execOp, resolve, invoke, builtin, hx, hi, Builtin.delete_, run_underlying hm, MapKept.run_getObj_map hb, MapKept.run_checkKey hd hkey, MapKept.run_findKey hd h1, MapKept.run_setObj_map _ hb, Result.andThen, Array.eraseIdxIfInBounds]
  ·simpa using hk.2
  ·intro y hy; exact hv y (by simp at hy ⊢; exact .inr hy)
theorem XOp.eqNilPtr {x y : Operand} {t te u : TypeId} {a : Option Addr} (ht : P.underlying t = some (.pointer te)) (hx : evO ρ x = .pointer a) (hy : evO ρ y = .pointer none) (kk : K (.bool (decide (a = none))) F L) :
  XOp P ⟨d, .binOp .eql t x y u, ty, pos, af, g⟩ ρ F L K :=
 XOp.value (fun w _ => by
  have h : ∀ q : Nat, (Op.equalIn (q + 1) t (.pointer a) (.pointer none)).run P w = .ok (decide (a = none)) w := fun q => by
   cases a <;> simp [Op.equalIn, run_underlying ht, Result.andThen]
  simp [execOp, hx, hy, eqGuard_at_pointer, binOp, Op.equal, Op.maxDepth, h 9999, Result.andThen]) kk
theorem XOp.neSamePtr {x y : Operand} {t te u : TypeId} {a : Addr} {j : TypeInfo} (ht : P.underlying t = some (.pointer te)) (hj : P.info? te = some j) (hx : evO ρ x = .pointer (some a)) (hy : evO ρ y = .pointer (some a)) (kk : K (.bool false) F L) :
  XOp P ⟨d, .binOp .neq t x y u, ty, pos, af, g⟩ ρ F L K :=
 XOp.value (fun w _ => by
  have h := Go.Lib.run_neq_ptr_same (P := P) w a ht hj
  simp [execOp, hx, hy, eqGuard_at_pointer, Result.andThen, h]) kk
theorem XOp.eqNilT {x y : Operand} {t te u : TypeId} (ht : P.underlying t = some (.pointer te)) (hx : evO ρ x = .pointer none) (hy : evO ρ y = .pointer none) (kk : K (.bool true) F L) : XOp P ⟨d, .binOp .eql t x y u, ty, pos, af, g⟩ ρ F L K :=
 XOp.eqNilPtr ht hx hy kk
theorem XOp.eqNilF {x y : Operand} {t te u : TypeId} {a : Addr} (ht : P.underlying t = some (.pointer te)) (hx : evO ρ x = .pointer (some a)) (hy : evO ρ y = .pointer none) (kk : K (.bool false) F L) : XOp P ⟨d, .binOp .eql t x y u, ty, pos, af, g⟩ ρ F L K :=
 XOp.eqNilPtr ht hx hy (by simpa using kk)
theorem shape_own {A B : List HP} {b : Nat} {cs : List Value} {E : TypeId} {w : World} (H : Holds F (A ++ cellsH b cs E :: B) w) : w.shape? b = some (E, cs.length) := by
 simp [World.shape?, H.getCells]
theorem XOp.toUnsafe {x : Operand} {src dst te E : TypeId} {b : Nat} {cs : List Value} {j : TypeInfo} (A : List HP) {B : List HP} (hs : P.underlying src = some (.pointer te)) (hd : P.underlying dst = some .unsafePointer) (hj : P.info? te = some j) (hz : j.size ≠ 0)
  (hx : evO ρ x = ptr b 0) (hL : L = A ++ cellsH b cs E :: B) (hl : 0 < cs.length) (k : K (ptr b 0) F L) : XOp P ⟨d, .convert src dst x, ty, pos, af, g⟩ ρ F L K := by
 subst hL
 exact XOp.value (fun w H => by
  have := Go.Lib.run_to_unsafe (P := P) w (cells := cs.length) ⟨b, 0, none⟩ hs hd hj hz (shape_own H) hl
  simp [execOp, hx, this]) k
theorem XOp.fromUnsafe {x : Operand} {src dst te E : TypeId} {b n m : Nat} {cs : List Value} {j : TypeInfo} (A : List HP) {B : List HP} (hs : P.underlying src = some .unsafePointer) (hd : P.underlying dst = some (.pointer te)) (hj : P.info? te = some j)
  (hx : evO ρ x = ptr b 0) (hL : L = A ++ cellsH b cs E :: B) (hn : cs.length = n) (hm : P.cellsOf E = m) (hlies : liesAt P P.depth E (n / m) 0 te 1 = true) (k : K (ptr b 0) F L) : XOp P ⟨d, .convert src dst x, ty, pos, af, g⟩ ρ F L K := by
 subst hL hn hm
 exact XOp.value (fun w H => by
  have := Go.Lib.run_from_unsafe (P := P) w (cells := cs.length) ⟨b, 0, none⟩ hs hd hj (shape_own H) hlies
  simp [execOp, hx, this]) k
theorem XOp.externSame {f : FuncId} {fn : Func} {e : Array Value → Sem Value} {x : Operand} {ts : Array TypeId} {v : Value} (hf : P.funcs[f]? = some fn) (hname : (fn.name == "runtime.NumGoroutine") = false) (hb : fn.body.isNone = true) (hn : Extern.findNext fn = none)
  (he : Extern.find fn = some e) (hs : ∀ w, (e #[v]).run P w = .ok v w) (hx : evO ρ x = v) (k : K v F L) :
  XOp P ⟨d, .call { callee := .value (.func f), args := #[x], argTypes := ts }, ty, pos, af, g⟩ ρ F L K :=
 XOp.value (fun w H => by
  have := run_callFunc_extern (P := P) hf hname hb hn he #[v] w
  have e1 : evO ρ (.func f) = Value.func (.func f) #[] #[] := rfl
  simp [execOp, resolve, e1, Deferred.ofValue, invoke, hx, this, hs, Result.andThen]) k
theorem XOp.sliceData {x : Operand} {ts : Array TypeId} {v : Value} {n : Nat} (hx : evO ρ x = v) (hv : SlV F L v n) (hn : 0 < n) (k : K (.pointer (some (elemA v 0))) F L) :
  XOp P ⟨d, .call { callee := .builtin .unsafeSliceData, args := #[x], argTypes := ts }, ty, pos, af, g⟩ ρ F L K :=
 XOp.value (fun w H => by
  obtain ⟨base, cap, rfl, hc, h0⟩ := hv w H
  cases base with
  | none => have := h0 rfl; omega
  | some a =>
   have := Go.Lib.run_unsafeSliceData_row (P := P) w ts ty a n cap (by omega)
   have e : elemA (.slice (some a) n cap) 0 = a := by simp [elemA, Addr.add]
   simp [execOp, resolve, invoke, builtin, hx, this, e]) k
theorem Holds.frozen {A B : List HP} {E s n : Nat} {v : Value} {cs : List Value} {w : World} (H : Holds F (A ++ slH E s v n cs :: B) w) {g0 cap : Nat} (hv : v = .slice (some ⟨g0, 0, none⟩) n cap) (hn : 0 < n) (hs : 0 < s) (m : Nat) : Holds F (A ++ B) (w.freeze ⟨g0, 0, none⟩ m) := by
 obtain ⟨h1, h2, h3, h4, l, hl, nd, hp⟩ := H
 obtain ⟨a, q, c, ha, ⟨hlen, hm⟩, hc, rfl⟩ := star_mid.1 hl
 rcases hm with ⟨base, hv2, rfl, rfl⟩ | ⟨b, cap2, spare, hv2, hcap, hsp, rfl⟩
 ·omega
 ·have e : b = g0 := by rw [hv] at hv2; cases hv2; rfl
  subst e
  have hb := hp (b, .cells (cs ++ spare).toArray E (0, 0)) (by simp)
  have other : ∀ k, k ≠ b → (w.freeze ⟨b, 0, none⟩ m).heap[k]? = w.heap[k]? := fun k hk => by
   unfold World.freeze
   split
   ·rfl
   ·simp only [Array.getElem?_modify]
    rw [if_neg (by simpa using fun h => hk h.symm)]
  have nd2 : ((a ++ c).map Prod.fst).Nodup ∧ b ∉ (a ++ c).map Prod.fst := by
   have pm : (a ++ ([(b, Obj.cells (cs ++ spare).toArray E (0, 0))] ++ c)).Perm ((b, Obj.cells (cs ++ spare).toArray E (0, 0)) :: (a ++ c)) := List.perm_middle
   have := (pm.map Prod.fst).nodup_iff.1 nd
   rw [List.map_cons, List.nodup_cons] at this
   exact ⟨this.2, this.1⟩
  refine ⟨?_, ?_, ?_, fun k o hk => ?_, a ++ c, star_append.2 ⟨a, c, ha, hc, rfl⟩, nd2.1, fun p hpm => ?_⟩
  ·rw [← h1]; unfold World.freeze; split <;> rfl
  ·rw [← h2]; unfold World.freeze; split <;> rfl
  ·rw [← h3]; unfold World.freeze; split <;> rfl
  ·have hkb : k ≠ b := fun e => by rw [e, hb.1] at hk; cases hk
   rw [other k hkb]; exact h4 k o hk
  ·have hkb : p.1 ≠ b := fun e => nd2.2 (e ▸ List.mem_map.2 ⟨p, hpm, rfl⟩)
   have hq := hp p (by rcases List.mem_append.1 hpm with h | h <;> simp [h])
   exact ⟨hq.1, by rw [other _ hkb]; exact hq.2⟩
theorem XOp.unsafeStr {x y : Operand} {pt it E : TypeId} {v : Value} {us : List UInt8} {cs : List Value} {n : Nat} (A : List HP) {B : List HP} (hp : P.underlying pt = some (.pointer E)) (hc : P.cellsOf E = 1) (hx : evO ρ x = .pointer (some (elemA v 0))) (hy : evO ρ y = .int .i64 (n : Int))
  (hL : L = A ++ slH E 1 v n cs :: B) (hcs : cs = Go.Lib.byteCells us) (hn : 0 < n) (h63 : n ≤ 9223372036854775807) (k : K (.string ⟨us.toArray⟩) F (A ++ B)) :
  XOp P ⟨d, .call { callee := .builtin .unsafeString, args := #[x, y], argTypes := #[pt, it] }, ty, pos, af, g⟩ ρ F L K := by
 subst hL hcs
 intro w H
 obtain ⟨hlen, hh⟩ := H.getSl
 rcases hh with ⟨_, _, h0, _⟩ | ⟨b, cap, spare, rfl, hcap, hs, H'⟩
 ·omega
 ·have hul : us.length = n := by rw [Go.Lib.byteCells_length] at hlen; omega
  have hb := H'.getCells
  have e : elemA (.slice (some ⟨b, 0, none⟩) n cap) 0 = ⟨b, 0, none⟩ := by simp [elemA, Addr.add]
  have hr := Go.Lib.run_unsafeString_row (P := P) w pt it ty E hp hc b (Go.Lib.byteCells us ++ spare).length (by simp [World.shape?, hb]) us (by intro h; subst h; simp at hul; omega) (by rw [List.length_append, Go.Lib.byteCells_length]; omega) (by omega) (fun j x hx => by
   rw [add_lit, Nat.zero_add]
   refine cell_of_heap hb ?_
   rw [List.getElem?_toArray, List.getElem?_append_left (by rw [Go.Lib.byteCells_length]; exact (List.getElem?_eq_some_iff.1 hx).1)]
   simp [Go.Lib.byteCells, hx])
  rw [hul] at hr
  refine .inl ⟨_, w.freeze ⟨b, 0, none⟩ n, F, _, ?_, FLe.refl F, H.frozen rfl hn (by decide) n, k⟩
  rw [e] at hx
  simp [execOp, resolve, invoke, builtin, hx, hy, hr]
end
def bytesC (t : List Int) : List Value := t.map fun n => .int .u8 (n + 24)
theorem small_get {t : List Int} {k : Nat} (h : ∀ x ∈ t, -24 ≤ x ∧ x < 200) (hk : k < t.length) : -24 ≤ t.getD k 0 ∧ t.getD k 0 < 200 := by
 have := h t[k] (List.getElem_mem hk)
 simpa [List.getD, hk] using this
theorem bytesC_next {t : List Int} {k : Nat} (hk : k < t.length) : bytesC (t.take k) ++ [.int .u8 (t.getD k 0 + 24)] = bytesC (t.take (k + 1)) := by
 rw [M.take_succ_getD 0 hk]; simp [bytesC]
theorem bytesC_key {t : List Int} (h : ∀ x ∈ t, -24 ≤ x ∧ x < 200) : bytesC t = Go.Lib.byteCells (M.keyU t) := by
 unfold bytesC Go.Lib.byteCells M.keyU
 rw [List.map_map]
 refine List.map_congr_left fun x hx => ?_
 have := h x hx
 show Value.int .u8 (x + 24) = Value.int .u8 ((UInt8.ofNat (x + 24).toNat).toNat : Int)
 rw [UInt8.toNat_ofNat', show (x + 24).toNat % 2 ^ 8 = (x + 24).toNat by omega, Int.toNat_of_nonneg (by omega)]
open Go Go.WideShapes Go.ChangeShapes Go.RowKit
def fhOf (w : World) : FH := ⟨fun b => w.heap[b]?, w.os, w.output, w.tape⟩
theorem holds_fhOf (w : World) : Holds (fhOf w) [] w := ⟨rfl, rfl, rfl, fun _ _ h => h, [], rfl, List.nodup_nil, fun p hp => absurd hp (by simp)⟩
theorem cell_fhOf (w : World) (a : Addr) : (fhOf w).cell? a = w.cell? a := by
 unfold FH.cell? World.cell? fhOf
 rfl
theorem below_of_holds {w w' : World} {F' : FH} {L' : List HP} (le : fhOf w ≤ F') (h : Holds F' L' w') : Below w.heap.size w w' := by
 have key : ∀ k o, w.heap[k]? = some o → w'.heap[k]? = some o := fun k o hk => h.cells k o (le.cells k o hk)
 refine ⟨h.os.trans le.os, h.tape.trans le.tape, h.output.trans le.output, ?_, fun k hk => ?_⟩
 ·rcases Nat.eq_zero_or_pos w.heap.size with h0 | h0
  ·omega
  ·have h1 : w.heap[w.heap.size - 1]? = some (w.heap[w.heap.size - 1]'(by omega)) := Array.getElem?_eq_getElem (by omega)
   have h2 := (Array.getElem?_eq_some_iff.1 (key _ _ h1)).1
   omega
 ·have h1 : w.heap[k]? = some (w.heap[k]'hk) := Array.getElem?_eq_getElem hk
  rw [h1]
  exact key _ _ h1
def Opens (P : Program) (t : TypeId) {α : Type} (R : FH → List Value → α → Prop) (B : α → Prop) : Prop :=
 ∀ (H : Type) (enc : TypeId × Value → H) (w : World) (base : Nat) (spare : Nat → Bool) (held : Bool) (fuel : Nat) (cs : List Value) (x : DataW H × List MemPlace),
  DataW.trod enc P w base spare held fuel t cs = some x → ∃ a, R (fhOf w) cs a ∧ B a
section
variable {P : Program} {t e : TypeId}
theorem opens_ints (ht : P.underlying t = some (.slice e)) (he : P.underlying e = some (.int .i64)) (hc : P.cellsOf e = 1) : Opens P t RowF (fun xs => xs.length ≤ 9223372036854775807) := by
 intro H enc w base spare held fuel cs x h
 rcases open_ints ht he hc h with ⟨rfl, _⟩ | ⟨a, len, cap, zs, rfl, hb, hl, hm, hz, _, hcell, _⟩
 ·exact ⟨[], ⟨_, rfl, by simp, none, 0, rfl, by simp, fun _ => rfl, fun a h => by cases h⟩, by simp⟩
 ·have hlz : len ≤ zs.length := by rw [hz]; split <;> omega
  have e1 : (zs.take len).length = len := by rw [List.length_take]; omega
  refine ⟨zs.take len, ⟨_, rfl, by simp, some a, cap, by rw [e1], by omega, (fun h => by cases h), ?_⟩, by unfold maxLen at hm; omega⟩
  intro a' ha i u hu
  obtain rfl := Option.some.inj ha
  have hi : i < len := by have := (List.getElem?_eq_some_iff.1 hu).1; simp at this; omega
  rw [cell_fhOf, hcell i (by omega)]
  rw [List.getElem?_map, List.getElem?_take, if_pos hi, List.getElem?_eq_getElem (by omega)] at hu
  simp only [Option.map_some, Option.some.injEq] at hu
  rw [← hu]
  simp [List.getD, List.getElem?_eq_getElem (show i < zs.length by omega)]
theorem opens_slice {α : Type} {R : FH → List Value → α → Prop} {B : α → Prop} {s : Nat} (d : α) (ht : P.underlying t = some (.slice e)) (hc : P.cellsOf e = s) (ho : Opens P e R B) :
  Opens P t (fun F cs (xs : List α) => ∃ v, cs = [v] ∧ SlOf s R d F v xs) (fun xs => xs.length ≤ 9223372036854775807 ∧ ∀ i, i < xs.length → B (xs.getD i d)) := by
 intro H enc w base spare held fuel cs x h
 rcases Go.Deep.open_slice ht h with ⟨rfl, _⟩ | ⟨a, len, cap, m, n, D, Pl, rfl, hb, hl, hm, hmm, _, hx⟩
 ·exact ⟨[], ⟨_, rfl, [], ⟨by simp, none, 0, rfl, by simp, fun _ => rfl, fun a h => by cases h⟩, fun i hi => by simp at hi⟩, by simp, fun i hi => by simp at hi⟩
 ·have hlm : len ≤ m := by rw [hmm]; split <;> omega
  rw [hc] at hx
  have each : ∀ i, i < len → ∃ q : α, ∃ cs' : List Value, cs'.length = s ∧ (∀ r, r < s → w.cell? (a.add (i * s + r)) = cs'[r]?) ∧ R (fhOf w) cs' q ∧ B q := by
   intro i hi
   obtain ⟨cs', h1, h2⟩ := hx i (by omega)
   obtain ⟨_, hlen, hcell⟩ := World.cells?_some h1
   obtain ⟨q, hq, hbq⟩ := ho H enc w base spare held n cs' _ h2
   exact ⟨q, cs', hlen, fun r hr => by rw [← hcell r hr, add_add], hq, hbq⟩
  have ⟨q, hq⟩ : ∃ q : Nat → α, ∀ i, i < len → ∃ cs' : List Value, cs'.length = s ∧ (∀ r, r < s → w.cell? (a.add (i * s + r)) = cs'[r]?) ∧ R (fhOf w) cs' (q i) ∧ B (q i) := by
   haveI : Inhabited α := ⟨d⟩
   exact Go.Deep.choose_lt each
  let V : Nat → Value := fun j => (w.cell? (a.add j)).getD undef
  have hV : ∀ j, j < len * s → w.cell? (a.add j) = some (V j) := by
   intro j hj
   have hs : 0 < s := by rcases Nat.eq_zero_or_pos s with h0 | h0; subst h0; simp at hj; exact h0
   have hdiv : j / s < len := (Nat.div_lt_iff_lt_mul hs).2 hj
   obtain ⟨cs', hl', hcell, _⟩ := hq (j / s) hdiv
   have hr := hcell (j % s) (Nat.mod_lt _ hs)
   have e1 : j / s * s + j % s = j := by rw [Nat.mul_comm]; exact Nat.div_add_mod j s
   rw [e1] at hr
   have hlt : j % s < cs'.length := by rw [hl']; exact Nat.mod_lt _ hs
   rw [List.getElem?_eq_getElem hlt] at hr
   show w.cell? (a.add j) = some ((w.cell? (a.add j)).getD undef)
   rw [hr]; rfl
  have hxl : ((List.range len).map q).length = len := by simp
  have hgd : ∀ i, i < len → ((List.range len).map q).getD i d = q i := fun i hi => by simp [List.getD, hi]
  refine ⟨(List.range len).map q, ⟨_, rfl, (List.range (len * s)).map V, ⟨by simp, some a, cap, by rw [hxl], by omega, (fun h => by cases h), ?_⟩, ?_⟩, by rw [hxl]; unfold maxLen at hm; omega, fun i hi => ?_⟩
  ·intro a' ha i u hu
   obtain rfl := Option.some.inj ha
   have hi : i < len * s := by have := (List.getElem?_eq_some_iff.1 hu).1; simpa using this
   rw [cell_fhOf, hV i hi]
   rw [List.getElem?_map, List.getElem?_range hi] at hu
   exact hu
  ·intro i hi
   rw [hxl] at hi
   obtain ⟨cs', hl', hcell, hR, _⟩ := hq i hi
   refine ⟨cs', hl', ?_, by rw [hgd i hi]; exact hR⟩
   have hle : i * s + s ≤ len * s := by
    have : (i + 1) * s ≤ len * s := Nat.mul_le_mul_right s hi
    rwa [Nat.succ_mul] at this
   apply List.ext_getElem?
   intro r
   rcases Nat.lt_or_ge r s with hr | hr
   ·rw [List.getElem?_take, if_pos hr, List.getElem?_drop, List.getElem?_map, List.getElem?_range (by omega), ← hcell r hr, hV _ (by omega)]; rfl
   ·rw [List.getElem?_eq_none (by simp; omega), List.getElem?_eq_none (by omega)]
  ·rw [hxl] at hi
   obtain ⟨_, _, _, _, hB⟩ := hq i hi
   rw [hgd i hi]
   exact hB
theorem opens_struct1 {α : Type} {R : FH → List Value → α → Prop} {B : α → Prop} {f0 : Field} (ht : P.underlying t = some (.struct #[f0])) (ho : f0.offset = 0) (hc : P.cellsOf f0.type = P.cellsOf t) (h0 : Opens P f0.type R B) : Opens P t R B := by
 intro H enc w base spare held fuel cs x h
 obtain ⟨y0, n, _, hl, h⟩ := trod_struct1 ht h
 rw [ho, hc, List.drop_zero, ← hl, List.take_length] at h
 exact h0 H enc w base spare held n cs _ h
theorem opens_struct2 {α β : Type} {R0 : FH → List Value → α → Prop} {B0 : α → Prop} {R1 : FH → List Value → β → Prop} {B1 : β → Prop} {f0 f1 : Field} (ht : P.underlying t = some (.struct #[f0, f1])) (o0 : f0.offset = 0) (o1 : f1.offset = P.cellsOf f0.type)
  (hc : P.cellsOf f0.type + P.cellsOf f1.type = P.cellsOf t) (h0 : Opens P f0.type R0 B0) (h1 : Opens P f1.type R1 B1) : Opens P t (fun F cs (x : α × β) => ∃ a b, cs = a ++ b ∧ R0 F a x.1 ∧ R1 F b x.2) (fun x => B0 x.1 ∧ B1 x.2) := by
 intro H enc w base spare held fuel cs x h
 obtain ⟨y0, y1, n, _, hl, g0, g1⟩ := trod_struct2 ht h
 rw [o0, List.drop_zero] at g0
 rw [o1] at g1
 obtain ⟨a, ha, ba⟩ := h0 H enc w base spare held n _ _ g0
 obtain ⟨b, hb, bb⟩ := h1 H enc w base spare held n _ _ g1
 refine ⟨(a, b), ⟨_, _, ?_, ha, hb⟩, ba, bb⟩
 rw [List.take_of_length_le (l := cs.drop _) (by rw [List.length_drop]; omega), List.take_append_drop]
theorem Opens.mono {α : Type} {R R' : FH → List Value → α → Prop} {B B' : α → Prop} (h : Opens P t R B) (hR : ∀ F cs a, R F cs a → R' F cs a) (hB : ∀ a, B a → B' a) : Opens P t R' B' := fun H enc w base spare held fuel cs x hx =>
 let ⟨a, h1, h2⟩ := h H enc w base spare held fuel cs x hx
 ⟨a, hR _ _ _ h1, hB _ h2⟩
abbrev M63 : Nat := 9223372036854775807
theorem opens_pairs {f0 f1 : Field} {q0 q1 : TypeId} (ht : P.underlying t = some (.slice e)) (he : P.underlying e = some (.struct #[f0, f1])) (ce : P.cellsOf e = 2) (o0 : f0.offset = 0) (o1 : f1.offset = 1)
  (c0 : P.cellsOf f0.type = 1) (c1 : P.cellsOf f1.type = 1) (u0 : P.underlying f0.type = some (.slice q0)) (u1 : P.underlying f1.type = some (.slice q1)) (w0 : P.underlying q0 = some (.int .i64)) (w1 : P.underlying q1 = some (.int .i64))
  (k0 : P.cellsOf q0 = 1) (k1 : P.cellsOf q1 = 1) :
  Opens P t (fun F cs (xs : List (List Int × List Int)) => ∃ v, cs = [v] ∧ PairsF F v xs) (fun xs => xs.length ≤ M63 ∧ ∀ i, i < xs.length → (xs.getD i ([], [])).1.length ≤ M63 ∧ (xs.getD i ([], [])).2.length ≤ M63) :=
 opens_slice ([], []) ht ce ((opens_struct2 he o0 (by rw [o1, c0]) (by rw [c0, c1, ce]) (opens_ints u0 w0 k0) (opens_ints u1 w1 k1)).mono
  (by rintro F cs x ⟨_, _, rfl, ⟨a, rfl, ha⟩, ⟨b, rfl, hb⟩⟩; exact ⟨a, b, rfl, ha, hb⟩) (fun _ h => h))
theorem opens_s1 {t0 : TypeId} {n : Nat} {α : Type} {R : FH → List Value → α → Prop} {B : α → Prop} {f0 : Field} (ht : P.underlying t = some (.struct #[f0])) (e0 : f0.type = t0) (o0 : f0.offset = 0) (c0 : P.cellsOf t0 = n) (ct : P.cellsOf t = n) (h0 : Opens P t0 R B) : Opens P t R B := by
 subst e0
 exact opens_struct1 ht o0 (c0.trans ct.symm) h0
theorem opens_s2 {t0 t1 : TypeId} {n0 n1 n : Nat} {α β : Type} {R0 : FH → List Value → α → Prop} {B0 : α → Prop} {R1 : FH → List Value → β → Prop} {B1 : β → Prop} {f0 f1 : Field} (ht : P.underlying t = some (.struct #[f0, f1]))
  (e0 : f0.type = t0) (e1 : f1.type = t1) (o0 : f0.offset = 0) (o1 : f1.offset = n0) (c0 : P.cellsOf t0 = n0) (c1 : P.cellsOf t1 = n1) (ct : P.cellsOf t = n) (hn : n0 + n1 = n) (h0 : Opens P t0 R0 B0) (h1 : Opens P t1 R1 B1) :
  Opens P t (fun F cs (x : α × β) => ∃ a b, cs = a ++ b ∧ R0 F a x.1 ∧ R1 F b x.2) (fun x => B0 x.1 ∧ B1 x.2) := by
 subst e0 e1
 exact opens_struct2 ht o0 (o1.trans c0.symm) (by rw [c0, c1, ct, hn]) h0 h1
theorem opens_ps {t0 t1 : TypeId} {f0 f1 : Field} {q0 q1 : TypeId} (ht : P.underlying t = some (.slice e)) (he : P.underlying e = some (.struct #[f0, f1])) (e0 : f0.type = t0) (e1 : f1.type = t1) (o0 : f0.offset = 0) (o1 : f1.offset = 1) (ce : P.cellsOf e = 2)
  (c0 : P.cellsOf t0 = 1) (c1 : P.cellsOf t1 = 1) (u0 : P.underlying t0 = some (.slice q0)) (u1 : P.underlying t1 = some (.slice q1)) (w0 : P.underlying q0 = some (.int .i64)) (w1 : P.underlying q1 = some (.int .i64)) (k0 : P.cellsOf q0 = 1) (k1 : P.cellsOf q1 = 1) :
  Opens P t (fun F cs (xs : List (List Int × List Int)) => ∃ v, cs = [v] ∧ PairsF F v xs) (fun xs => xs.length ≤ M63 ∧ ∀ i, i < xs.length → (xs.getD i ([], [])).1.length ≤ M63 ∧ (xs.getD i ([], [])).2.length ≤ M63) := by
 subst e0 e1
 exact opens_pairs ht he ce o0 o1 c0 c1 u0 u1 w0 w1 k0 k1
theorem Opens.slv {α : Type} {R : FH → List Value → α → Prop} {B : α → Prop} (h : Opens P t R B) (ht : P.underlying t = some (.slice e)) {H : Type} {enc : TypeId × Value → H} {w : World} {r : Reach} {base b0 : Nat} {spare : Nat → Bool} {held : Bool} {v : Value} {d : DataW H} {ps : List MemPlace}
  (hv : Value.okWide P w r b0 t v) (ht' : DataW.Trod enc P w base spare held t v d ps) : ∃ a, R (fhOf w) [v] a ∧ B a := by
 obtain ⟨a, l, c, rfl⟩ := okWide_slice ht hv
 obtain ⟨n, hn⟩ := ht'
 exact h H enc w base spare held n _ _ hn
theorem Opens.agg {α : Type} {R : FH → List Value → α → Prop} {B : α → Prop} (h : Opens P t R B) {fs : Array Field} (ht : P.underlying t = some (.struct fs)) {H : Type} {enc : TypeId × Value → H} {w : World} {r : Reach} {base b0 : Nat} {spare : Nat → Bool} {held : Bool} {v : Value} {d : DataW H} {ps : List MemPlace}
  (hv : Value.okWide P w r b0 t v) (ht' : DataW.Trod enc P w base spare held t v d ps) : ∃ cs : List Value, v = .agg cs.toArray ∧ ∃ a, R (fhOf w) cs a ∧ B a := by
 obtain ⟨cs, rfl, _⟩ := okWide_struct ht hv
 obtain ⟨n, hn⟩ := ht'
 exact ⟨cs.toList, by simp, h H enc w base spare held n _ _ hn⟩
theorem Opens.int {k : IntKind} (ht : P.underlying t = some (.int k)) {H : Type} {enc : TypeId × Value → H} {w : World} {r : Reach} {base b0 : Nat} {spare : Nat → Bool} {held : Bool} {v : Value} {d : DataW H} {ps : List MemPlace}
  (hv : Value.okWide P w r b0 t v) (ht' : DataW.Trod enc P w base spare held t v d ps) : ∃ n, v = .int k n ∧ (Lit.int k n).wf = true := by
 obtain ⟨n, rfl, _, _, hw⟩ := open_int ht hv ht'
 exact ⟨n, rfl, hw⟩
theorem trodAll_below {H : Type} {enc : TypeId × Value → H} (hl : laidOutB P = true) {W W' : World} (hb : Below W.heap.size W W') {sp : Nat → Bool} :
  ∀ {ts : List TypeId} {vs : List Value} {ds : List (DataW H)} {ps : List MemPlace}, (ts.all fun t => P.readableRec t && decide (t < P.types.size)) = true → DataW.TrodAll enc P W 0 (fun _ => true) true ts vs ds ps →
   (∀ x ∈ ps, x.block < W.heap.size) → (∀ p ∈ ps, sp p.block = true) → DataW.TrodAll enc P W' 0 sp true ts vs ds ps
 | [], [], [], _, _, h, _, _ => h
 | [], _ :: _, _, _, _, h, _, _ => by cases h
 | [], [], _ :: _, _, _, h, _, _ => by cases h
 | _ :: _, [], _, _, _, h, _, _ => by cases h
 | _ :: _, _ :: _, [], _, _, h, _, _ => by cases h
 | t :: ts, v :: vs, d :: ds, ps, hr, h, hlt, hsp => by
  obtain ⟨p, q, h1, h2, rfl⟩ := h
  simp only [List.all_cons, Bool.and_eq_true, decide_eq_true_eq] at hr
  exact ⟨p, q, Go.WideElems.Trod_stays hl hr.1.1 hr.1.2 h1 (fun x hx => hb.same (hlt x (List.mem_append_left _ hx))) (fun x hx => hsp x (List.mem_append_left _ hx)),
   trodAll_below hl hb hr.2 h2 (fun x hx => hlt x (List.mem_append_right _ hx)) (fun x hx => hsp x (List.mem_append_right _ hx)), rfl⟩
theorem post_of_law {H : Type} {enc : TypeId × Value → H} {f : Func} {s : ChangeSpec} {apart fresh handsOn : Bool} {W W' : World} {args : Array Value} {ds gs : List (DataW H)} {before : List MemPlace} {tb : TypeId}
  (hs : s.vars = []) (hfn : s.fn H (ds ++ gs) = { results := [.lit (.bool true)], args := ds }) (hl : laidOutB P = true) (hr : (f.params.toList.all fun t => P.readableRec t && decide (t < P.types.size)) = true)
  (hres : f.resultTypes = #[tb]) (htb : P.underlying tb = some .bool) (hW : DataW.Whole enc P f.params.toList s.vars apart W args.toList ds gs before) (hb : Below W.heap.size W W') : s.post enc P f apart fresh handsOn false W args (.bool true) W' := by
 have hlt := hW.lt
 have hW' := hW
 obtain ⟨p, q, hA, hV, rfl, _, _⟩ := hW
 rw [hs] at hV
 obtain ⟨rfl, rfl⟩ := trodVars_none hV
 refine ⟨ds, [], p ++ [], [], p, [], hW', ?_, ?_, ?_, ?_, fun h => by cases h⟩
 ·rw [hfn, hres]
  exact trodAll_cons_mk (shut_bool htb _) trodAll_mk0
 ·rw [hfn]
  exact trodAll_below hl hb hr hA (fun x hx => hlt x (by simpa using hx)) (fun x hx => by simpa using hlt x (by simpa using hx))
 ·rw [hfn, hs]; rfl
 ·exact World.keptBut_mono (fun x hx => ⟨hx, .inr (.inl (by simpa using hx))⟩) (hb.frame (· ∈ p ++ []))
theorem Does.atTop {f : FuncId} {args : List Value} {W : World} (h : Does P f args (fhOf W) [] fun v _ _ => v = .bool true) : Calls P f args.toArray W fun e W' => e = .returned (.bool true) ∧ Below W.heap.size W W' :=
 (h W (holds_fhOf W)).mono fun _ _ ⟨_, _, _, he, le, H, hv⟩ => ⟨by rw [he, hv], below_of_holds le H⟩
end
section
variable {P : Program} {t e : TypeId}
end
end Go.Proofs.Ytjpfankibmeaaaa.X
