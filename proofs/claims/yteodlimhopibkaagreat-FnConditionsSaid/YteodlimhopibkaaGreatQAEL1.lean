/-
  What the walks rest on (part 2).
-/
import Derived.Orders
import Derived.Tactics
import Derived.Below
import Derived.Laws.CopyRow
import Derived.Laws.AppendOwn
import Derived.IntWalk
import Derived.Lib.AppendZeros
import Derived.OrdersIn
import Derived.TacticsIn
import Derived.RangeFuncSeq
import Derived.RangeFuncRecord
import Derived.RangeFuncLeaves
import Derived.Scope
import Derived.Laws.Append
import Derived.WalkKit
import Derived.ProofKit
import Derived.OpenShut
import Derived.JoinedCond
import Derived.Carry
import Derived.Deep.Slices
import Derived.Test.YteodlimhopibkaaGreatQAEL0
set_option linter.unusedSimpArgs false
set_option linter.unusedVariables false
namespace Go.Proofs.YteodlimhopibkaaGreat.M
def Forest (ar l : List Int) (n : Nat) : Prop := endGo ar l n = some l.length
theorem endGo_more {ar : List Int} : ∀ {a b : List Int} {n e : Nat}, endGo ar a n = some e → endGo ar (a ++ b) n = some e
 | a, b, 0, e, h => by simp [endGo] at h; subst h; simp [endGo]
 | [], b, n + 1, e, h => by simp [endGo] at h
 | x :: a, b, n + 1, e, h => by
  simp only [endGo, List.cons_append] at h ⊢
  split at h
  ·rename_i hx
   rw [if_pos hx]
   cases hr : endGo ar a (n + (arity ar x).toNat) with
   | none => rw [hr] at h; simp at h
   | some q => rw [hr] at h; rw [endGo_more hr]; exact h
  ·cases h
theorem Forest.append {ar a b : List Int} {n m : Nat} (h : Forest ar a n) (k : Forest ar b m) : Forest ar (a ++ b) (n + m) := by
 unfold Forest at *
 have h1 := endGo_more (b := b) h
 have := endGo_join (m := m) (e2 := b.length) h1 (by rw [List.drop_left]; exact k)
 rw [this, List.length_append]
theorem Forest.cons {ar r : List Int} {x : Int} {n : Nat} (hx : x < ar.length) : Forest ar (x :: r) (n + 1) ↔ Forest ar r (n + (arity ar x).toNat) := by
 unfold Forest
 simp only [endGo, if_pos hx, List.length_cons]
 cases endGo ar r (n + (arity ar x).toNat) <;> simp
theorem Forest.lt {ar r : List Int} {x : Int} {n : Nat} (h : Forest ar (x :: r) n) : ∃ m, n = m + 1 ∧ x < ar.length := by
 unfold Forest at h
 cases n with
 | zero => simp [endGo] at h
 | succ m =>
  refine ⟨m, rfl, ?_⟩
  simp only [endGo] at h
  split at h
  ·assumption
  ·cases h
theorem arity_var {ar : List Int} {x : Int} (h : x < 0) : arity ar x = 0 := by simp [arity]; omega
theorem Forest.fill {ar : List Int} {s : RowL} (hs : ∀ x : Int, x < 0 → Forest ar (lk s x) 1) : ∀ (t : List Int) (n : Nat), Forest ar t n → Forest ar (t.flatMap (lk s)) n
 | [], n, h => h
 | x :: t, n, h => by
  obtain ⟨m, rfl, hx⟩ := h.lt
  have h1 := (Forest.cons hx).1 h
  rw [List.flatMap_cons]
  by_cases h0 : x < 0
  ·rw [arity_var h0] at h1
   rw [Nat.add_comm]
   exact (hs x h0).append (Forest.fill hs t m (by simpa using h1))
  ·rw [lk_sym (by omega)]
   exact (Forest.cons hx).2 (Forest.fill hs t _ h1)
theorem fillGo_flat {s : RowL} : ∀ (t acc u : List Int), fillGo s t acc = some u → u = acc ++ t.flatMap (lk s)
 | [], acc, u, h => by simp [fillGo] at h; simp [h]
 | n :: t, acc, u, h => by
  rw [fillGo] at h
  split at h
  ·cases h
  ·rw [fillGo_flat t _ u h, List.flatMap_cons, List.append_assoc]
theorem fillL_flat {s : RowL} {t u : List Int} (h : fillL s t = some u) : u = t.flatMap (lk s) := by
 have := fillGo_flat t [] u h
 simpa using this
def RowsOk (ar : List Int) (s : RowL) : Prop := ∀ i, s.getD i [] = [] ∨ termOk ar (s.getD i []) = true
theorem lk_forest {ar : List Int} {s : RowL} (h : RowsOk ar s) (hs : sigOk ar = true) (x : Int) (hx : x < 0) : Forest ar (lk s x) 1 := by
 unfold lk
 rw [if_neg (by omega)]
 split
 ·have : Forest ar [x] (0 + 1) := (Forest.cons (by have := sigOk_spec hs; omega)).2 (by rw [arity_var hx]; rfl)
  exact this
 ·rename_i e
  exact (termOk_iff.1 ((h (varIx x)).resolve_left e)).whole
theorem lk_ge {ar : List Int} {s : RowL} (h : RowsOk ar s) {x : Int} (hx : -24 ≤ x) : ∀ y ∈ lk s x, -24 ≤ y := by
 intro y hy
 unfold lk at hy
 split at hy
 ·simp at hy; omega
 ·split at hy
  ·simp at hy; omega
  ·rename_i e; exact (termOk_iff.1 ((h (varIx x)).resolve_left e)).ge y hy
theorem fill_ok {ar : List Int} {s : RowL} {t u : List Int} (h : RowsOk ar s) (ht : termOk ar t = true) (hu : fillL s t = some u) : termOk ar u = true := by
 have hT := termOk_iff.1 ht
 have hl := fillL_len hu
 have hf := Forest.fill (lk_forest h hT.sig) t 1 hT.whole
 rw [← fillL_flat hu] at hf
 refine termOk_iff.2 ⟨hT.sig, by have := hT.pos; omega, hl.1, ?_, hf⟩
 rw [fillL_flat hu]
 intro y hy
 obtain ⟨x, hx, hy⟩ := List.mem_flatMap.1 hy
 exact lk_ge h (hT.ge x hx) y hy
theorem mGo_ok {ar t : List Int} (ht : termOk ar t = true) : ∀ (p : List Int) (i : Nat) (b r : RowL), mGo ar t p i b = some r → RowsOk ar b → RowsOk ar r
 | [], i, b, r, h, hb => by simp [mGo] at h; subst h; exact hb
 | n :: p, i, b, r, h, hb => by
  rw [mGo] at h
  split at h
  ·cases h
  ·rename_i hi
   split at h
   ·split at h
    ·exact mGo_ok ht p _ _ _ h hb
    ·cases h
   ·split at h
    ·refine mGo_ok ht p _ _ _ h (fun k => ?_)
     by_cases e : varIx n = k
     ·subst e
      rcases Nat.lt_or_ge (varIx n) b.length with hl | hl
      ·have : (b.set (varIx n) (sub ar t i)).getD (varIx n) [] = sub ar t i := by simp [List.getD_eq_getElem?_getD, hl]
       rw [this]; exact .inr (sub_ok ht (by omega))
      ·rw [List.set_eq_of_length_le hl]; exact hb _
     ·rw [List.getD_eq_getElem?_getD, List.getElem?_set_ne e, ← List.getD_eq_getElem?_getD]; exact hb k
    ·split at h
     ·exact mGo_ok ht p _ _ _ h hb
     ·cases h
theorem matchB_ok {ar p t : List Int} {b : RowL} (ht : termOk ar t = true) (h : matchB ar p t = some b) : RowsOk ar b := by
 refine mGo_ok ht p 0 _ b h (fun k => .inl ?_)
 rw [List.getD_eq_getElem?_getD, List.getElem?_replicate]
 split <;> rfl
theorem Forest.swap {ar S U B : List Int} (hS : Forest ar S 1) (hU : Forest ar U 1) (hp : S ≠ []) : ∀ (A : List Int) (n : Nat), Forest ar (A ++ S ++ B) n → Forest ar (A ++ U ++ B) n
 | [], n, h => by
  simp only [List.nil_append] at h ⊢
  cases S with
  | nil => exact absurd rfl hp
  | cons x S =>
   obtain ⟨m, rfl, _⟩ := Forest.lt h
   unfold Forest at h
   rw [Nat.add_comm] at h
   obtain ⟨e1, e2, h1, h2, h3⟩ := endGo_split h
   have h4 := endGo_more (b := B) hS
   rw [h4] at h1
   cases h1
   rw [List.drop_left] at h2
   have hB : Forest ar B m := by
    unfold Forest
    rw [h2]
    rw [List.length_append] at h3
    congr 1; omega
   rw [Nat.add_comm]
   exact hU.append hB
 | x :: A, n, h => by
  obtain ⟨m, rfl, hx⟩ := Forest.lt h
  exact (Forest.cons hx).2 (Forest.swap hS hU hp A _ ((Forest.cons hx).1 h))
theorem parts {ar t : List Int} {p : Nat} (ht : termOk ar t = true) (hp : p < t.length) : t = t.take p ++ sub ar t p ++ t.drop (endN ar t p) := by
 have he := endN_spec ht hp
 have : sub ar t p ++ t.drop (endN ar t p) = t.drop p := by
  unfold sub
  have e : t.drop (endN ar t p) = (t.drop p).drop (endN ar t p - p) := by rw [List.drop_drop]; congr 1; omega
  rw [e, List.take_append_drop]
 rw [List.append_assoc, this, List.take_append_drop]
theorem put_ok {ar t u v : List Int} {p : Nat} (ht : termOk ar t = true) (hp : p < t.length) (hu : termOk ar u = true) (h : putL ar t p u = some v) : termOk ar v = true := by
 unfold putL at h
 split at h
 ·cases h
 ·rename_i hl
  cases h
  have hT := termOk_iff.1 ht
  have hU := termOk_iff.1 hu
  refine termOk_iff.2 ⟨hT.sig, by have := hU.pos; simp; omega, by omega, ?_, ?_⟩
  ·intro x hx
   simp only [List.mem_append] at hx
   rcases hx with (hx | hx) | hx
   ·exact hT.ge x (List.mem_of_mem_take hx)
   ·exact hU.ge x hx
   ·exact hT.ge x (List.mem_of_mem_drop hx)
  ·have h1 : Forest ar (t.take p ++ sub ar t p ++ t.drop (endN ar t p)) 1 := by rw [← parts ht hp]; exact hT.whole
   exact Forest.swap (termOk_iff.1 (sub_ok ht hp)).whole hU.whole (sub_ne ht hp) _ _ h1
section
variable {ar : List Int} {rs : Rules} {t u : List Int} {st : Int} {m : Nat}
end
section
variable {ar : List Int} {rs : Rules} {t : List Int} {p k j : Nat}
end
def flatRow (r : List Int) : List Int := r
def flatStep (s : Int × Int × List Int) : List Int := s.1 :: s.2.1 :: s.2.2
abbrev StepL := Int × Int × List Int
def stepAtOk (ar : List Int) (rs : Rules) (t : List Int) (p r : Int) : Bool := rightB ar rs t && decide (0 ≤ p ∧ p < (t.length : Int)) && decide (0 ≤ r ∧ r < (rs.length : Int))
def stepAtL (ar : List Int) (rs : Rules) (t : List Int) (p r : Int) : Option (List Int) := if stepAtOk ar rs t p r = true then stepL ar rs t p.toNat r.toNat else none
def goOk (ar : List Int) (rs : Rules) : List Int → List StepL → Bool
 | _, [] => true
 | t, s :: ss => decide (stepAtL ar rs t s.1 s.2.1 = some s.2.2) && goOk ar rs s.2.2 ss
def endL (f : List Int) (ss : List StepL) : List Int := if ss.length = 0 then f else (ss.getD (ss.length - 1) (0, 0, [])).2.2
def walkOkL (ar : List Int) (rs : Rules) (f : List Int) (ss : List StepL) : Bool := rightB ar rs f && decide (ss.length ≤ 60) && goOk ar rs f ss
section
variable {ar : List Int} {rs : Rules} {t f : List Int} {ss : List StepL}
end
section
variable {α : Type} {f : α → Nat} {l : List α} {k : Nat}
def gTo (f : α → Nat) (l : List α) (k : Nat) : Nat := ((l.take k).map f).sum
theorem gTo_succ (d : α) (h : k < l.length) : gTo f l k + f (l.getD k d) = gTo f l (k + 1) := by
 unfold gTo
 rw [take_succ_getD d h]
 simp
end
def lenS (s : StepL) : Nat := s.2.2.length
theorem flatStep_len (ss : List StepL) : (ss.flatMap flatStep).length ≤ 2 * ss.length + gTo lenS ss ss.length := by
 unfold gTo
 rw [List.take_length, List.length_flatMap]
 induction ss with
 | nil => simp
 | cons s ss ih => simp [flatStep, lenS] at ih ⊢; omega
section
variable {ar : List Int} {rs : Rules} {t u f : List Int} {ss : List StepL} {st : Int} {m k : Nat}
theorem gTo_bound {N : Nat} {l : List StepL} (h : ∀ i, i < l.length → (l.getD i (0, 0, [])).2.2.length ≤ N) : ∀ k, k ≤ l.length → gTo lenS l k ≤ k * N
 | 0, _ => by simp [gTo]
 | k + 1, hk => by
  have h1 := gTo_bound h k (by omega)
  have h2 := h k (by omega)
  rw [← gTo_succ ((0, 0, []) : StepL) (by omega), Nat.succ_mul]
  have : lenS (l.getD k (0, 0, [])) = (l.getD k (0, 0, [])).2.2.length := rfl
  omega
end
end Go.Proofs.YteodlimhopibkaaGreat.M
namespace Go.Proofs.YteodlimhopibkaaGreat.X
open Go
def FR (r : Option Nat) : Fence := { Fence.wide with round := r }
theorem callsIn_FR {r : Option Nat} {n : Nat} {P : Program} {f : FuncId} {args : Array Value} {w : World} {R : Ending → World → Prop} (h : Calls P f args w R) : CallsIn (FR r) n P f args w R := by
 have h1 : CallsIn Fence.wide n P f args w R := callsIn_wide.2 h
 exact h1
structure RepD (n : Nat) (d : List Deferred) (a : Act) (ρ : Env) : Prop where
 size : a.tmps.size = n
 defers : a.defers = d
 get : ∀ i, a.tmps.getD i undef = ρ i
theorem RepD.eval {n : Nat} {d : List Deferred} {a : Act} {ρ : Env} (h : RepD n d a ρ) : a.eval = evO ρ := by
 funext x
 cases x <;> first | rfl | exact h.get _
theorem RepD.of {n : Nat} {a : Act} {ρ : Env} (h : RepD n [] a ρ) : Rep n a ρ := ⟨h.size, h.defers, h.get⟩
theorem RepD.put {n : Nat} {ds : List Deferred} {a : Act} {ρ : Env} (h : RepD n ds a ρ) {d : Option Tmp} (hd : dOk n d = true) (v : Value) : RepD n ds (a.put d v) (putE ρ d v) := by
 have h' : Rep n { a with defers := [] } ρ := ⟨h.size, rfl, h.get⟩
 have := h'.put hd v
 refine ⟨?_, ?_, ?_⟩
 ·have := this.size; cases d <;> exact this
 ·cases d <;> exact h.defers
 ·have := this.get; cases d <;> exact this
section
variable {P : Program} {n : Nat} {r0 : Option Nat} {d0 : List Deferred} {ops : Array Oper} {l : List Oper} {Q : QX} {ρ : Env} {F : FH} {L : List HP}
theorem wpIn_of_XOp {o : Oper} {K : Post} {a : Act} {w : World} {Q : Exit → Act → World → Prop} {N : Act → World → Prop}
  (h : XOp P o ρ F L K) (r : RepD n d0 a ρ) (H : Holds F L w) (hd : dOk n o.dst = true) (hn : ∀ c, o.op ≠ .defer c)
  (hN : ∀ v F' L' w', F ≤ F' → Holds F' L' w' → K v F' L' → RepD n d0 (a.put o.dst v) (putE ρ o.dst v) → N (a.put o.dst v) w') : o.wpIn (FR r0) 9 P a w N Q := by
 refine ⟨fun _ _ => trivial, ?_⟩
 rw [Oper.semAt_eq _ _ _ hn, r.eval]
 rcases h w H with ⟨v, w', F', L', h1, h2, h3, h4⟩ | ⟨w', F', L', h1, h2, h3, h4⟩ | ⟨f, args, w', h1, h2⟩
 ·rw [h1]; exact hN v F' L' w' h2 h3 h4 (r.put hd v)
 ·rw [h1]; exact hN undef F' L' w' h2 h3 h4 (r.put hd undef)
 ·rw [h1]
  refine ⟨fun _ => by decide, callsIn_FR (h2.mono fun e w'' ⟨v, F', L', he, hle, hH, hk⟩ => ?_)⟩
  subst he
  exact hN v F' L' w'' hle hH hk (r.put hd v)
def Yld (P : Program) (l : Nat) (args : List Value) (F : FH) (L : List HP) (K : Post) : Prop :=
 ∀ w, Holds F L w → YieldAt Fence.wide 9 P l args.toArray w fun e w' => ∃ v F' L', e = .returned v ∧ F ≤ F' ∧ Holds F' L' w' ∧ K v F' L'
theorem Yld.mono {k : Nat} {args : List Value} {K K' : Post} (h : Yld P k args F L K) (hk : ∀ v F' L', F ≤ F' → K v F' L' → K' v F' L') : Yld P k args F L K' := by
 intro w H
 obtain ⟨fn, tmps, assign, body, hy, hr⟩ := h w H
 exact ⟨fn, tmps, assign, body, hy, hr.mono fun e w' ⟨v, F', L', a, b, c, d⟩ => ⟨v, F', L', a, b, c, hk _ _ _ b d⟩⟩
theorem Yld.weaken {k : Nat} {args : List Value} {K : Post} {L' : List HP} (s : Sub L L') (h : Yld P k args F L' K) : Yld P k args F L K := fun w H => h w (s.holds H)
end
section
variable {P : Program} {n : Nat} {r0 : Option Nat} {d0 : List Deferred} {Q : QX} {ρ : Env} {F : FH} {L : List HP}
end
section
variable {P : Program} {fn : Func} {Q : Post} {ρ : Env} {F F0 : FH} {L : List HP}
end
theorem FzC.rdN {F : FH} {L : List HP} {b o : Nat} {cs vs : List Value} (h : FzC F b cs) (hv : (cs.drop o).take vs.length = vs) : ∀ i u, vs[i]? = some u → Rd F L ((⟨b, o, none⟩ : Addr).add i) u := by
 intro i u hu
 rw [add_lit]
 refine Rd.fz (h (o + i) u ?_)
 rw [← hv, List.getElem?_take] at hu
 split at hu
 ·rwa [List.getElem?_drop] at hu
 ·cases hu
theorem Rd.all {F : FH} {L : List HP} {v : Value} {k : Nat} {es : List Value} (h : ∀ j u, es[j]? = some u → Rd F L (elemA v (k + j)) u) : ∀ i u, es[i]? = some u → Rd F L ((elemA v k).add i) u := by
 intro i u hu
 rw [elemA_add]
 exact h i u hu
abbrev FoundT := List Int × Int × StepT × Int
def FoundF (F : FH) (es : List Value) (x : FoundT) : Prop := ∃ a0 a4, es = [a0, .int .i64 x.2.1, .int .i64 x.2.2.1.1, .int .i64 x.2.2.1.2.1, a4, .int .i64 x.2.2.2] ∧ IntsF F a0 x.1 ∧ IntsF F a4 x.2.2.1.2.2
theorem FoundF.mono {F F' : FH} (le : F ≤ F') (es : List Value) (x : FoundT) (h : FoundF F es x) : FoundF F' es x := by
 obtain ⟨a0, a4, e, h0, h4⟩ := h
 exact ⟨a0, a4, e, h0.mono le, h4.mono le⟩
def FoundsF (F : FH) (v : Value) (xs : List FoundT) (cs : List Value) : Prop := ArrF F 6 v xs.length cs ∧ CO 6 FoundF ([], 0, (0, 0, []), 0) F cs xs
theorem FoundsF.mono {F F' : FH} {v : Value} {xs : List FoundT} {cs : List Value} (h : FoundsF F v xs cs) (le : F ≤ F') : FoundsF F' v xs cs := ⟨h.1.mono le, CO.mono (FoundF.mono le) h.2⟩
theorem FoundsF.slv {F : FH} {L : List HP} {v : Value} {xs : List FoundT} {cs : List Value} (h : FoundsF F v xs cs) : SlV F L v xs.length := SlV.arr h.1
theorem FoundsF.isSl {F : FH} {v : Value} {xs : List FoundT} {cs : List Value} (h : FoundsF F v xs cs) : IsSl v := h.1.isSl
theorem FoundsF.rd {F : FH} {v : Value} {xs : List FoundT} {cs : List Value} (h : FoundsF F v xs cs) {i : Nat} (hi : i < xs.length) : ∃ a0 a4, IntsF F a0 (xs.getD i ([], 0, (0, 0, []), 0)).1 ∧ IntsF F a4 (xs.getD i ([], 0, (0, 0, []), 0)).2.2.1.2.2 ∧ (∀ L j u, ([a0, .int .i64 (xs.getD i ([], 0, (0, 0, []), 0)).2.1, .int .i64 (xs.getD i ([], 0, (0, 0, []), 0)).2.2.1.1, .int .i64 (xs.getD i ([], 0, (0, 0, []), 0)).2.2.1.2.1, a4, .int .i64 (xs.getD i ([], 0, (0, 0, []), 0)).2.2.2] : List Value)[j]? = some u → Rd F L (elemA v (i * 6 + j)) u) ∧ (∀ j u, ([a0, .int .i64 (xs.getD i ([], 0, (0, 0, []), 0)).2.1, .int .i64 (xs.getD i ([], 0, (0, 0, []), 0)).2.2.1.1, .int .i64 (xs.getD i ([], 0, (0, 0, []), 0)).2.2.1.2.1, a4, .int .i64 (xs.getD i ([], 0, (0, 0, []), 0)).2.2.2] : List Value)[j]? = some u → cs[i * 6 + j]? = some u) := by
 obtain ⟨es, h1, h2, a0, a4, rfl, h0, h4⟩ := h.2.2 i hi
 refine ⟨a0, a4, h0, h4, fun L j u hu => ?_, fun j u hu => ?_⟩
 ·have := Rd.arrN (L := L) (k := i * 6) (vs := [a0, .int .i64 (xs.getD i ([], 0, (0, 0, []), 0)).2.1, .int .i64 (xs.getD i ([], 0, (0, 0, []), 0)).2.2.1.1, .int .i64 (xs.getD i ([], 0, (0, 0, []), 0)).2.2.1.2.1, a4, .int .i64 (xs.getD i ([], 0, (0, 0, []), 0)).2.2.2]) h.1 (by rw [h1]; exact h2) j u hu
  rwa [elemA_add] at this
 ·rw [← h2, List.getElem?_take] at hu
  split at hu
  ·rwa [List.getElem?_drop] at hu
  ·cases hu
def FoundsC (F : FH) (cs : List Value) (xs : List FoundT) : Prop := CO 6 FoundF ([], 0, (0, 0, []), 0) F cs xs
theorem FoundsC.mono {F F' : FH} {cs : List Value} {xs : List FoundT} (h : FoundsC F cs xs) (le : F ≤ F') : FoundsC F' cs xs := CO.mono (FoundF.mono le) h
theorem FoundsC.snoc {F : FH} {cs : List Value} {xs : List FoundT} {a0 a4 : Value} {y0 : List Int} {y1 : Int} {y2 : Int} {y3 : Int} {y4 : List Int} {y5 : Int} (h : FoundsC F cs xs) (h0 : IntsF F a0 y0) (h4 : IntsF F a4 y4) : FoundsC F (cs ++ [a0, .int .i64 y1, .int .i64 y2, .int .i64 y3, a4, .int .i64 y5]) (xs ++ [(y0, y1, (y2, y3, y4), y5)]) := CO.snoc h rfl ⟨a0, a4, rfl, h0, h4⟩
theorem FoundsC.get {F : FH} {cs : List Value} {xs : List FoundT} (h : FoundsC F cs xs) {i : Nat} (hi : i < xs.length) : ∃ a0 a4, IntsF F a0 (xs.getD i ([], 0, (0, 0, []), 0)).1 ∧ IntsF F a4 (xs.getD i ([], 0, (0, 0, []), 0)).2.2.1.2.2 ∧ (∀ j u, ([a0, .int .i64 (xs.getD i ([], 0, (0, 0, []), 0)).2.1, .int .i64 (xs.getD i ([], 0, (0, 0, []), 0)).2.2.1.1, .int .i64 (xs.getD i ([], 0, (0, 0, []), 0)).2.2.1.2.1, a4, .int .i64 (xs.getD i ([], 0, (0, 0, []), 0)).2.2.2] : List Value)[j]? = some u → cs[i * 6 + j]? = some u) := by
 obtain ⟨es, hl, ⟨a0, a4, rfl, h0, h4⟩, hr⟩ := CO.get h hi
 exact ⟨a0, a4, h0, h4, hr⟩
theorem FoundsC.fz {F : FH} {cs : List Value} {xs : List FoundT} {E : TypeId} {v : Value} {n : Nat} (h : FoundsC F cs xs) (hn : n = xs.length) (hf : Fz (slH E 6 v n cs) F) : FoundsF F v xs cs := by
 subst hn
 exact ⟨hf.sl, h⟩
abbrev MoveT := Int × Int × Bool × List Int
def MoveF (F : FH) (es : List Value) (x : MoveT) : Prop := ∃ a3, es = [.int .i64 x.1, .int .i64 x.2.1, .bool x.2.2.1, a3] ∧ IntsF F a3 x.2.2.2
theorem MoveF.mono {F F' : FH} (le : F ≤ F') (es : List Value) (x : MoveT) (h : MoveF F es x) : MoveF F' es x := by
 obtain ⟨a3, e, h3⟩ := h
 exact ⟨a3, e, h3.mono le⟩
def MovesF : FH → Value → List MoveT → Prop := SlOf 4 MoveF (0, 0, false, [])
theorem MovesF.mono {F F' : FH} {v : Value} {xs : List MoveT} (h : MovesF F v xs) (le : F ≤ F') : MovesF F' v xs := SlOf.mono (MoveF.mono le) h le
theorem MovesF.slv {F : FH} {L : List HP} {v : Value} {xs : List MoveT} (h : MovesF F v xs) : SlV F L v xs.length := SlOf.slv h
theorem MovesF.isSl {F : FH} {v : Value} {xs : List MoveT} (h : MovesF F v xs) : IsSl v := by obtain ⟨_, h, _⟩ := h; exact h.isSl
theorem MovesF.rd {F : FH} {v : Value} {xs : List MoveT} (h : MovesF F v xs) {i : Nat} (hi : i < xs.length) : ∃ a3, IntsF F a3 (xs.getD i (0, 0, false, [])).2.2.2 ∧ (∀ L j u, ([.int .i64 (xs.getD i (0, 0, false, [])).1, .int .i64 (xs.getD i (0, 0, false, [])).2.1, .bool (xs.getD i (0, 0, false, [])).2.2.1, a3] : List Value)[j]? = some u → Rd F L (elemA v (i * 4 + j)) u) ∧ True := by
 obtain ⟨es, hl, ⟨a3, rfl, h3⟩, hr⟩ := SlOf.get h hi
 exact ⟨a3, h3, hr, trivial⟩
def MovesC (F : FH) (cs : List Value) (xs : List MoveT) : Prop := CO 4 MoveF (0, 0, false, []) F cs xs
theorem MovesC.mono {F F' : FH} {cs : List Value} {xs : List MoveT} (h : MovesC F cs xs) (le : F ≤ F') : MovesC F' cs xs := CO.mono (MoveF.mono le) h
theorem MovesC.snoc {F : FH} {cs : List Value} {xs : List MoveT} {a3 : Value} {y0 : Int} {y1 : Int} {y2 : Bool} {y3 : List Int} (h : MovesC F cs xs) (h3 : IntsF F a3 y3) : MovesC F (cs ++ [.int .i64 y0, .int .i64 y1, .bool y2, a3]) (xs ++ [(y0, y1, y2, y3)]) := CO.snoc h rfl ⟨a3, rfl, h3⟩
theorem MovesC.get {F : FH} {cs : List Value} {xs : List MoveT} (h : MovesC F cs xs) {i : Nat} (hi : i < xs.length) : ∃ a3, IntsF F a3 (xs.getD i (0, 0, false, [])).2.2.2 ∧ (∀ j u, ([.int .i64 (xs.getD i (0, 0, false, [])).1, .int .i64 (xs.getD i (0, 0, false, [])).2.1, .bool (xs.getD i (0, 0, false, [])).2.2.1, a3] : List Value)[j]? = some u → cs[i * 4 + j]? = some u) := by
 obtain ⟨es, hl, ⟨a3, rfl, h3⟩, hr⟩ := CO.get h hi
 exact ⟨a3, h3, hr⟩
abbrev PolyT := Int × List Int
def PolyF (F : FH) (es : List Value) (x : PolyT) : Prop := ∃ a1, es = [.int .i64 x.1, a1] ∧ IntsF F a1 x.2
theorem PolyF.mono {F F' : FH} (le : F ≤ F') (es : List Value) (x : PolyT) (h : PolyF F es x) : PolyF F' es x := by
 obtain ⟨a1, e, h1⟩ := h
 exact ⟨a1, e, h1.mono le⟩
def PolysF : FH → Value → List PolyT → Prop := SlOf 2 PolyF (0, [])
theorem PolysF.mono {F F' : FH} {v : Value} {xs : List PolyT} (h : PolysF F v xs) (le : F ≤ F') : PolysF F' v xs := SlOf.mono (PolyF.mono le) h le
theorem PolysF.slv {F : FH} {L : List HP} {v : Value} {xs : List PolyT} (h : PolysF F v xs) : SlV F L v xs.length := SlOf.slv h
theorem PolysF.isSl {F : FH} {v : Value} {xs : List PolyT} (h : PolysF F v xs) : IsSl v := by obtain ⟨_, h, _⟩ := h; exact h.isSl
theorem PolysF.rd {F : FH} {v : Value} {xs : List PolyT} (h : PolysF F v xs) {i : Nat} (hi : i < xs.length) : ∃ a1, IntsF F a1 (xs.getD i (0, [])).2 ∧ (∀ L j u, ([.int .i64 (xs.getD i (0, [])).1, a1] : List Value)[j]? = some u → Rd F L (elemA v (i * 2 + j)) u) ∧ True := by
 obtain ⟨es, hl, ⟨a1, rfl, h1⟩, hr⟩ := SlOf.get h hi
 exact ⟨a1, h1, hr, trivial⟩
def PolysC (F : FH) (cs : List Value) (xs : List PolyT) : Prop := CO 2 PolyF (0, []) F cs xs
theorem PolysC.mono {F F' : FH} {cs : List Value} {xs : List PolyT} (h : PolysC F cs xs) (le : F ≤ F') : PolysC F' cs xs := CO.mono (PolyF.mono le) h
theorem PolysC.snoc {F : FH} {cs : List Value} {xs : List PolyT} {a1 : Value} {y0 : Int} {y1 : List Int} (h : PolysC F cs xs) (h1 : IntsF F a1 y1) : PolysC F (cs ++ [.int .i64 y0, a1]) (xs ++ [(y0, y1)]) := CO.snoc h rfl ⟨a1, rfl, h1⟩
theorem PolysC.get {F : FH} {cs : List Value} {xs : List PolyT} (h : PolysC F cs xs) {i : Nat} (hi : i < xs.length) : ∃ a1, IntsF F a1 (xs.getD i (0, [])).2 ∧ (∀ j u, ([.int .i64 (xs.getD i (0, [])).1, a1] : List Value)[j]? = some u → cs[i * 2 + j]? = some u) := by
 obtain ⟨es, hl, ⟨a1, rfl, h1⟩, hr⟩ := CO.get h hi
 exact ⟨a1, h1, hr⟩
abbrev LineT := Int × List (List Int) × List Int
def LineF (F : FH) (es : List Value) (x : LineT) : Prop := ∃ a1 a2, es = [.int .i64 x.1, a1, a2] ∧ RowsF F a1 x.2.1 ∧ IntsF F a2 x.2.2
theorem LineF.mono {F F' : FH} (le : F ≤ F') (es : List Value) (x : LineT) (h : LineF F es x) : LineF F' es x := by
 obtain ⟨a1, a2, e, h1, h2⟩ := h
 exact ⟨a1, a2, e, h1.mono le, h2.mono le⟩
def LinesF : FH → Value → List LineT → Prop := SlOf 3 LineF (0, [], [])
theorem LinesF.mono {F F' : FH} {v : Value} {xs : List LineT} (h : LinesF F v xs) (le : F ≤ F') : LinesF F' v xs := SlOf.mono (LineF.mono le) h le
theorem LinesF.slv {F : FH} {L : List HP} {v : Value} {xs : List LineT} (h : LinesF F v xs) : SlV F L v xs.length := SlOf.slv h
theorem LinesF.isSl {F : FH} {v : Value} {xs : List LineT} (h : LinesF F v xs) : IsSl v := by obtain ⟨_, h, _⟩ := h; exact h.isSl
theorem LinesF.rd {F : FH} {v : Value} {xs : List LineT} (h : LinesF F v xs) {i : Nat} (hi : i < xs.length) : ∃ a1 a2, RowsF F a1 (xs.getD i (0, [], [])).2.1 ∧ IntsF F a2 (xs.getD i (0, [], [])).2.2 ∧ (∀ L j u, ([.int .i64 (xs.getD i (0, [], [])).1, a1, a2] : List Value)[j]? = some u → Rd F L (elemA v (i * 3 + j)) u) ∧ True := by
 obtain ⟨es, hl, ⟨a1, a2, rfl, h1, h2⟩, hr⟩ := SlOf.get h hi
 exact ⟨a1, a2, h1, h2, hr, trivial⟩
def LinesC (F : FH) (cs : List Value) (xs : List LineT) : Prop := CO 3 LineF (0, [], []) F cs xs
theorem LinesC.mono {F F' : FH} {cs : List Value} {xs : List LineT} (h : LinesC F cs xs) (le : F ≤ F') : LinesC F' cs xs := CO.mono (LineF.mono le) h
theorem LinesC.snoc {F : FH} {cs : List Value} {xs : List LineT} {a1 a2 : Value} {y0 : Int} {y1 : List (List Int)} {y2 : List Int} (h : LinesC F cs xs) (h1 : RowsF F a1 y1) (h2 : IntsF F a2 y2) : LinesC F (cs ++ [.int .i64 y0, a1, a2]) (xs ++ [(y0, y1, y2)]) := CO.snoc h rfl ⟨a1, a2, rfl, h1, h2⟩
theorem LinesC.get {F : FH} {cs : List Value} {xs : List LineT} (h : LinesC F cs xs) {i : Nat} (hi : i < xs.length) : ∃ a1 a2, RowsF F a1 (xs.getD i (0, [], [])).2.1 ∧ IntsF F a2 (xs.getD i (0, [], [])).2.2 ∧ (∀ j u, ([.int .i64 (xs.getD i (0, [], [])).1, a1, a2] : List Value)[j]? = some u → cs[i * 3 + j]? = some u) := by
 obtain ⟨es, hl, ⟨a1, a2, rfl, h1, h2⟩, hr⟩ := CO.get h hi
 exact ⟨a1, a2, h1, h2, hr⟩
abbrev linesH (E : TypeId) (F : FH) (v : Value) (xs : List LineT) : HP := coH 3 LineF (0, [], []) E F v xs
abbrev CRuleT := List Int × List Int × List (List Int × List Int)
def CRuleF (F : FH) (es : List Value) (x : CRuleT) : Prop := ∃ a0 a1 a2, es = [a0, a1, a2] ∧ IntsF F a0 x.1 ∧ IntsF F a1 x.2.1 ∧ PairsF F a2 x.2.2
theorem CRuleF.mono {F F' : FH} (le : F ≤ F') (es : List Value) (x : CRuleT) (h : CRuleF F es x) : CRuleF F' es x := by
 obtain ⟨a0, a1, a2, e, h0, h1, h2⟩ := h
 exact ⟨a0, a1, a2, e, h0.mono le, h1.mono le, h2.mono le⟩
def CRulesF : FH → Value → List CRuleT → Prop := SlOf 3 CRuleF ([], [], [])
theorem CRulesF.mono {F F' : FH} {v : Value} {xs : List CRuleT} (h : CRulesF F v xs) (le : F ≤ F') : CRulesF F' v xs := SlOf.mono (CRuleF.mono le) h le
theorem CRulesF.slv {F : FH} {L : List HP} {v : Value} {xs : List CRuleT} (h : CRulesF F v xs) : SlV F L v xs.length := SlOf.slv h
theorem CRulesF.isSl {F : FH} {v : Value} {xs : List CRuleT} (h : CRulesF F v xs) : IsSl v := by obtain ⟨_, h, _⟩ := h; exact h.isSl
theorem CRulesF.rd {F : FH} {v : Value} {xs : List CRuleT} (h : CRulesF F v xs) {i : Nat} (hi : i < xs.length) : ∃ a0 a1 a2, IntsF F a0 (xs.getD i ([], [], [])).1 ∧ IntsF F a1 (xs.getD i ([], [], [])).2.1 ∧ PairsF F a2 (xs.getD i ([], [], [])).2.2 ∧ (∀ L j u, ([a0, a1, a2] : List Value)[j]? = some u → Rd F L (elemA v (i * 3 + j)) u) ∧ True := by
 obtain ⟨es, hl, ⟨a0, a1, a2, rfl, h0, h1, h2⟩, hr⟩ := SlOf.get h hi
 exact ⟨a0, a1, a2, h0, h1, h2, hr, trivial⟩
def CRulesC (F : FH) (cs : List Value) (xs : List CRuleT) : Prop := CO 3 CRuleF ([], [], []) F cs xs
theorem CRulesC.mono {F F' : FH} {cs : List Value} {xs : List CRuleT} (h : CRulesC F cs xs) (le : F ≤ F') : CRulesC F' cs xs := CO.mono (CRuleF.mono le) h
theorem CRulesC.snoc {F : FH} {cs : List Value} {xs : List CRuleT} {a0 a1 a2 : Value} {y0 : List Int} {y1 : List Int} {y2 : List (List Int × List Int)} (h : CRulesC F cs xs) (h0 : IntsF F a0 y0) (h1 : IntsF F a1 y1) (h2 : PairsF F a2 y2) : CRulesC F (cs ++ [a0, a1, a2]) (xs ++ [(y0, y1, y2)]) := CO.snoc h rfl ⟨a0, a1, a2, rfl, h0, h1, h2⟩
theorem CRulesC.get {F : FH} {cs : List Value} {xs : List CRuleT} (h : CRulesC F cs xs) {i : Nat} (hi : i < xs.length) : ∃ a0 a1 a2, IntsF F a0 (xs.getD i ([], [], [])).1 ∧ IntsF F a1 (xs.getD i ([], [], [])).2.1 ∧ PairsF F a2 (xs.getD i ([], [], [])).2.2 ∧ (∀ j u, ([a0, a1, a2] : List Value)[j]? = some u → cs[i * 3 + j]? = some u) := by
 obtain ⟨es, hl, ⟨a0, a1, a2, rfl, h0, h1, h2⟩, hr⟩ := CO.get h hi
 exact ⟨a0, a1, a2, h0, h1, h2, hr⟩
abbrev crulesH (E : TypeId) (F : FH) (v : Value) (xs : List CRuleT) : HP := coH 3 CRuleF ([], [], []) E F v xs
def XStepsF (F : FH) (v : Value) (xs : List StepT) (cs : List Value) : Prop := ArrF F 3 v xs.length cs ∧ StepsC F cs xs
theorem XStepsF.mono {F F' : FH} {v : Value} {xs : List StepT} {cs : List Value} (h : XStepsF F v xs cs) (le : F ≤ F') : XStepsF F' v xs cs := ⟨h.1.mono le, h.2.mono le⟩
theorem XStepsF.slv {F : FH} {L : List HP} {v : Value} {xs : List StepT} {cs : List Value} (h : XStepsF F v xs cs) : SlV F L v xs.length := SlV.arr h.1
theorem XStepsF.isSl {F : FH} {v : Value} {xs : List StepT} {cs : List Value} (h : XStepsF F v xs cs) : IsSl v := h.1.isSl
theorem XStepsF.rd {F : FH} {v : Value} {xs : List StepT} {cs : List Value} (h : XStepsF F v xs cs) {i : Nat} (hi : i < xs.length) : ∃ c, IntsF F c (xs.getD i (0, 0, [])).2.2 ∧ (∀ L, Rd F L (elemA v (i * 3)) (.int .i64 (xs.getD i (0, 0, [])).1)) ∧ (∀ L, Rd F L (elemA v (i * 3 + 1)) (.int .i64 (xs.getD i (0, 0, [])).2.1)) ∧ (∀ L, Rd F L (elemA v (i * 3 + 2)) c) ∧ cs[i * 3 + 2]? = some c := by
 obtain ⟨es, h1, h2, c, rfl, hc⟩ := h.2.2 i hi
 have hq : ∀ j u, ([.int .i64 (xs.getD i (0, 0, [])).1, .int .i64 (xs.getD i (0, 0, [])).2.1, c] : List Value)[j]? = some u → cs[i * 3 + j]? = some u := by
  intro j u hu
  rw [← h2, List.getElem?_take] at hu
  split at hu
  ·rwa [List.getElem?_drop] at hu
  ·cases hu
 have hr : ∀ L j u, ([.int .i64 (xs.getD i (0, 0, [])).1, .int .i64 (xs.getD i (0, 0, [])).2.1, c] : List Value)[j]? = some u → Rd F L (elemA v (i * 3 + j)) u := by
  intro L j u hu
  have := Rd.arrN (L := L) (k := i * 3) (vs := [.int .i64 (xs.getD i (0, 0, [])).1, .int .i64 (xs.getD i (0, 0, [])).2.1, c]) h.1 (by rw [h1]; exact h2) j u hu
  rwa [elemA_add] at this
 exact ⟨c, hc, fun L => by simpa using hr L 0 _ rfl, fun L => hr L 1 _ rfl, fun L => hr L 2 _ rfl, hq 2 _ rfl⟩
section
variable {F F' : FH} {A B M : List HP} {h : HP}
theorem Fresh.none (k : Fresh F F' (star (A ++ B))) : Fresh F F' (star A) := by
 obtain ⟨m, hm, nd, hp⟩ := k
 obtain ⟨a, b, ha, hb, rfl⟩ := star_append.1 hm
 refine ⟨a, ha, ?_, fun p h' => hp p (List.mem_append_left _ h')⟩
 rw [List.map_append] at nd
 exact (List.nodup_append.1 nd).1
end
def FrStepsF (F0 F : FH) (e : TypeId) (v : Value) (xs : List StepT) : Prop := ∃ acs Ls, XStepsF F v xs acs ∧ DeepL 3 (StepO e) acs xs Ls ∧ Fresh F0 F (star Ls)
theorem FrStepsF.mono {F0 F F' : FH} {e : TypeId} {v : Value} {xs : List StepT} (h : FrStepsF F0 F e v xs) (le : F ≤ F') : FrStepsF F0 F' e v xs := by
 obtain ⟨acs, Ls, h1, h2, h3⟩ := h
 exact ⟨acs, Ls, h1.mono le, h2, h3.mono le⟩
theorem FrStepsF.base {F0 F F1 : FH} {e : TypeId} {v : Value} {xs : List StepT} (h : FrStepsF F1 F e v xs) (le : F0 ≤ F1) : FrStepsF F0 F e v xs := by
 obtain ⟨acs, Ls, h1, h2, h3⟩ := h
 exact ⟨acs, Ls, h1, h2, h3.base le⟩
theorem FrStepsF.isSl {F0 F : FH} {e : TypeId} {v : Value} {xs : List StepT} (h : FrStepsF F0 F e v xs) : IsSl v := by
 obtain ⟨acs, Ls, h1, _, _⟩ := h
 exact h1.isSl
theorem yielded_undef {n : Nat} {a : Act} {ρ : Env} (r : Rep n a ρ) {ops : Array Oper} {g : Nat} {t : Tmp} (ht : (ops[g]?).bind (·.dst) = some t) (hv : ρ t = undef) : yielded ops a.tmps g = none := by
 unfold yielded
 rw [ht]
 have := r.get t
 rw [hv, Array.getD_eq_getD_getElem?] at this
 cases hx : a.tmps[t]? with
 | none => simp [hx]
 | some x => rw [hx] at this; simp at this; subst this; simp [hx, undef]
theorem XL.noU {P : Program} {n : Nat} {ops : Array Oper} {l : List Oper} {Q : QX} {ρ : Env} {F : FH} {L : List HP}
  {d : Option Tmp} {op : Op} {ty : TypeId} {pos : String} {af : Array Edge} {g : Nat} {b : Bool} {t : Tmp} (ht : (ops[g]?).bind (·.dst) = some t) (hv : ρ t = undef)
  (h : XL P n ops l Q (putE ρ d undef) F L) : XL P n ops (⟨d, op, ty, pos, af, some (g, b)⟩ :: l) Q ρ F L := by
 intro ok a w r H
 simp only [opsOk, List.all_cons, Bool.and_eq_true] at ok
 unfold wpList
 rw [if_neg (by simp [Region.wanted, yielded_undef r ht hv])]
 exact h ok.2 _ _ (r.put ok.1 undef) H
def FrIntsF (F0 F : FH) (e : TypeId) (v : Value) (xs : List Int) : Prop := Fresh F0 F (intsH e v xs)
theorem FrIntsF.mono {F0 F F' : FH} {e : TypeId} {v : Value} {xs : List Int} (h : FrIntsF F0 F e v xs) (le : F ≤ F') : FrIntsF F0 F' e v xs := Fresh.mono h le
theorem FrIntsF.base {F0 F F1 : FH} {e : TypeId} {v : Value} {xs : List Int} (h : FrIntsF F1 F e v xs) (le : F0 ≤ F1) : FrIntsF F0 F e v xs := Fresh.base h le
def WJ (F0 : FH) (e ES T : TypeId) (bw : Nat) (fv : Value) (sg : List StepT) (tl : List HP) (k : Nat) (Fy : FH) (Ly : List HP) : Prop :=
 ∃ (sv : Value) (ss : List StepT) (cs : List Value) (Ls : List HP) (m : Nat), IsSl sv ∧ StepsC Fy cs ss ∧ m = ss.length ∧ DeepL 3 (StepO e) cs ss Ls ∧ Fresh F0 Fy (star Ls) ∧ ss = (sg.drop k).reverse ∧ Ly = cellsH bw [fv, sv] T :: slH ES 3 sv m cs :: tl
theorem WJ.start {F0 F : FH} {e ES T : TypeId} {bw : Nat} {fv : Value} {sg : List StepT} {tl : List HP} {b : Option Addr} : WJ F0 e ES T bw fv sg tl sg.length F (cellsH bw [fv, .slice b 0 0] T :: slH ES 3 (.slice b 0 0) 0 [] :: tl) :=
 ⟨_, [], [], [], 0, ⟨_, _, _, rfl⟩, CO.nil, rfl, .nil, .nilL, by simp, rfl⟩
section
variable {F F' G F1 F2 : FH} {D D' : HP} {L M : List HP} {P : Program} {o : Oper} {ρ : Env} {K : Post} {e E : TypeId}
theorem Fresh.perm {A B : List HP} (h : Fresh F F' (star A)) (p : A.Perm B) : Fresh F F' (star B) := by
 obtain ⟨m, hm, nd, hp⟩ := h
 obtain ⟨l, hl, pl⟩ := star_perm p m hm
 exact ⟨l, hl, ((pl.map Prod.fst).nodup_iff).2 nd, fun q hq => hp q (pl.mem_iff.1 hq)⟩
theorem Fresh.left {A B : List HP} (h : Fresh F F' (star (A ++ B))) : Fresh F F' (star A) := h.none
theorem Fresh.right {A B : List HP} (h : Fresh F F' (star (A ++ B))) : Fresh F F' (star B) := (h.perm List.perm_append_comm).none
theorem StepsC.get {F : FH} {cs : List Value} {xs : List StepT} (h : StepsC F cs xs) {i : Nat} (hi : i < xs.length) :
  ∃ a, IntsF F a (xs.getD i (0, 0, [])).2.2 ∧ cs[i * 3]? = some (.int .i64 (xs.getD i (0, 0, [])).1) ∧ cs[i * 3 + 1]? = some (.int .i64 (xs.getD i (0, 0, [])).2.1) ∧ cs[i * 3 + 2]? = some a := by
 obtain ⟨es, _, ⟨a, rfl, ha⟩, hg⟩ := CO.get h hi
 exact ⟨a, ha, by simpa using hg 0 _ rfl, hg 1 _ rfl, hg 2 _ rfl⟩
def FreshsF (F0 F : FH) (D : HP) : Prop := Fresh F0 F D
theorem FreshsF.mono {F0 F F' : FH} {D : HP} (h : FreshsF F0 F D) (le : F ≤ F') : FreshsF F0 F' D := Fresh.mono h le
theorem slH.isSl {s n : Nat} {v : Value} {cs : List Value} {l : OH} (h : slH E s v n cs l) : IsSl v := by
 rcases h.2 with ⟨b, rfl, _⟩ | ⟨b, c, sp, rfl, _⟩
 ·exact ⟨_, _, _, rfl⟩
 ·exact ⟨_, _, _, rfl⟩
theorem Holds.openD {α : Type} {s : Nat} {R : List Value → α → List HP → Prop} {v : Value} {xs : List α} {A B : List HP} {w : World} (H : Holds F (A ++ deepH s R E v xs :: B) w) :
  ∃ cs Ls F2, F ≤ F2 ∧ IsSl v ∧ DeepL s R cs xs Ls ∧ Fresh F F2 (star Ls) ∧ Holds F2 (A ++ slH E s v xs.length cs :: B) w := by
 obtain ⟨h1, h2, h3, h4, l, hl, nd, hp⟩ := H
 obtain ⟨a, m, c, ha, ⟨cs, Ls, hd, x, y, hx, hy, rfl⟩, hc, rfl⟩ := star_mid.1 hl
 have H2 : Holds F ((A ++ [slH E s v xs.length cs]) ++ star Ls :: B) w := ⟨h1, h2, h3, h4, (a ++ x) ++ (y ++ c), star_append.2 ⟨a ++ x, y ++ c, star_append.2 ⟨a, x, ha, ⟨x, [], hx, rfl, by simp⟩, rfl⟩, ⟨y, c, hy, hc, rfl⟩, rfl⟩, by simpa using nd, fun p hq => hp p (by simpa using hq)⟩
 obtain ⟨F2, le, hz, H3, _⟩ := H2.lendF
 exact ⟨cs, Ls, F2, le, hx.isSl, hd, hz, by simpa using H3⟩
theorem X.openD {n : Nat} {c : Code} {Q : QX} {α : Type} {s : Nat} {R : List Value → α → List HP → Prop} {v : Value} {xs : List α} (A B : List HP) (hL : L = A ++ deepH s R E v xs :: B)
  (H : ∀ cs Ls F2, F ≤ F2 → IsSl v → DeepL s R cs xs Ls → Fresh F F2 (star Ls) → X P n c Q ρ F2 (A ++ slH E s v xs.length cs :: B)) : X P n c Q ρ F L := by
 subst hL
 intro ok a w r Hw
 obtain ⟨cs, Ls, F2, le, hs, hd, hz, H'⟩ := Hw.openD
 exact Code.wp_mono (fun _ _ _ q => low_le le q) (H cs Ls F2 le hs hd hz ok a w r H')
theorem XL.openD {n : Nat} {ops : Array Oper} {l : List Oper} {Q : QX} {α : Type} {s : Nat} {R : List Value → α → List HP → Prop} {v : Value} {xs : List α} (A B : List HP) (hL : L = A ++ deepH s R E v xs :: B)
  (H : ∀ cs Ls F2, F ≤ F2 → IsSl v → DeepL s R cs xs Ls → Fresh F F2 (star Ls) → XL P n ops l Q ρ F2 (A ++ slH E s v xs.length cs :: B)) : XL P n ops l Q ρ F L := by
 subst hL
 intro ok a w r Hw
 obtain ⟨cs, Ls, F2, le, hs, hd, hz, H'⟩ := Hw.openD
 exact wpList_mono (fun _ _ _ q => low_le le q) _ _ _ (H cs Ls F2 le hs hd hz ok a w r H')
end
section
variable {F F' G : FH} {e E : TypeId} {v : Value}
def MoveO (e : TypeId) (es : List Value) (x : MoveT) (K : List HP) : Prop := ∃ c, es = [.int .i64 x.1, .int .i64 x.2.1, .bool x.2.2.1, c] ∧ K = [intsH e c x.2.2.2]
abbrev movesD (e E : TypeId) (v : Value) (xs : List MoveT) : HP := deepH 4 (MoveO e) E v xs
theorem MoveO.fz (es : List Value) (x : MoveT) (K : List HP) (h : MoveO e es x K) (hz : ∃ l, star K l ∧ ∀ p ∈ l, F.cells p.1 = some p.2) : MoveF F es x := by
 obtain ⟨c, rfl, rfl⟩ := h
 exact ⟨c, rfl, intsH.fz (E := e) (frozen_star hz _ (by simp))⟩
theorem movesD.fz {xs : List MoveT} (h : Fz (movesD e E v xs) F) : MovesF F v xs := deepH.fz MoveO.fz h
end
def WJM (F0 : FH) (e ES T : TypeId) (bw : Nat) (fv : Value) (tk : Nat → List MoveT) (tl : List HP) (k : Nat) (Fy : FH) (Ly : List HP) : Prop :=
 ∃ (sv : Value) (ms : List MoveT) (cs : List Value) (Ls : List HP) (m : Nat), IsSl sv ∧ MovesC Fy cs ms ∧ m = ms.length ∧ DeepL 4 (MoveO e) cs ms Ls ∧ Fresh F0 Fy (star Ls) ∧ ms = tk k ∧ Ly = cellsH bw [fv, sv] T :: slH ES 4 sv m cs :: tl
theorem WJM.start {F0 F : FH} {e ES T : TypeId} {bw k : Nat} {fv : Value} {tk : Nat → List MoveT} {tl : List HP} {b : Option Addr} (h : tk k = []) : WJM F0 e ES T bw fv tk tl k F (cellsH bw [fv, .slice b 0 0] T :: slH ES 4 (.slice b 0 0) 0 [] :: tl) :=
 ⟨_, [], [], [], 0, ⟨_, _, _, rfl⟩, CO.nil, rfl, .nil, .nilL, h.symm, rfl⟩
section
variable {P : Program} {ρ : Env} {F : FH} {L : List HP} {K : Post} {d : Option Tmp} {ty : TypeId} {pos : String} {af : Array Edge} {g : Option (Nat × Bool)}
theorem XOp.remC {x y : Operand} {t u : TypeId} {k : IntKind} {a b : Int} (hx : evO ρ x = .int k a) (hy : evO ρ y = .int k b) (h0 : 0 ≤ a) (hb : b ≠ 0) (kk : K (.int k (a % b)) F L) : XOp P ⟨d, .binOp .rem t x y u, ty, pos, af, g⟩ ρ F L K :=
 XOp.value (fun w _ => by simp [execOp, hx, hy, eqGuard, binOp, Op.intDiv, hb, IntWalk.rem_in _ _ h0]) kk
end
theorem StepsC.ones {F : FH} {cs : List Value} {xs : List StepT} (h : StepsC F cs xs) : ∀ u ∈ cs, u.oneCell' = true := by
 intro u hu
 obtain ⟨q, hq, rfl⟩ := List.getElem_of_mem hu
 have hl := h.1
 obtain ⟨es, h1, ⟨c, rfl, hc⟩, hg⟩ := CO.get h (i := q / 3) (by omega)
 have hj : q % 3 < 3 := Nat.mod_lt _ (by decide)
 have e : q / 3 * 3 + q % 3 = q := by omega
 have hx : ∀ v, [Value.int .i64 (xs.getD (q / 3) (0, 0, [])).1, .int .i64 (xs.getD (q / 3) (0, 0, [])).2.1, c][q % 3]? = some v → cs[q] = v := fun v hv => by
  have := hg (q % 3) v hv
  rw [e, List.getElem?_eq_getElem hq] at this
  exact Option.some.inj this
 obtain ⟨b, n, k, rfl⟩ := IntsF.isSl hc
 match hm : q % 3, hj with
 | 0, _ => rw [hx _ (by rw [hm]; rfl)]; rfl
 | 1, _ => rw [hx _ (by rw [hm]; rfl)]; rfl
 | 2, _ => rw [hx _ (by rw [hm]; rfl)]; rfl
end Go.Proofs.YteodlimhopibkaaGreat.X
namespace Go.Proofs.YteodlimhopibkaaGreat.M
section
variable {ar : List Int} {rs : Rules} {a b t : List Int} {ts : RowL} {n : Int} {m k : Nat}
end
section
variable {α : Type} {q : α → Bool} {l : List α} {d : α} {k : Nat}
def badG (q : α → Bool) (l : List α) : Int := match l.findIdx? (fun t => !q t) with | some i => i | none => -1
theorem badG_at (d : α) (hk : k < l.length) (h : q (l.getD k d) = false) (hall : ∀ i, i < k → q (l.getD i d) = true) : badG q l = k := by
 unfold badG
 have : l.findIdx? (fun t => !q t) = some k := by
  rw [List.findIdx?_eq_some_iff_getElem]
  refine ⟨hk, by simpa [List.getD, hk] using h, fun j hj => ?_⟩
  have := hall j hj
  simpa [List.getD, Nat.lt_trans hj hk] using this
 rw [this]
theorem badG_none (d : α) (hall : ∀ i, i < l.length → q (l.getD i d) = true) : badG q l = -1 := by
 unfold badG
 have : l.findIdx? (fun t => !q t) = none := by
  rw [List.findIdx?_eq_none_iff]
  intro x hx
  obtain ⟨i, hi, rfl⟩ := List.getElem_of_mem hx
  simpa [List.getD, hi] using hall i hi
 rw [this]
theorem badG_iff : (badG q l ≥ 0) ↔ l.all q = false := by
 unfold badG
 cases h : l.findIdx? (fun t => !q t) with
 | none =>
  rw [List.findIdx?_eq_none_iff] at h
  have : l.all q = true := List.all_eq_true.2 fun x hx => by simpa using h x hx
  simp [this]
 | some i =>
  rw [List.findIdx?_eq_some_iff_getElem] at h
  obtain ⟨hi, h1, _⟩ := h
  have : l.all q = false := by
   rw [List.all_eq_false]
   exact ⟨_, List.getElem_mem hi, by simpa using h1⟩
  simp [this]
theorem all_getD_iff (d : α) : l.all q = true ↔ ∀ i, i < l.length → q (l.getD i d) = true := by
 rw [List.all_eq_true]
 refine ⟨fun h i hi => h _ (by simp [List.getD, hi]), fun h x hx => ?_⟩
 obtain ⟨i, hi, rfl⟩ := List.getElem_of_mem hx
 simpa [List.getD, hi] using h i hi
theorem all_fail (d : α) (hk : k < l.length) (h : q (l.getD k d) = false) : l.all q = false := by
 cases hx : l.all q with
 | false => rfl
 | true => have := (all_getD_iff d).1 hx k hk; rw [h] at this; cases this
end
section
variable {ar : List Int} {rs es : Rules} {a b : List Int} {n : Int} {m k : Nat}
def eqOkL (ar : List Int) (e : List Int × List Int) : Bool := termOk ar e.1 && termOk ar e.2
end
abbrev StepV := Int × Int × List Int
def stepOne (ar : List Int) (rs : Rules) (t : List Int) (p r : Nat) : List StepV := match stepL ar rs t p r with | some u => [((p : Int), (r : Int), u)] | none => []
def stepsRow (ar : List Int) (rs : Rules) (t : List Int) (p k : Nat) : List StepV := (List.range k).flatMap (stepOne ar rs t p)
def stepsTo (ar : List Int) (rs : Rules) (t : List Int) (p : Nat) : List StepV := (List.range p).flatMap fun q => stepsRow ar rs t q rs.length
def stepsL (ar : List Int) (rs : Rules) (t : List Int) : List StepV := stepsTo ar rs t t.length
section
variable {ar t : List Int} {rs : Rules} {p r k : Nat} {u : List Int}
end
abbrev FoundV := List Int × Int × StepV × Int
def isIn (all : List FoundV) (t : List Int) : Bool := all.any fun x => decide (x.1 = t)
def start0 (t : List Int) : List FoundV := [(t, -1, (0, 0, []), 0)]
section
variable {ar t : List Int} {rs : Rules} {n d : Int} {k f : Nat} {all : List FoundV} {ss : List StepV}
abbrev EL (all : List FoundV) (k : Nat) : FoundV := all.getD k ([], 0, (0, 0, []), 0)
def AllOk (ar : List Int) (all : List FoundV) : Prop := ∀ i, i < all.length → termOk ar (EL all i).1 = true
theorem AllOk.snoc {x : FoundV} (h : AllOk ar all) (hx : termOk ar x.1 = true) : AllOk ar (all ++ [x]) := by
 intro i hi
 rw [List.length_append, List.length_singleton] at hi
 rcases Nat.lt_or_ge i all.length with h1 | h1
 ·have := h i h1; unfold EL at *; rwa [List.getD_eq_getElem?_getD, List.getElem?_append_left h1, ← List.getD_eq_getElem?_getD]
 ·obtain rfl : i = all.length := by omega
  unfold EL; simp [List.getD]; exact hx
theorem AllOk.start (h : termOk ar t = true) : AllOk ar (start0 t) := by
 intro i hi
 obtain rfl : i = 0 := by simp [start0] at hi; exact hi
 exact h
def DeepOk (n : Int) (all : List FoundV) : Prop := ∀ i, i < all.length → 0 ≤ (EL all i).2.2.2 ∧ (EL all i).2.2.2 ≤ n
theorem DeepOk.snoc {x : FoundV} (h : DeepOk n all) (hx : 0 ≤ x.2.2.2 ∧ x.2.2.2 ≤ n) : DeepOk n (all ++ [x]) := by
 intro i hi
 rw [List.length_append, List.length_singleton] at hi
 rcases Nat.lt_or_ge i all.length with h1 | h1
 ·have := h i h1; unfold EL at *; rwa [List.getD_eq_getElem?_getD, List.getElem?_append_left h1, ← List.getD_eq_getElem?_getD]
 ·obtain rfl : i = all.length := by omega
  unfold EL; simp [List.getD]; exact hx
theorem DeepOk.start (hn : 0 ≤ n) : DeepOk n (start0 t) := by
 intro i hi
 obtain rfl : i = 0 := by simp [start0] at hi; exact hi
 exact ⟨by simp [EL, start0], by simpa [EL, start0] using hn⟩
theorem isIn_some {i : Nat} {u : List Int} (hi : i < all.length) (h : (EL all i).1 = u) : isIn all u = true := by
 unfold isIn
 rw [List.any_eq_true]
 refine ⟨EL all i, ?_, by simpa using h⟩
 unfold EL; simp [List.getD, hi]
end
section
variable {all : List FoundV} {x : FoundV} {i : Nat}
theorem EL_snoc {k : Nat} (hk : k < all.length) : EL (all ++ [x]) k = EL all k := by unfold EL; rw [List.getD_eq_getElem?_getD, List.getElem?_append_left hk, ← List.getD_eq_getElem?_getD]
end
def Link (all : List FoundV) : Prop := (0 < all.length ∧ (EL all 0).2.1 = -1 ∧ (EL all 0).2.2.2 = 0) ∧ ∀ i, 0 < i → i < all.length → 0 ≤ (EL all i).2.1 ∧ (EL all i).2.1 < (i : Int) ∧ (EL all i).2.2.2 = (EL all (EL all i).2.1.toNat).2.2.2 + 1 ∧ (EL all i).2.2.1.2.2 = (EL all i).1
def Dist (all : List FoundV) : Prop := ∀ i j, i < j → j < all.length → (EL all i).1 ≠ (EL all j).1
section
variable {ar t : List Int} {rs : Rules} {n : Int} {all : List FoundV}
theorem EL_last {x : FoundV} : EL (all ++ [x]) all.length = x := by unfold EL; simp [List.getD]
theorem Link.start : Link (start0 t) := ⟨⟨by simp [start0], rfl, rfl⟩, fun i h0 hi => by simp [start0] at hi; omega⟩
theorem Link.snoc {k : Nat} {s : StepV} {d : Int} (h : Link all) (hk : k < all.length) (hd : d = (EL all k).2.2.2) : Link (all ++ [(s.2.2, (k : Int), s, d + 1)]) := by
 obtain ⟨⟨h0, h2, h3⟩, h4⟩ := h
 refine ⟨⟨by simp, by rw [EL_snoc h0]; exact h2, by rw [EL_snoc h0]; exact h3⟩, fun i hi hl => ?_⟩
 rw [List.length_append, List.length_singleton] at hl
 rcases Nat.lt_or_ge i all.length with h | h
 ·obtain ⟨a, b, c, d⟩ := h4 i hi h
  rw [EL_snoc h]
  exact ⟨a, b, by rw [EL_snoc (by omega)]; exact c, d⟩
 ·obtain rfl : i = all.length := by omega
  rw [EL_last]
  refine ⟨by dsimp only; omega, by dsimp only; omega, ?_, rfl⟩
  dsimp only
  rw [show ((k : Int)).toNat = k from by omega, EL_snoc hk, hd]
theorem Dist.snoc {x : FoundV} (h : Dist all) (hx : isIn all x.1 = false) : Dist (all ++ [x]) := by
 intro i j hij hj
 rw [List.length_append, List.length_singleton] at hj
 rcases Nat.lt_or_ge j all.length with h1 | h1
 ·rw [EL_snoc h1, EL_snoc (by omega)]; exact h i j hij h1
 ·obtain rfl : j = all.length := by omega
  rw [EL_last, EL_snoc hij]
  intro he
  rw [isIn_some hij he] at hx
  cases hx
end
def WalkB (f : List Int) (ss : List StepV) : Prop := f.length ≤ 60 ∧ ss.length ≤ 60 ∧ (∀ i, i < ss.length → (ss.getD i (0, 0, [])).2.2.length ≤ 60) ∧ (ss.flatMap flatStep).length ≤ 4000
theorem WalkB.nil : WalkB [] [] := ⟨by simp, by simp, fun i hi => by simp at hi, by simp⟩
theorem WalkB.mk {f : List Int} {ss : List StepV} (hf : f.length ≤ 60) (hs : ss.length ≤ 60) (h : ∀ s ∈ ss, s.2.2.length ≤ 60) : WalkB f ss := by
 have h0 : ∀ i, i < ss.length → (ss.getD i (0, 0, [])).2.2.length ≤ 60 := fun i hi => h _ (by simp [List.getD, hi])
 refine ⟨hf, hs, h0, ?_⟩
 have h1 := flatStep_len ss
 have h2 := gTo_bound h0 _ (Nat.le_refl _)
 have h4 : ss.length * 60 ≤ 60 * 60 := Nat.mul_le_mul_right 60 hs
 omega
section
variable {ar t u a b : List Int} {rs : Rules} {n : Int} {all : List FoundV} {k : Nat}
end
abbrev MoveV := Int × Int × Bool × List Int
def flatMove (m : MoveV) : List Int := m.1 :: m.2.1 :: (if m.2.2.1 = decide ((m.2.1 + 1) % 3 = 0) then m.2.1 + 1 else m.2.1) :: m.2.2.2
section
variable {f g : List Int} {ms ns : List MoveV} {ss tt : List StepV} {j k : Nat}
def ChainB (f : List Int) (ms : List MoveV) : Prop := f.length ≤ 60 ∧ ms.length ≤ 60 ∧ (∀ i, i < ms.length → (ms.getD i (0, 0, false, [])).2.2.2.length ≤ 60) ∧ (ms.flatMap flatMove).length ≤ 4000
theorem flatMove_len (m : MoveV) : (flatMove m).length = m.2.2.2.length + 3 := rfl
theorem flatMoves_le : ∀ {ms : List MoveV}, (∀ m ∈ ms, m.2.2.2.length ≤ 60) → (ms.flatMap flatMove).length ≤ 63 * ms.length
 | [], _ => by simp
 | m :: ms, h => by
  have h1 := flatMoves_le (ms := ms) (fun x hx => h x (List.mem_cons_of_mem _ hx))
  have h2 := h m (by simp)
  rw [List.flatMap_cons, List.length_append, flatMove_len, List.length_cons]
  omega
theorem ChainB.mk (hf : f.length ≤ 60) (hm : ms.length ≤ 60) (h : ∀ m ∈ ms, m.2.2.2.length ≤ 60) : ChainB f ms := by
 refine ⟨hf, hm, fun i hi => h _ (by simp [List.getD, hi]), ?_⟩
 have := flatMoves_le h
 omega
theorem ChainB.nil : ChainB [] [] := .mk (by simp) (by simp) (by simp)
end
section
variable {ar f f2 a b : List Int} {rs : Rules} {ss s2 : List StepV} {n : Int}
end
section
variable {ar : List Int} {rs : Rules} {t f u : List Int} {ss acc : List StepL} {p : Nat} {k : Nat}
end
section
variable {ar : List Int} {rs : Rules} {t f : List Int} {ss : List StepL} {s : RowL} {p : Int}
def substOk (ar : List Int) (s : RowL) : Bool := sigOk ar && decide (s.length ≤ 24) && s.all (fun t => decide (t = []) || termOk ar t)
theorem len_nil {l : List Int} (h : ¬ ((l.length : Nat) : Int) > 0) : l = [] := List.eq_nil_of_length_eq_zero (by omega)
def loopOkL (ar : List Int) (rs : Rules) (f : List Int) (ss : List StepL) (p : Int) (s : RowL) : Bool :=
 decide (ss.length ≠ 0) && walkOkL ar rs f ss && posOk ar (endL f ss) p && substOk ar s && decide (fillL s f = some (sub ar (endL f ss) p.toNat))
theorem fill_eq {v : List Int} (h : (fillL s f).isSome = true) : fillL s f = some v ↔ (fillL s f).getD [] = v := by
 obtain ⟨x, hx⟩ := Option.isSome_iff_exists.1 h
 rw [hx]; simp
end
def argsGo (ar t : List Int) : Nat → Nat → List Int
 | 0, _ => []
 | n + 1, q => (q : Int) :: argsGo ar t n (endN ar t q)
def argsL (ar t : List Int) (p : Nat) : List Int := argsGo ar t (arity ar (t.getD p 0)).toNat (p + 1)
def Stand (ar t : List Int) (n q e : Nat) : Prop := endGo ar (t.drop q) n = some (e - q) ∧ q ≤ e ∧ e ≤ t.length
theorem stand_start {ar t : List Int} (h : termOk ar t = true) {p : Nat} (hp : p < t.length) : Stand ar t (arity ar (t.getD p 0)).toNat (p + 1) (endN ar t p) := by
 have he := endN_spec h hp
 obtain ⟨e, h1, h2, h3⟩ := endAt_some h hp
 have hN : endN ar t p = e := by simp [endN, h1]
 unfold endAt at h1
 rw [endGo_step (by omega) hp (termOk_lt h hp)] at h1
 rw [Nat.sub_self, Nat.zero_add] at h1
 refine ⟨?_, by omega, by omega⟩
 cases hg : endGo ar (t.drop (p + 1)) (arity ar (t.getD p 0)).toNat with
 | none => rw [hg] at h1; cases h1
 | some q => rw [hg] at h1; simp only [Option.map_some, Option.some.injEq] at h1; rw [Option.some.injEq]; omega
theorem stand_step {ar t : List Int} (h : termOk ar t = true) {n q e : Nat} (hs : Stand ar t (n + 1) q e) : q < t.length ∧ Stand ar t n (endN ar t q) e ∧ q < endN ar t q ∧ endN ar t q ≤ e := by
 obtain ⟨h1, h2, h3⟩ := hs
 have hpos := endGo_pos h1
 have hq : q < t.length := by omega
 have h1' := h1
 rw [Nat.add_comm] at h1
 obtain ⟨e1, e2, g1, g2, g3⟩ := endGo_split h1
 have hN : endN ar t q = q + e1 := by simp [endN, endAt, g1]
 have hE := endN_spec h hq
 rw [List.drop_drop] at g2
 refine ⟨hq, ⟨?_, by omega, h3⟩, by omega, by omega⟩
 rw [hN, g2]; congr 1; omega
theorem argsGo_len (ar t : List Int) : ∀ n q, (argsGo ar t n q).length = n
 | 0, _ => rfl
 | n + 1, q => by simp [argsGo, argsGo_len ar t n]
theorem argsL_len {ar t : List Int} {p : Nat} : (argsL ar t p).length = (arity ar (t.getD p 0)).toNat := argsGo_len ..
theorem argsL_le {ar t : List Int} (h : termOk ar t = true) {p : Nat} (hp : p < t.length) : (argsL ar t p).length ≤ 3 := by
 have := arity_le (termOk_sig h) (termOk_lt h hp)
 rw [argsL_len]; omega
theorem args_next {ar t : List Int} (h : termOk ar t = true) {p n q : Nat} {os : List Int} (hn : 1 ≤ n) (he : argsL ar t p = os ++ argsGo ar t n q) : argsL ar t p = (os ++ [(q : Int)]) ++ argsGo ar t (n - 1) (endN ar t q) := by
 obtain ⟨m, rfl⟩ : ∃ m, n = m + 1 := ⟨n - 1, by omega⟩
 rw [he, argsGo, Nat.add_sub_cancel, List.append_assoc]; rfl
end Go.Proofs.YteodlimhopibkaaGreat.M
namespace Go.Proofs.YteodlimhopibkaaGreat.X
open Go
def WKJ (F0 : FH) (e ES T : TypeId) (bw : Nat) (fv : Value) (tl : List HP) (I : Nat → List StepT → Prop) (k : Nat) (Fy : FH) (Ly : List HP) : Prop :=
 ∃ (sv : Value) (ss : List StepT) (cs : List Value) (Ls : List HP) (m : Nat), IsSl sv ∧ StepsC Fy cs ss ∧ m = ss.length ∧ DeepL 3 (StepO e) cs ss Ls ∧ Fresh F0 Fy (star Ls) ∧ I k ss ∧ Ly = cellsH bw [fv, sv] T :: slH ES 3 sv m cs :: tl
theorem WKJ.start {F0 F : FH} {e ES T : TypeId} {bw : Nat} {fv : Value} {tl : List HP} {I : Nat → List StepT → Prop} {b : Option Addr} (h : I 0 []) : WKJ F0 e ES T bw fv tl I 0 F (cellsH bw [fv, .slice b 0 0] T :: slH ES 3 (.slice b 0 0) 0 [] :: tl) :=
 ⟨_, [], [], [], 0, ⟨_, _, _, rfl⟩, CO.nil, rfl, .nil, .nilL, h, rfl⟩
theorem WKJ.mono {F0 F F' : FH} {e ES T : TypeId} {bw k : Nat} {fv : Value} {tl L : List HP} {I : Nat → List StepT → Prop} (h : WKJ F0 e ES T bw fv tl I k F L) (le : F ≤ F') : WKJ F0 e ES T bw fv tl I k F' L :=
 let ⟨sv, ss, cs, Ls, m, h1, h2, h3, h4, h5, h6, h7⟩ := h
 ⟨sv, ss, cs, Ls, m, h1, h2.mono le, h3, h4, h5.mono le, h6, h7⟩
section
variable {P : Program} {fn : Func} {Q : Post} {ρ : Env} {F F0 : FH} {L : List HP}
theorem Does.at {f : FuncId} {args : List Value} {Q : Value → FH → Prop} {h : HP} (A : List HP) {B : List HP} (H : Does P f args F (h :: (A ++ B)) fun v F' L' => Q v F' ∧ h :: (A ++ B) = L') : Does P f args F (A ++ h :: B) fun v F' L' => Q v F' ∧ A ++ h :: B = L' := fun w Hw =>
 (H w (Sub.front.holds Hw)).mono fun _ _ ⟨v, F', L', he, le, H', hq, hl⟩ => ⟨v, F', _, he, le, Sub.back.holds (hl ▸ H'), hq, rfl⟩
end
section
variable {P : Program} {ρ : Env} {F : FH} {L : List HP} {K : Post} {d : Option Tmp} {ty : TypeId} {pos : String} {af : Array Edge} {g : Option (Nat × Bool)}
end
section
variable {P : Program} {ρ : Env} {F : FH} {L : List HP} {K : Post} {d : Option Tmp} {ty : TypeId} {pos : String} {af : Array Edge} {g : Option (Nat × Bool)}
theorem XOp.addW {x y : Operand} {t u : TypeId} {k : IntKind} {a b : Int} (hx : evO ρ x = .int k a) (hy : evO ρ y = .int k b) (kk : ∀ r, K (.int k r) F L) : XOp P ⟨d, .binOp .add t x y u, ty, pos, af, g⟩ ρ F L K :=
 XOp.value (v := .int k (k.wrap (a + b))) (fun w _ => by simp [execOp, hx, hy, eqGuard, binOp, Op.intArith]) (kk _)
theorem XOp.mulW {x y : Operand} {t u : TypeId} {k : IntKind} {a b : Int} (hx : evO ρ x = .int k a) (hy : evO ρ y = .int k b) (kk : ∀ r, K (.int k r) F L) : XOp P ⟨d, .binOp .mul t x y u, ty, pos, af, g⟩ ρ F L K :=
 XOp.value (v := .int k (k.wrap (a * b))) (fun w _ => by simp [execOp, hx, hy, eqGuard, binOp, Op.intArith]) (kk _)
theorem XOp.xorW {x y : Operand} {t u : TypeId} {k : IntKind} {a b : Int} (hx : evO ρ x = .int k a) (hy : evO ρ y = .int k b) (kk : ∀ r, K (.int k r) F L) : XOp P ⟨d, .binOp .xor t x y u, ty, pos, af, g⟩ ρ F L K :=
 XOp.value (v := .int k (k.wrap (BitVec.ofInt k.bits a ^^^ BitVec.ofInt k.bits b).toNat)) (fun w _ => by simp [execOp, hx, hy, eqGuard, binOp, Op.intBits]) (kk _)
theorem XOp.shrW {x y : Operand} {t u : TypeId} {k k' : IntKind} {a b : Int} (hx : evO ρ x = .int k a) (hy : evO ρ y = .int k' b) (hb : 0 ≤ b) (kk : ∀ r, K (.int k r) F L) : XOp P ⟨d, .binOp .shr t x y u, ty, pos, af, g⟩ ρ F L K :=
 XOp.value (v := .int k (a.fdiv (2 ^ min b.toNat k.bits))) (fun w _ => by simp [execOp, hx, hy, eqGuard, binOp, Op.shift, show ¬ b < 0 by omega]) (kk _)
theorem and_range {k : IntKind} (hk : k.bits = 64) {a b : Int} (hb : 0 ≤ b ∧ b < 4611686018427387904) : 0 ≤ k.wrap (BitVec.ofInt k.bits a &&& BitVec.ofInt k.bits b).toNat ∧ k.wrap (BitVec.ofInt k.bits a &&& BitVec.ofInt k.bits b).toNat ≤ b := by
 have h1 : ((BitVec.ofInt k.bits a &&& BitVec.ofInt k.bits b).toNat : Int) ≤ b := by
  rw [BitVec.toNat_and]
  have h2 : (BitVec.ofInt k.bits a).toNat &&& (BitVec.ofInt k.bits b).toNat ≤ (BitVec.ofInt k.bits b).toNat := Nat.and_le_right
  have h3 : ((BitVec.ofInt k.bits b).toNat : Int) = b := by
   rw [BitVec.toNat_ofInt, hk]
   have : b % ((2 ^ 64 : Nat) : Int) = b := Int.emod_eq_of_lt hb.1 (by omega)
   rw [this]; omega
  omega
 have h0 : (0 : Int) ≤ ((BitVec.ofInt k.bits a &&& BitVec.ofInt k.bits b).toNat : Int) := Int.natCast_nonneg _
 generalize ((BitVec.ofInt k.bits a &&& BitVec.ofInt k.bits b).toNat : Int) = r at h0 h1
 have e : k.wrap r = r := by
  cases k <;> first | exact IntWalk.i64_in _ ⟨by omega, by omega⟩ | exact IntWalk.u64_in _ ⟨by omega, by omega⟩ | (exfalso; revert hk; decide)
 rw [e]
 exact ⟨h0, h1⟩
theorem XOp.andW {x y : Operand} {t u : TypeId} {k : IntKind} {a b : Int} (hk : k.bits = 64) (hx : evO ρ x = .int k a) (hy : evO ρ y = .int k b) (hb : 0 ≤ b ∧ b < 4611686018427387904) (kk : ∀ r, 0 ≤ r ∧ r ≤ b → K (.int k r) F L) : XOp P ⟨d, .binOp .and t x y u, ty, pos, af, g⟩ ρ F L K :=
 XOp.value (v := .int k (k.wrap (BitVec.ofInt k.bits a &&& BitVec.ofInt k.bits b).toNat)) (fun w _ => by simp [execOp, hx, hy, eqGuard, binOp, Op.intBits]) (kk _ (and_range hk hb))
theorem XOp.remV {x y : Operand} {t u : TypeId} {k : IntKind} {a b : Int} (hx : evO ρ x = .int k a) (hy : evO ρ y = .int k b) (h0 : 0 ≤ a) (hb : 0 < b) (kk : ∀ r, 0 ≤ r ∧ r < b → K (.int k r) F L) : XOp P ⟨d, .binOp .rem t x y u, ty, pos, af, g⟩ ρ F L K :=
 XOp.remC hx hy h0 (by omega) (kk _ ⟨Int.emod_nonneg a (by omega), Int.emod_lt_of_pos a hb⟩)
end
def ByteE (F : FH) (es : List Value) (x : Int) : Prop := es = [.int .u8 x] ∧ 0 ≤ x ∧ x ≤ 255
theorem ByteE.mono {F F' : FH} (es : List Value) (x : Int) (h : ByteE F es x) : ByteE F' es x := h
def BytesF : FH → Value → List Int → Prop := SlOf 1 ByteE 0
theorem BytesF.mono {F F' : FH} {v : Value} {xs : List Int} (h : BytesF F v xs) (le : F ≤ F') : BytesF F' v xs := SlOf.mono ByteE.mono h le
theorem BytesF.slv {F : FH} {L : List HP} {v : Value} {xs : List Int} (h : BytesF F v xs) : SlV F L v xs.length := SlOf.slv h
theorem BytesF.isSl {F : FH} {v : Value} {xs : List Int} (h : BytesF F v xs) : IsSl v := by obtain ⟨_, h, _⟩ := h; exact h.isSl
theorem BytesF.rd {F : FH} {v : Value} {xs : List Int} (h : BytesF F v xs) {i : Nat} (hi : i < xs.length) : ∀ L, Rd F L (elemA v i) (.int .u8 (xs.getD i 0)) := by
 obtain ⟨es, hl, ⟨rfl, _⟩, hr⟩ := SlOf.get h hi
 intro L
 have := hr L 0 _ rfl
 simpa using this
theorem BytesF.range {F : FH} {v : Value} {xs : List Int} (h : BytesF F v xs) {i : Nat} (hi : i < xs.length) : 0 ≤ xs.getD i 0 ∧ xs.getD i 0 ≤ 255 := by
 obtain ⟨es, hl, ⟨rfl, h2⟩, hr⟩ := SlOf.get h hi
 exact h2
def curH (k : IntKind) (E : TypeId) (b : Nat) (bv : Value) (n : Nat) : HP := fun l => ∃ i h : Int, 0 ≤ i ∧ i ≤ n ∧ cellsH b [bv, .int .i64 i, .int k h] E l
theorem curH.of {k : IntKind} {E : TypeId} {b : Nat} {bv : Value} {n : Nat} {i h : Int} (h0 : 0 ≤ i) (h1 : i ≤ n) : ∀ l, cellsH b [bv, .int .i64 i, .int k h] E l → curH k E b bv n l := fun l hl => ⟨i, h, h0, h1, hl⟩
theorem Holds.uncur {k : IntKind} {E : TypeId} {b : Nat} {bv : Value} {n : Nat} {F : FH} {L : List HP} {w : World} (H : Holds F (curH k E b bv n :: L) w) : ∃ i h : Int, 0 ≤ i ∧ i ≤ n ∧ Holds F (cellsH b [bv, .int .i64 i, .int k h] E :: L) w := by
 obtain ⟨h1, h2, h3, h4, l, hl, nd, hp⟩ := H
 obtain ⟨a, c, ⟨i, h, q1, q2, hm⟩, hc, rfl⟩ := hl
 exact ⟨i, h, q1, q2, h1, h2, h3, h4, _, ⟨a, c, hm, hc, rfl⟩, nd, hp⟩
theorem Does.cur {P : Program} {f : FuncId} {args : List Value} {k : IntKind} {E : TypeId} {b : Nat} {bv : Value} {n : Nat} {F : FH} {L : List HP} {Q : Value → FH → Prop}
  (H : ∀ i h : Int, 0 ≤ i → i ≤ n → Does P f args F (cellsH b [bv, .int .i64 i, .int k h] E :: L) fun v F' L' => Q v F' ∧ ∃ i' h' : Int, 0 ≤ i' ∧ i' ≤ n ∧ cellsH b [bv, .int .i64 i', .int k h'] E :: L = L') :
  Does P f args F (curH k E b bv n :: L) fun v F' L' => Q v F' ∧ curH k E b bv n :: L = L' := by
 intro w Hw
 obtain ⟨i, h, q1, q2, Hw'⟩ := Hw.uncur
 refine (H i h q1 q2 w Hw').mono ?_
 rintro e w' ⟨v, F', L', he, le, H', hq, i', h', q3, q4, rfl⟩
 exact ⟨v, F', _, he, le, (Sub.keep (curH.of q3 q4) (Sub.refl _)).holds H', hq, rfl⟩
def intAt : Value → Int
 | .int _ n => n
 | _ => 0
def boolAt : Value → Bool
 | .bool b => b
 | _ => false
theorem Holds.ex {ι : Type} {h : HP} {k : ι → HP} {p : ι → Prop} {F : FH} {A B : List HP} {w : World} (e : ∀ l, h l → ∃ i, p i ∧ k i l) (H : Holds F (A ++ h :: B) w) : ∃ i, p i ∧ Holds F (A ++ k i :: B) w := by
 obtain ⟨h1, h2, h3, h4, l, hl, nd, hp⟩ := H
 obtain ⟨a, m, c, ha, hm, hc, rfl⟩ := star_mid.1 hl
 obtain ⟨i, hi, hk⟩ := e m hm
 exact ⟨i, hi, h1, h2, h3, h4, _, star_mid.2 ⟨a, m, c, ha, hk, hc, rfl⟩, nd, hp⟩
def drawnH (e : TypeId) (v : Value) (Q : List Int → Prop) : HP := fun l => ∃ t, Q t ∧ intsH e v t l
theorem drawnH.of {e : TypeId} {v : Value} {Q : List Int → Prop} {t : List Int} (h : Q t) : ∀ l, intsH e v t l → drawnH e v Q l := fun l hl => ⟨t, h, hl⟩
section
variable {P : Program} {n : Nat} {ops : Array Oper} {l : List Oper} {Q : QX} {ρ : Env} {F : FH} {L : List HP} {c : Code}
theorem XL.undraw {e : TypeId} {v : Value} {R : List Int → Prop} (A : List HP) {B : List HP} (hL : L = A ++ drawnH e v R :: B) (h : ∀ t, R t → XL P n ops l Q ρ F (A ++ intsH e v t :: B)) : XL P n ops l Q ρ F L := by
 subst hL
 intro ok a w r H
 obtain ⟨t, ht, H'⟩ := Holds.ex (fun _ h => h) H
 exact h t ht ok a w r H'
end
def SomesF (F : FH) (v : Value) (Q : List Int → Prop) : Prop := ∃ t, IntsF F v t ∧ Q t
theorem SomesF.mono {F F' : FH} {v : Value} {Q : List Int → Prop} (h : SomesF F v Q) (le : F ≤ F') : SomesF F' v Q := let ⟨t, h1, h2⟩ := h; ⟨t, h1.mono le, h2⟩
theorem SomesF.isSl {F : FH} {v : Value} {Q : List Int → Prop} (h : SomesF F v Q) : IsSl v := let ⟨_, h1, _⟩ := h; h1.isSl
def SomeRowsF (F : FH) (v : Value) (Q : List (List Int) → Prop) : Prop := ∃ t, RowsF F v t ∧ Q t
theorem SomeRowsF.mono {F F' : FH} {v : Value} {Q : List (List Int) → Prop} (h : SomeRowsF F v Q) (le : F ≤ F') : SomeRowsF F' v Q := let ⟨t, h1, h2⟩ := h; ⟨t, h1.mono le, h2⟩
theorem SomeRowsF.isSl {F : FH} {v : Value} {Q : List (List Int) → Prop} (h : SomeRowsF F v Q) : IsSl v := let ⟨_, h1, _⟩ := h; h1.isSl
theorem Does.atO {P : Program} {f : FuncId} {args : List Value} {F : FH} {ι : Type} {O : ι → HP} {Q : ι → Value → FH → Prop} {h : HP} (A : List HP) {B : List HP} (H : Does P f args F (h :: (A ++ B)) fun v F' L' => ∃ i, Q i v F' ∧ O i :: h :: (A ++ B) = L') :
  Does P f args F (A ++ h :: B) fun v F' L' => ∃ i, Q i v F' ∧ O i :: (A ++ h :: B) = L' := fun w Hw =>
 (H w (Sub.front.holds Hw)).mono fun _ _ ⟨v, F', L', he, le, H', i, hq, hl⟩ => ⟨v, F', _, he, le, (Sub.cons Sub.back).holds (hl ▸ H'), i, hq, rfl⟩
section
variable {P : Program} {ρ : Env} {F : FH} {L : List HP} {K : Post} {d : Option Tmp} {ty : TypeId} {pos : String} {af : Array Edge} {g : Option (Nat × Bool)}
end
end Go.Proofs.YteodlimhopibkaaGreat.X
namespace Go.Proofs.YteodlimhopibkaaGreat.M
section
variable {ar : List Int} {rs : Rules} {a b t : List Int} {ts : RowL} {n : Int} {k : Nat}
end
section
variable {ar t u : List Int} {n : Nat} {f : Int}
def goodN (ar t : List Int) (n : Nat) : Prop := (∀ x ∈ t, -24 ≤ x) ∧ ∀ r, endGo ar (t ++ r) n = some t.length
def goodT (ar t : List Int) : Prop := goodN ar t 1
theorem goodN.nil : goodN ar [] 0 := ⟨fun x hx => (List.not_mem_nil hx).elim, fun r => by cases r <;> rfl⟩
theorem goodN.snoc (h : goodN ar t n) (k : goodT ar u) : goodN ar (t ++ u) (n + 1) := by
 refine ⟨fun x hx => (List.mem_append.1 hx).elim (h.1 x) (k.1 x), fun r => ?_⟩
 have h1 := h.2 (u ++ r)
 have h2 : endGo ar ((t ++ (u ++ r)).drop t.length) 1 = some u.length := by rw [List.drop_left]; exact k.2 r
 rw [List.append_assoc, endGo_join h1 h2, List.length_append]
theorem goodT.one (hf : -24 ≤ f) (hl : f < ar.length) (ha : arity ar f = 0) : goodT ar [f] := by
 refine ⟨fun x hx => by obtain rfl := List.mem_singleton.1 hx; exact hf, fun r => ?_⟩
 show endGo ar (f :: r) (0 + 1) = some 1
 unfold endGo
 rw [if_pos hl, ha]
 cases r <;> rfl
theorem goodT.var (hf : -24 ≤ f) (h0 : f < 0) : goodT ar [f] := goodT.one hf (by omega) (by rw [arity, if_pos h0])
theorem goodT.node (h0 : 0 ≤ f) (hl : f < ar.length) (ha : arity ar f = (n : Int)) (h : goodN ar t n) : goodT ar (f :: t) := by
 refine ⟨fun x hx => (List.mem_cons.1 hx).elim (fun e => by omega) (h.1 x), fun r => ?_⟩
 show endGo ar (f :: (t ++ r)) (0 + 1) = some (t.length + 1)
 unfold endGo
 rw [if_pos hl, ha, show 0 + (n : Int).toNat = n from by omega, h.2 r]
 rfl
theorem goodT.ok (hs : sigOk ar = true) (hl : 1 ≤ t.length ∧ t.length ≤ 60) (h : goodT ar t) : termOk ar t = true := by
 have e := h.2 []
 rw [List.append_nil] at e
 exact termOk_iff.2 ⟨hs, hl.1, hl.2, h.1, e⟩
def szB : Nat → Nat
 | 0 => 1
 | d + 1 => 1 + 2 * szB d
def szT : Nat → Nat
 | 0 => 1
 | d + 1 => 1 + 3 * szT d
theorem szB_pos : ∀ d, 1 ≤ szB d
 | 0 => by simp [szB]
 | d + 1 => by simp only [szB]; omega
theorem szB_next {d : Nat} (h : 1 ≤ d) : szB d = 1 + 2 * szB (d - 1) := by
 obtain ⟨e, rfl⟩ : ∃ e, d = e + 1 := ⟨d - 1, by omega⟩
 rfl
theorem szB_le : ∀ {d e : Nat}, d ≤ e → szB d ≤ szB e
 | 0, e, _ => szB_pos e
 | d + 1, 0, h => by omega
 | d + 1, e + 1, h => by have := szB_le (d := d) (e := e) (by omega); simp only [szB]; omega
theorem szT_pos : ∀ d, 1 ≤ szT d
 | 0 => by simp [szT]
 | d + 1 => by simp only [szT]; omega
theorem szT_next {d : Nat} (h : 1 ≤ d) : szT d = 1 + 3 * szT (d - 1) := by
 obtain ⟨e, rfl⟩ : ∃ e, d = e + 1 := ⟨d - 1, by omega⟩
 rfl
theorem szT_le : ∀ {d e : Nat}, d ≤ e → szT d ≤ szT e
 | 0, e, _ => szT_pos e
 | d + 1, 0, h => by omega
 | d + 1, e + 1, h => by have := szT_le (d := d) (e := e) (by omega); simp only [szT]; omega
theorem sigOk_snoc {x : Int} (h : sigOk ar = true) (hl : ar.length ≤ 7) (hx : 0 ≤ x ∧ x ≤ 3) : sigOk (ar ++ [x]) = true := by
 have h1 := sigOk_spec h
 refine sigOk_of (by simp) (by simp; omega) (fun i hi => ?_)
 rcases Nat.lt_or_ge i ar.length with h' | h'
 ·have := h1.2.2 i h'
  simpa [List.getD, List.getElem?_append_left h'] using this
 ·have e : i = ar.length := by simp at hi; omega
  subst e
  simpa [List.getD] using hx
theorem rows_snoc {N : Nat} {os : List (List Int)} {x : List Int} (h : ∀ i, (os.getD i []).length ≤ N) (hx : x.length ≤ N) : ∀ i, ((os ++ [x]).getD i []).length ≤ N := fun i => by
 rcases Nat.lt_or_ge i os.length with h' | h'
 ·have := h i
  simpa [List.getD, List.getElem?_append_left h'] using this
 ·rcases Nat.eq_or_lt_of_le h' with e | e
  ·subst e; simpa [List.getD] using hx
  ·simp [List.getD, List.getElem?_eq_none (show (os ++ [x]).length ≤ i by simp; omega)]
theorem sub_le {t : List Int} {p : Nat} : (sub ar t p).length ≤ t.length := by
 unfold sub
 rw [List.length_take, List.length_drop]
 omega
theorem fill_le60 {s : RowL} {t : List Int} : ((fillL s t).getD []).length ≤ 60 := by
 cases h : fillL s t with
 | none => simp
 | some u => exact (fillL_len h).1
def smallR (rs : Rules) : Prop := ∀ i, i < rs.length → (rs.getD i ([], [])).1.length ≤ 2000 ∧ (rs.getD i ([], [])).2.length ≤ 2000
theorem smallR.nil : smallR [] := fun i hi => by simp at hi
theorem smallR.snoc {l r : List Int} {rs : Rules} (h : smallR rs) (hl : l.length ≤ 2000) (hr : r.length ≤ 2000) : smallR (rs ++ [(l, r)]) := fun i hi => by
 rcases Nat.lt_or_ge i rs.length with h' | h'
 ·have := h i h'
  simpa [List.getD, List.getElem?_append_left h'] using this
 ·have e : i = rs.length := by simp at hi; omega
  subst e
  simpa [List.getD] using And.intro hl hr
variable {rs : Rules} {a b : List Int} {ts : RowL} {m : Int} {i k : Nat}
end
end Go.Proofs.YteodlimhopibkaaGreat.M
namespace Go.Proofs.YteodlimhopibkaaGreat.X
open Go
theorem CO.setOne {α : Type} {s : Nat} {R : FH → List Value → α → Prop} {d : α} {F : FH} {cs : List Value} {xs : List α} {x : α} {u : Value} (h : CO s R d F cs xs) {j o : Nat} (hj : j < xs.length) (ho : o < s) (hR : ∀ es, es.length = s → R F es (xs.getD j d) → R F (es.set o u) x) :
  CO s R d F (cs.set (j * s + o) u) (xs.set j x) := by
 obtain ⟨es, h1, h2, h3⟩ := h.2 j hj
 have hb : j * s + s ≤ cs.length := by
  rw [h.1]
  have : (j + 1) * s ≤ xs.length * s := Nat.mul_le_mul_right s hj
  rwa [Nat.succ_mul] at this
 have k := CO.setN h hj (es := es.set o u) (by rw [List.length_set]; exact h1) (hR es h1 h3)
 have hA : (cs.take (j * s)).length = j * s := by rw [List.length_take]; omega
 have e1 : cs = cs.take (j * s) ++ (es ++ cs.drop (j * s + s)) := by
  have : cs.drop (j * s) = es ++ cs.drop (j * s + s) := by
   rw [← h2, ← List.drop_drop, List.take_append_drop]
  rw [← this, List.take_append_drop]
 have e2 : cs.set (j * s + o) u = cs.take (j * s) ++ es.set o u ++ cs.drop (j * s + (es.set o u).length) := by
  rw [List.length_set, h1]
  conv => lhs; rw [e1]
  rw [List.set_append_right _ _ (by omega), hA, Nat.add_sub_cancel_left, List.set_append_left _ _ (by omega), List.append_assoc]
 rw [e2]
 exact k
section
variable {P : Program} {ρ : Env} {F : FH} {L : List HP} {K : Post} {d : Option Tmp} {ty : TypeId} {pos : String} {af : Array Edge} {g : Option (Nat × Bool)}
end
theorem RowsC.ones {F : FH} {cs : List Value} {xs : List (List Int)} (h : RowsC F cs xs) : ∀ u ∈ cs, u.oneCell' = true := by
 intro u hu
 obtain ⟨q, hq, rfl⟩ := List.getElem_of_mem hu
 have hl := h.1
 obtain ⟨es, h1, ⟨c, rfl, hc⟩, hg⟩ := CO.get h (i := q) (by omega)
 have h9 := hg 0 c rfl
 rw [show q * 1 + 0 = q from by omega, List.getElem?_eq_getElem hq] at h9
 obtain ⟨b, n, k, rfl⟩ := IntsF.isSl hc
 rw [Option.some.inj h9]; rfl
theorem XOp.appendRows {P : Program} {ρ : Env} {F : FH} {L : List HP} {K : Post} {d : Option Tmp} {ty : TypeId} {pos : String} {af : Array Edge} {g : Option (Nat × Bool)} {x y : Operand} {t E : TypeId} {i : TypeInfo} {z : Value} {n bytes : Nat} {v v2 : Value} {cs : List Value} {xs ys : List (List Int)} (A B : List HP)
  (ht : ∀ w, (underlying t).run P w = .ok (.slice E) w) (hi : ∀ w, (typeInfo E).run P w = .ok i w) (hz : i.zero = some z) (hs : i.size = 1) (hby : i.bytes = bytes) (hzs : z.cells.size = 1)
  (hx : evO ρ x = v) (hy : evO ρ y = v2) (hL : L = A ++ slH E 1 v n cs :: B) (hC : RowsC F cs xs) (hv2 : RowsF F v2 ys) (h63 : n + ys.length ≤ 1152921504606846976) (hbytes : (n + ys.length) * bytes ≤ 140737488355328)
  (k : ∀ v' ds, IsSl v' → RowsC F (cs ++ ds) (xs ++ ys) → K v' F (A ++ slH E 1 v' (n + ys.length) (cs ++ ds) :: B)) :
  XOp P ⟨d, .call { callee := .builtin .append, args := #[x, y], argTypes := #[t, t] }, ty, pos, af, g⟩ ρ F L K := by
 obtain ⟨ds, hA, hc2⟩ := SlOf.open hv2
 exact XOp.append A B ds ht hi hz hs hby hzs hx hy hL (SlV.arr hA) hc2.1 (fun j u hu => Rd.arr hA hu) (RowsC.ones hc2) h63 hbytes fun v' h1 _ _ => k v' ds h1 (CO.append hC hc2)
def SomeStepsF (F : FH) (v : Value) (Q : List StepT → Prop) : Prop := ∃ t, StepsF F v t ∧ Q t
theorem SomeStepsF.mono {F F' : FH} {v : Value} {Q : List StepT → Prop} (h : SomeStepsF F v Q) (le : F ≤ F') : SomeStepsF F' v Q := let ⟨t, h1, h2⟩ := h; ⟨t, h1.mono le, h2⟩
theorem SomeStepsF.isSl {F : FH} {v : Value} {Q : List StepT → Prop} (h : SomeStepsF F v Q) : IsSl v := let ⟨_, h1, _⟩ := h; h1.isSl
def SomeBindsF (F : FH) (bs : List Value) (Q : List (List Int) → Prop) : Prop := ∃ bl, BindC F bs bl ∧ Q bl
theorem SomeBindsF.mono {F F' : FH} {bs : List Value} {Q : List (List Int) → Prop} (h : SomeBindsF F bs Q) (le : F ≤ F') : SomeBindsF F' bs Q := let ⟨t, h1, h2⟩ := h; ⟨t, h1.mono le, h2⟩
def aggL : Value → List Value
 | .agg a => a.toList
 | _ => []
end Go.Proofs.YteodlimhopibkaaGreat.X
namespace Go.Proofs.YteodlimhopibkaaGreat.M
section
variable {ar t u : List Int} {rs : Rules} {n : Int} {all : List FoundV} {k : Nat} {ss : List StepV}
abbrev LoopV := List Int × List StepV × Int × RowL × Bool
abbrev noLoop : LoopV := ([], [], 0, [], false)
def LoopB (v : LoopV) : Prop := WalkB v.1 v.2.1 ∧ v.2.2.2.1.length ≤ 24 ∧ (∀ i, (v.2.2.2.1.getD i []).length ≤ 60) ∧ (v.2.2.2.1.flatMap flatRow).length ≤ 4000
theorem LoopB.no : LoopB noLoop := ⟨.nil, by simp, fun i => by simp, by simp⟩
end
section
variable {ar t : List Int} {rs : Rules} {p r : Int} {k : Nat}
end
section
variable {ar t u a b : List Int} {rs : Rules} {n : Int} {all : List FoundV} {ss xs : List StepV} {s : StepV} {k m : Nat}
def StepIn (ar : List Int) (rs : Rules) (all : List FoundV) : Prop := ∀ i, 0 < i → i < all.length → (EL all i).2.2.1 ∈ stepsL ar rs (EL all (EL all i).2.1.toNat).1
theorem StepIn.snoc {d : Int} (h : StepIn ar rs all) (hl : Link all) (hk : k < all.length) (hs : s ∈ stepsL ar rs (EL all k).1) : StepIn ar rs (all ++ [(s.2.2, (k : Int), s, d)]) := by
 intro i h0 hi
 rw [List.length_append, List.length_singleton] at hi
 rcases Nat.lt_or_ge i all.length with g | g
 ·have := hl.2 i h0 g
  rw [EL_snoc g, EL_snoc (by omega)]
  exact h i h0 g
 ·obtain rfl : i = all.length := by omega
  rw [EL_last]
  dsimp only
  rw [show ((k : Int)).toNat = k from by omega, EL_snoc hk]
  exact hs
end
section
variable {ar : List Int} {rs : Rules} {t f now : List Int} {ss acc : List StepL} {s : RowL} {k : Nat}
end
section
variable {ar f g : List Int} {rs : Rules} {xs ys : List StepV}
end
section
variable {ar t u f : List Int} {rs : Rules} {ss : List StepL} {st n : Int}
end
section
variable {ar t f u v w g A R : List Int} {rs : Rules} {p q r : Nat} {ss xs : List StepL}
theorem endN_go (ht : termOk ar t = true) (hp : p < t.length) : endGo ar (t.drop p) 1 = some (endN ar t p - p) := by
 obtain ⟨e, he, _⟩ := endAt_some ht hp
 have hN : endN ar t p = e := by simp [endN, he]
 unfold endAt at he
 cases hg : endGo ar (t.drop p) 1 with
 | none => rw [hg] at he; simp at he
 | some a => rw [hg] at he; simp at he; congr 1; omega
theorem endN_of {e : Nat} (h : endGo ar (t.drop p) 1 = some e) : endN ar t p = p + e := by simp [endN, endAt, h]
theorem in_drop (hq : q ≤ f.length) : (A ++ f ++ R).drop (A.length + q) = f.drop q ++ R := by
 rw [List.append_assoc, List.drop_length_add_append, List.drop_append_of_le_length hq]
theorem in_end (hf : termOk ar f = true) (hq : q < f.length) : endN ar (A ++ f ++ R) (A.length + q) = A.length + endN ar f q := by
 have h := endGo_more (b := R) (endN_go hf hq)
 rw [← in_drop (A := A) (by omega)] at h
 have := endN_spec hf hq
 rw [endN_of h]; omega
theorem in_sub (hf : termOk ar f = true) (hq : q < f.length) : sub ar (A ++ f ++ R) (A.length + q) = sub ar f q := by
 have := endN_spec hf hq
 unfold sub
 rw [in_end hf hq, in_drop (by omega), show A.length + endN ar f q - (A.length + q) = endN ar f q - q from by omega, List.take_append_of_le_length (by rw [List.length_drop]; omega)]
theorem sub_zero' (hg : termOk ar g = true) : sub ar g 0 = g := by
 have h : endGo ar (g.drop 0) 1 = some g.length := (termOk_iff.1 hg).whole
 unfold sub
 rw [endN_of h]
 simp
end
section
variable {ar t f u v w g : List Int} {rs : Rules} {p q r k n : Nat} {ss xs : List StepL} {s b b' : RowL}
theorem getD_zero_drop {l : List Int} {i : Nat} : l.getD i 0 = (l.drop i).getD 0 0 := by simp [List.getD]
end
section
variable {ar t f : List Int} {rs : Rules} {ss xs : List StepL} {k : Nat}
end
section
variable {f : List Int} {ss : List StepL} {s : StepL} {k : Nat}
def smallT (ss : List StepL) : Prop := ∀ i, (ss.getD i (0, 0, [])).2.2.length ≤ 2000
theorem smallT.nil : smallT [] := fun i => by simp
theorem smallT.snoc (h : smallT ss) (hs : s.2.2.length ≤ 2000) : smallT (ss ++ [s]) := fun i => by
 rcases Nat.lt_trichotomy i ss.length with g | g | g
 ·rw [List.getD_eq_getElem?_getD, List.getElem?_append_left g, ← List.getD_eq_getElem?_getD]; exact h i
 ·subst g; simpa [List.getD_eq_getElem?_getD] using hs
 ·rw [List.getD_eq_getElem?_getD, List.getElem?_eq_none (by simp; omega)]; simp
theorem smallT.set (h : smallT ss) (hs : s.2.2.length ≤ 2000) (k : Nat) : smallT (ss.set k s) := fun i => by
 by_cases e : k = i
 ·subst e
  rcases Nat.lt_or_ge k ss.length with g | g
  ·simpa [List.getD_eq_getElem?_getD, g] using hs
  ·rw [List.set_eq_of_length_le g]; exact h k
 ·rw [List.getD_eq_getElem?_getD, List.getElem?_set_ne e, ← List.getD_eq_getElem?_getD]; exact h i
theorem smallT.take (h : smallT ss) (k : Nat) : smallT (ss.take k) := fun i => by
 rcases Nat.lt_or_ge i k with g | g
 ·rw [List.getD_eq_getElem?_getD, List.getElem?_take, if_pos g, ← List.getD_eq_getElem?_getD]; exact h i
 ·rw [List.getD_eq_getElem?_getD, List.getElem?_take, if_neg (by omega)]; simp
theorem smallT.drop (h : smallT ss) (k : Nat) : smallT (ss.drop k) := fun i => by
 rw [List.getD_eq_getElem?_getD, List.getElem?_drop, ← List.getD_eq_getElem?_getD]; exact h _
end
section
variable {ar t p : List Int} {g g' b : RowL}
end
section
variable {ar t f : List Int} {rs : Rules} {n : Int} {all : List FoundV} {ss ys : List StepV} {p many : Int} {s : RowL}
def againOk (ar : List Int) (rs : Rules) (f : List Int) (ss : List StepV) (p : Int) (s : RowL) (many : Int) : Prop := (sysOk ar rs && loopOkL ar rs f ss p s) = true ∧ 1 ≤ many ∧ many ≤ 60 ∧ many * (ss.length : Int) ≤ 60
instance : Decidable (againOk ar rs f ss p s many) := by unfold againOk; infer_instance
section
variable {m : Nat}
end
end
section
variable {ar t p f A R Q : List Int} {g g' b : RowL} {a c k q m : Nat} {l : List Int}
theorem mGo_none_app {t : List Int} : ∀ (P : List Int) (i : Nat) (g : RowL), mGo ar t P i g = none → mGo ar t (P ++ Q) i g = none
 | [], i, g, h => by simp [mGo] at h
 | n :: P, i, g, h => by
  rw [List.cons_append, mGo]
  rw [mGo] at h
  split
  ·rfl
  ·rename_i hi
   rw [if_neg hi] at h
   split
   ·rename_i h0
    rw [if_pos h0] at h
    split
    ·rename_i he; rw [if_pos he] at h; exact mGo_none_app P _ _ h
    ·rfl
   ·rename_i h0
    rw [if_neg h0] at h
    split
    ·rename_i he; rw [if_pos he] at h; exact mGo_none_app P _ _ h
    ·rename_i he
     rw [if_neg he] at h
     split
     ·rename_i hq; rw [if_pos hq] at h; exact mGo_none_app P _ _ h
     ·rfl
theorem endGo_one (ht : termOk ar t = true) {i m e : Nat} (hi : i < t.length) (hE : endGo ar (t.drop i) (m + 1) = some e) : ∃ e2, endGo ar (t.drop (i + (sub ar t i).length)) m = some e2 ∧ e = (sub ar t i).length + e2 := by
 rw [Nat.add_comm m 1] at hE
 obtain ⟨e1, e2, h1, h2, rfl⟩ := endGo_split hE
 have hN : endN ar t i = i + e1 := endN_of h1
 have hSl : (sub ar t i).length = e1 := by rw [sub_length ht hi, hN, Nat.add_sub_cancel_left]
 rw [List.drop_drop] at h2
 exact ⟨e2, by rw [hSl]; exact h2, by rw [hSl]⟩
theorem endGo_sym {x : Int} {i m e : Nat} (hi : i < t.length) (hx : x < ar.length) (he : t.getD i 0 = x) (hE : endGo ar (t.drop i) (m + 1) = some e) : ∃ e1, endGo ar (t.drop (i + 1)) (m + (arity ar x).toNat) = some e1 ∧ e = e1 + 1 := by
 rw [endGo_step (show 0 < m + 1 by omega) hi (by rw [he]; exact hx), he, show m + 1 - 1 = m from rfl] at hE
 cases hq : endGo ar (t.drop (i + 1)) (m + (arity ar x).toNat) with
 | none => rw [hq] at hE; simp at hE
 | some e1 => rw [hq] at hE; simp at hE; exact ⟨e1, rfl, hE.symm⟩
theorem mGo_app (ht : termOk ar t = true) : ∀ (P : List Int) (n i e : Nat) (g g' : RowL), endGo ar P n = some P.length → endGo ar (t.drop i) n = some e → mGo ar t P i g = some g' → mGo ar t (P ++ Q) i g = mGo ar t Q (i + e) g'
 | [], n, i, e, g, g', hP, hE, h => by
  simp [mGo] at h; subst h
  cases n with
  | zero => simp [endGo] at hE; subst hE; rfl
  | succ n => simp [endGo] at hP
 | x :: P, n, i, e, g, g', hP, hE, h => by
  obtain ⟨m, rfl, hx⟩ := Forest.lt (ar := ar) (r := P) (x := x) hP
  have hF := (Forest.cons hx).1 hP
  rw [List.cons_append, mGo]
  rw [mGo] at h
  split at h
  ·cases h
  ·rename_i hi
   have hi2 : i < t.length := by omega
   rw [if_neg hi]
   split at h
   ·rename_i h0
    rw [if_pos h0]
    split at h
    ·rename_i he
     rw [if_pos he]
     obtain ⟨e1, h1, rfl⟩ := endGo_sym hi2 hx he hE
     rw [mGo_app ht P _ (i + 1) e1 g g' hF h1 h]
     congr 1; omega
    ·cases h
   ·rename_i h0
    rw [if_neg h0]
    rw [arity_var (by omega), show m + (0 : Int).toNat = m from rfl] at hF
    obtain ⟨e2, h1, rfl⟩ := endGo_one ht hi2 hE
    split at h
    ·rename_i he
     rw [if_pos he, mGo_app ht P m _ e2 _ g' hF h1 h, Nat.add_assoc]
    ·rename_i he
     rw [if_neg he]
     split at h
     ·rename_i hq
      rw [if_pos hq, mGo_app ht P m _ e2 _ g' hF h1 h, Nat.add_assoc]
     ·cases h
theorem mGo_loc (hf : termOk ar f = true) : ∀ (P : List Int) (n j : Nat) (g : RowL), endGo ar P n = some P.length → j ≤ f.length → endGo ar (f.drop j) n = some (f.length - j) → mGo ar (A ++ f ++ R) P (A.length + j) g = mGo ar f P j g
 | [], n, j, g, _, _, _ => by simp [mGo]
 | x :: P, n, j, g, hP, hj, hE => by
  obtain ⟨m, rfl, hx⟩ := Forest.lt (ar := ar) (r := P) (x := x) hP
  have hF := (Forest.cons hx).1 hP
  have hpos := endGo_pos hE
  have hj2 : j < f.length := by omega
  have hg : (A ++ f ++ R).getD (A.length + j) 0 = f.getD j 0 := by
   rw [getD_zero_drop, in_drop hj, drop_get 0 hj2]; rfl
  rw [mGo, mGo, if_neg (show ¬ (A ++ f ++ R).length ≤ A.length + j by simp only [List.length_append]; omega), if_neg (show ¬ f.length ≤ j by omega), hg, in_sub hf hj2]
  by_cases h0 : 0 ≤ x
  ·rw [if_pos h0, if_pos h0]
   by_cases he : f.getD j 0 = x
   ·rw [if_pos he, if_pos he]
    obtain ⟨e1, h1, h2⟩ := endGo_sym hj2 hx he hE
    exact mGo_loc hf P _ (j + 1) g hF (by omega) (by rw [h1]; congr 1; omega)
   ·rw [if_neg he, if_neg he]
  ·rw [if_neg h0, if_neg h0]
   rw [arity_var (by omega), show m + (0 : Int).toNat = m from rfl] at hF
   obtain ⟨e2, h1, h2⟩ := endGo_one hf hj2 hE
   have rec9 : ∀ g2, mGo ar (A ++ f ++ R) P (A.length + j + (sub ar f j).length) g2 = mGo ar f P (j + (sub ar f j).length) g2 := fun g2 => by
    rw [Nat.add_assoc]
    exact mGo_loc hf P m (j + (sub ar f j).length) g2 hF (by omega) (by rw [h1]; congr 1; omega)
   rw [rec9, rec9]
theorem mGo_sub (hp : termOk ar p = true) (ht : termOk ar t = true) (ha : a < p.length) (hc : c < t.length) : mGo ar t (sub ar p a) c g = mGo ar (sub ar t c) (sub ar p a) 0 g := by
 have h1 := (termOk_iff.1 (sub_ok hp ha)).whole
 have hs := sub_ok ht hc
 have h2 := (termOk_iff.1 hs).whole
 have hA : (t.take c).length = c := by rw [List.length_take]; omega
 have := mGo_loc (A := t.take c) (R := t.drop (endN ar t c)) hs (sub ar p a) 1 0 g h1 (Nat.zero_le _) (by rw [List.drop_zero, Nat.sub_zero]; exact h2)
 rw [← parts ht hc, hA, Nat.add_zero] at this
 exact this
theorem drop_sub (hp : termOk ar p = true) (ha : a < p.length) : p.drop a = sub ar p a ++ p.drop (endN ar p a) := by
 have he := endN_spec hp ha
 have h : p.drop (endN ar p a) = (p.drop a).drop (endN ar p a - a) := by rw [List.drop_drop]; congr 1; omega
 unfold sub
 rw [h, List.take_append_drop]
theorem mGo_argN (hp : termOk ar p = true) (ht : termOk ar t = true) (ha : a < p.length) (hc : c < t.length) (h : (mGo ar (sub ar t c) (sub ar p a) 0 g).isSome = false) : mGo ar t (p.drop a) c g = none := by
 rw [drop_sub hp ha]
 refine mGo_none_app _ _ _ ?_
 rw [mGo_sub hp ht ha hc]
 cases hx : mGo ar (sub ar t c) (sub ar p a) 0 g with
 | none => rfl
 | some v => rw [hx] at h; cases h
theorem mGo_argS (hp : termOk ar p = true) (ht : termOk ar t = true) (ha : a < p.length) (hc : c < t.length) (h : mGo ar (sub ar t c) (sub ar p a) 0 g = some g') : mGo ar t (p.drop a) c g = mGo ar t (p.drop (endN ar p a)) (endN ar t c) g' := by
 have he := endN_spec ht hc
 rw [drop_sub hp ha, mGo_app ht (sub ar p a) 1 c (endN ar t c - c) g g' (termOk_iff.1 (sub_ok hp ha)).whole (endN_go ht hc) (by rw [mGo_sub hp ht ha hc]; exact h)]
 congr 1; omega
def ArgAt (ar p : List Int) (k m q : Nat) : Prop := (∃ os : List Int, os.length = k ∧ argsL ar p 0 = os ++ argsGo ar p m q) ∧ Stand ar p m q p.length
theorem ArgAt.start (hp : termOk ar p = true) : ArgAt ar p 0 (argsL ar p 0).length 1 := by
 have hl := termOk_len hp
 have h := stand_start hp (p := 0) (by omega)
 have hN : endN ar p 0 = p.length := by rw [endN_of (by rw [List.drop_zero]; exact (termOk_iff.1 hp).whole), Nat.zero_add]
 rw [hN] at h
 rw [argsL_len]
 exact ⟨⟨[], rfl, rfl⟩, h⟩
theorem ArgAt.next (hp : termOk ar p = true) (h : ArgAt ar p k (m + 1) q) : (argsL ar p 0).getD k 0 = (q : Int) ∧ q < p.length ∧ ArgAt ar p (k + 1) m (endN ar p q) := by
 obtain ⟨⟨os, h1, h2⟩, h3⟩ := h
 obtain ⟨s1, s2, s3, s4⟩ := stand_step hp h3
 refine ⟨?_, s1, ⟨os ++ [(q : Int)], by simp [h1], by rw [h2, argsGo]; simp⟩, s2⟩
 rw [h2, argsGo, List.getD_eq_getElem?_getD, List.getElem?_append_right (by omega), h1, Nat.sub_self]
 rfl
theorem ArgAt.done (h : ArgAt ar p k 0 q) : q = p.length := by
 have := h.2.1
 simp [endGo] at this
 have := h.2.2
 omega
end
section
variable {ar t u v f : List Int} {rs es : Rules} {g g' b : RowL} {ss : List StepV}
def Under (g b : RowL) : Prop := g.length = 24 ∧ ∀ k, g.getD k [] = [] ∨ g.getD k [] = b.getD k []
theorem Under.refl (h : b.length = 24) : Under b b := ⟨h, fun k => .inr rfl⟩
theorem Under.nil : Under (List.replicate 24 []) b := ⟨by simp, fun k => .inl (by rw [List.getD_eq_getElem?_getD, List.getElem?_replicate]; split <;> simp)⟩
def moveIn (es : Rules) (t : List Int) (m : MoveV) : Prop := (0 ≤ m.1 ∧ m.1 < (es.length : Int)) ∧ 0 ≤ m.2.1 ∧ m.2.1 < (t.length : Int)
instance (es : Rules) (t : List Int) (m : MoveV) : Decidable (moveIn es t m) := by unfold moveIn; infer_instance
end
section
variable {ar t p f u : List Int} {g g' : RowL} {rs : Rules} {ss : List StepV} {a qa qb k m : Nat} {n : Int}
theorem term_one (hp : termOk ar p = true) (h : p.getD 0 0 < 0) : p = [p.getD 0 0] := by
 have h1 := (termOk_iff.1 hp).whole
 have hl := termOk_len hp
 cases p with
 | nil => simp at hl
 | cons x r =>
  have hx : x < 0 := by simpa using h
  obtain ⟨m, hm, hx2⟩ := Forest.lt (ar := ar) (r := r) (x := x) (n := 1) h1
  obtain rfl : m = 0 := by omega
  have hF := (Forest.cons hx2).1 h1
  rw [arity_var hx] at hF
  cases r with
  | nil => rfl
  | cons y s => simp [Forest, endGo] at hF
theorem mGo_var (hp : termOk ar p = true) (ht : termOk ar t = true) (h : p.getD 0 0 < 0) : mGo ar t p 0 g = if g.getD (varIx (p.getD 0 0)) [] = [] then some (g.set (varIx (p.getD 0 0)) t) else if g.getD (varIx (p.getD 0 0)) [] = t then some g else none := by
 have hl := termOk_len ht
 rw [show mGo ar t p 0 g = mGo ar t [p.getD 0 0] 0 g from by rw [← term_one hp h], mGo, if_neg (by omega), if_neg (by omega), sub_zero' ht]
 rfl
theorem mGo_symN (hp : termOk ar p = true) (h : 0 ≤ p.getD 0 0) (hd : p.getD 0 0 ≠ t.getD 0 0) : mGo ar t p 0 g = none := by
 have hl := termOk_len hp
 rw [show p = p.drop 0 from rfl, drop_get 0 (by omega), mGo]
 split
 ·rfl
 ·first | rw [if_neg (fun e => hd e.symm)] | rw [if_pos h, if_neg (fun e => hd e.symm)]
theorem mGo_symS (hp : termOk ar p = true) (ht : termOk ar t = true) (h : 0 ≤ p.getD 0 0) (hd : p.getD 0 0 = t.getD 0 0) : mGo ar t p 0 g = mGo ar t (p.drop 1) 1 g := by
 have hl := termOk_len hp
 have hl2 := termOk_len ht
 have e : p = p.getD 0 0 :: p.drop 1 := drop_get (l := p) (k := 0) 0 (by omega)
 rw [show mGo ar t p 0 g = mGo ar t (p.getD 0 0 :: p.drop 1) 0 g from congrArg (fun z => mGo ar t z 0 g) e, mGo, if_neg (by omega), if_pos h, if_pos hd.symm]
theorem opt_is {x : Option RowL} (h : x.isSome = true) (h2 : ∀ r, x = some r → g = r) : x = some g := by
 cases x with
 | none => cases h
 | some v => rw [h2 v rfl]
theorem argAt_less {q : Nat} (hp : termOk ar p = true) (hq : q < p.length) (h1 : 1 ≤ q) : (sub ar p q).length < p.length := by
 have h2 := sub_length hp hq
 have h3 := endN_spec hp hq
 omega
end
abbrev CR := List Int × List Int × Rules
section
variable {ar t p : List Int} {us : RowL} {cs : Rules} {k : Nat}
def knownL (t : List Int) (us : RowL) : Bool := t.all fun n => decide (0 ≤ n) || us.any (fun u => decide (n ∈ u))
def cOkGo (ar : List Int) : RowL → Rules → Option RowL
 | us, [] => some us
 | us, c :: cs => if (eqOkL ar c && knownL c.1 us) = true then cOkGo ar (us ++ [c.2]) cs else none
def cruleOk (ar : List Int) (r : CR) : Bool := (termOk ar r.1 && termOk ar r.2.1) && decide (0 ≤ r.1.getD 0 0 ∧ r.2.2.length ≤ 2) && (match cOkGo ar [r.1] r.2.2 with | some us => knownL r.2.1 us | none => false)
def csysOk (ar : List Int) (cr : List CR) : Bool := sigOk ar && decide (cr.length ≤ 12) && cr.all (cruleOk ar)
theorem cOk_end (h : cs.length ≤ k) : cOkGo ar us (cs.drop k) = some us := by rw [List.drop_eq_nil_of_le h]; rfl
theorem cOk_next (hk : k < cs.length) (h1 : eqOkL ar (cs.getD k ([], [])) = true) (h2 : knownL (cs.getD k ([], [])).1 us = true) : cOkGo ar us (cs.drop k) = cOkGo ar (us ++ [(cs.getD k ([], [])).2]) (cs.drop (k + 1)) := by
 rw [drop_get ([], []) hk, cOkGo, if_pos (by rw [h1, h2]; rfl)]
theorem cOk_fail (hk : k < cs.length) (h : eqOkL ar (cs.getD k ([], [])) = false ∨ knownL (cs.getD k ([], [])).1 us = false) : cOkGo ar us (cs.drop k) = none := by
 rw [drop_get ([], []) hk, cOkGo, if_neg]
 rcases h with h | h <;> rw [h] <;> simp
theorem cOkGo_all : ∀ (cs : Rules) (us vs : RowL), cOkGo ar us cs = some vs → (∀ i, i < cs.length → termOk ar (cs.getD i ([], [])).1 = true ∧ termOk ar (cs.getD i ([], [])).2 = true) ∧ vs.length = us.length + cs.length
 | [], us, vs, h => by simp [cOkGo] at h; subst h; exact ⟨fun i hi => by simp at hi, rfl⟩
 | c :: cs, us, vs, h => by
  rw [cOkGo] at h
  split at h
  ·rename_i hc
   simp only [Bool.and_eq_true] at hc
   obtain ⟨h1, h2⟩ := cOkGo_all cs _ _ h
   refine ⟨fun i hi => ?_, by rw [h2]; simp; omega⟩
   cases i with
   | zero => have := hc.1; simp only [eqOkL, Bool.and_eq_true] at this; simpa using this
   | succ i => simpa using h1 i (by simpa using hi)
  ·cases h
structure CRuleOk (ar : List Int) (r : CR) : Prop where
 left : termOk ar r.1 = true
 right : termOk ar r.2.1 = true
 head : 0 ≤ r.1.getD 0 0
 len : r.2.2.length ≤ 2
 conds : ∀ i, i < r.2.2.length → termOk ar (r.2.2.getD i ([], [])).1 = true ∧ termOk ar (r.2.2.getD i ([], [])).2 = true
theorem cruleOk_facts {r : CR} (h : cruleOk ar r = true) : CRuleOk ar r := by
 simp only [cruleOk, Bool.and_eq_true, decide_eq_true_eq] at h
 obtain ⟨⟨⟨h1, h2⟩, h3, h4⟩, h5⟩ := h
 refine ⟨h1, h2, h3, h4, ?_⟩
 cases hc : cOkGo ar [r.1] r.2.2 with
 | none => rw [hc] at h5; cases h5
 | some us => exact (cOkGo_all _ _ _ hc).1
theorem csysOk_iff {cr : List CR} : csysOk ar cr = true ↔ sigOk ar = true ∧ cr.length ≤ 12 ∧ ∀ i, i < cr.length → cruleOk ar (cr.getD i ([], [], [])) = true := by
 simp only [csysOk, Bool.and_eq_true, decide_eq_true_eq, all_getD_iff (([], [], []) : CR), and_assoc]
theorem csysOk_at {cr : List CR} (h : csysOk ar cr = true) {i : Nat} (hi : i < cr.length) : CRuleOk ar (cr.getD i ([], [], [])) := cruleOk_facts ((csysOk_iff.1 h).2.2 i hi)
end
section
def condGo (nf : List Int → Option (List Int)) (ar : List Int) : RowL → Rules → Option RowL
 | b, [] => some b
 | b, c :: cs => match fillL b c.1 with
  | none => none
  | some u => match nf u with
   | none => none
   | some w => match mGo ar w c.2 0 b with
    | none => none
    | some b' => condGo nf ar b' cs
def givenC (nf : List Int → Option (List Int)) (d0 : Bool) (ar u : List Int) (r : CR) : Option RowL := match matchB ar r.1 u with
 | none => none
 | some b => if d0 = true ∧ 0 < r.2.2.length then none else condGo nf ar b r.2.2
def stepCF (nf : List Int → Option (List Int)) (d0 : Bool) (ar : List Int) (cr : List CR) (t : List Int) (p k : Nat) : Option (List Int) := match givenC nf d0 ar (sub ar t p) (cr.getD k ([], [], [])) with
 | none => none
 | some b => match fillL b (cr.getD k ([], [], [])).2.1 with
  | none => none
  | some u => putL ar t p u
def ruleCGo (nf : List Int → Option (List Int)) (d0 : Bool) (ar : List Int) (cr : List CR) (t : List Int) (p : Nat) : Nat → Nat → Int
 | 0, _ => -1
 | n + 1, k => if (stepCF nf d0 ar cr t p k).isSome = true then (k : Int) else ruleCGo nf d0 ar cr t p n (k + 1)
def ruleC (nf : List Int → Option (List Int)) (d0 : Bool) (ar : List Int) (cr : List CR) (t : List Int) (p : Nat) : Int := ruleCGo nf d0 ar cr t p cr.length 0
def inmC (nf : List Int → Option (List Int)) (d0 : Bool) (ar : List Int) (cr : List CR) (t : List Int) (p : Nat) : Prop := 0 ≤ ruleC nf d0 ar cr t p ∧ ∀ q, p < q → q < endN ar t p → ruleC nf d0 ar cr t q < 0
open Classical in
noncomputable def pickC (nf : List Int → Option (List Int)) (d0 : Bool) (ar : List Int) (cr : List CR) (t : List Int) : Nat := if h : ∃ p, p < t.length ∧ inmC nf d0 ar cr t p ∧ ∀ q, q < p → ¬ inmC nf d0 ar cr t q then Classical.choose h else t.length
noncomputable def normGoC (nf : List Int → Option (List Int)) (d0 : Bool) (ar : List Int) (cr : List CR) : Nat → List Int → Option (List Int)
 | m, t => if pickC nf d0 ar cr t = t.length then some t else match m with
  | 0 => none
  | m + 1 => normGoC nf d0 ar cr m ((stepCF nf d0 ar cr t (pickC nf d0 ar cr t) (ruleC nf d0 ar cr t (pickC nf d0 ar cr t)).toNat).getD [])
noncomputable def normC (ar : List Int) (cr : List CR) : Nat → List Int → Option (List Int)
 | 0 => normGoC (fun _ => none) true ar cr 8
 | d + 1 => normGoC (normC ar cr d) false ar cr 8
noncomputable def nfC (ar : List Int) (cr : List CR) : Nat → List Int → Option (List Int)
 | 0 => fun _ => none
 | d + 1 => normC ar cr d
theorem normC_eq (ar : List Int) (cr : List CR) (d : Nat) : normC ar cr d = normGoC (nfC ar cr d) (decide (d = 0)) ar cr 8 := by cases d <;> rfl
variable {nf : List Int → Option (List Int)} {d0 : Bool} {ar t u w : List Int} {cr : List CR} {cs : Rules} {b b' : RowL} {p k m : Nat}
theorem condGo_end (h : cs.length ≤ k) : condGo nf ar b (cs.drop k) = some b := by rw [List.drop_eq_nil_of_le h]; rfl
theorem condGo_nofill (hk : k < cs.length) (h : (fillL b (cs.getD k ([], [])).1).isSome = false) : condGo nf ar b (cs.drop k) = none := by
 rw [drop_get ([], []) hk, condGo]
 cases hf : fillL b (cs.getD k ([], [])).1 with
 | none => rfl
 | some u => rw [hf] at h; cases h
theorem condGo_nonorm (hk : k < cs.length) (hf : (fillL b (cs.getD k ([], [])).1).isSome = true) (h : (nf ((fillL b (cs.getD k ([], [])).1).getD [])).isSome = false) : condGo nf ar b (cs.drop k) = none := by
 rw [drop_get ([], []) hk, condGo]
 cases hf2 : fillL b (cs.getD k ([], [])).1 with
 | none => rfl
 | some u =>
  rw [hf2] at h
  simp only [Option.getD_some] at h
  simp only
  cases hn : nf u with
  | none => rfl
  | some w => rw [hn] at h; cases h
theorem condGo_match (hk : k < cs.length) (hf : (fillL b (cs.getD k ([], [])).1).isSome = true) (h : (nf ((fillL b (cs.getD k ([], [])).1).getD [])).isSome = true) :
  condGo nf ar b (cs.drop k) = match mGo ar ((nf ((fillL b (cs.getD k ([], [])).1).getD [])).getD []) (cs.getD k ([], [])).2 0 b with | none => none | some b' => condGo nf ar b' (cs.drop (k + 1)) := by
 rw [drop_get ([], []) hk, condGo]
 cases hf2 : fillL b (cs.getD k ([], [])).1 with
 | none => rw [hf2] at hf; cases hf
 | some u =>
  rw [hf2] at h
  simp only [Option.getD_some] at h
  simp only [Option.getD_some]
  cases hn : nf u with
  | none => rw [hn] at h; cases h
  | some w => rfl
theorem condGo_nomatch (hk : k < cs.length) (hf : (fillL b (cs.getD k ([], [])).1).isSome = true) (h : (nf ((fillL b (cs.getD k ([], [])).1).getD [])).isSome = true) (hm : (mGo ar ((nf ((fillL b (cs.getD k ([], [])).1).getD [])).getD []) (cs.getD k ([], [])).2 0 b).isSome = false) : condGo nf ar b (cs.drop k) = none := by
 rw [condGo_match hk hf h]
 cases hg : mGo ar ((nf ((fillL b (cs.getD k ([], [])).1).getD [])).getD []) (cs.getD k ([], [])).2 0 b with
 | none => rfl
 | some b' => rw [hg] at hm; cases hm
theorem condGo_next (hk : k < cs.length) (hf : (fillL b (cs.getD k ([], [])).1).isSome = true) (h : (nf ((fillL b (cs.getD k ([], [])).1).getD [])).isSome = true) (hm : mGo ar ((nf ((fillL b (cs.getD k ([], [])).1).getD [])).getD []) (cs.getD k ([], [])).2 0 b = some b') : condGo nf ar b (cs.drop k) = condGo nf ar b' (cs.drop (k + 1)) := by
 rw [condGo_match hk hf h, hm]
theorem condGo_ok (hn : ∀ u w, termOk ar u = true → nf u = some w → termOk ar w = true) : ∀ (cs : Rules) (b b' : RowL), (∀ i, i < cs.length → termOk ar (cs.getD i ([], [])).1 = true ∧ termOk ar (cs.getD i ([], [])).2 = true) → RowsOk ar b → condGo nf ar b cs = some b' → RowsOk ar b'
 | [], b, b', _, hb, h => by simp [condGo] at h; subst h; exact hb
 | c :: cs, b, b', hc, hb, h => by
  rw [condGo] at h
  have h0 := hc 0 (by simp)
  simp only [List.getD_cons_zero] at h0
  split at h
  ·cases h
  ·rename_i u hu
   split at h
   ·cases h
   ·rename_i w hw
    split at h
    ·cases h
    ·rename_i b2 hb2
     exact condGo_ok hn cs b2 b' (fun i hi => by simpa using hc (i + 1) (by simpa using hi)) (mGo_ok (hn _ _ (fill_ok hb h0.1 hu) hw) _ _ _ _ hb2 hb) h
theorem givenC_ok (hn : ∀ u w, termOk ar u = true → nf u = some w → termOk ar w = true) {r : CR} (hr : CRuleOk ar r) (hu : termOk ar u = true) (h : givenC nf d0 ar u r = some b) : RowsOk ar b := by
 unfold givenC at h
 split at h
 ·cases h
 ·rename_i b0 hb0
  split at h
  ·cases h
  ·exact condGo_ok hn _ _ _ hr.conds (matchB_ok hu hb0) h
theorem stepCF_ok (hn : ∀ u w, termOk ar u = true → nf u = some w → termOk ar w = true) (hc : csysOk ar cr = true) (ht : termOk ar t = true) (hp : p < t.length) (hk : k < cr.length) (h : stepCF nf d0 ar cr t p k = some u) : termOk ar u = true := by
 unfold stepCF at h
 split at h
 ·cases h
 ·rename_i b hb
  split at h
  ·cases h
  ·rename_i v hv
   have hr := csysOk_at hc hk
   exact put_ok ht hp (fill_ok (givenC_ok hn hr (sub_ok ht hp) hb) hr.right hv) h
theorem stepCF_var (hc : csysOk ar cr = true) (ht : termOk ar t = true) (hp : p < t.length) (hv : t.getD p 0 < 0) (hk : k < cr.length) : stepCF nf d0 ar cr t p k = none := by
 have hr := csysOk_at hc hk
 have hl := termOk_len hr.left
 have hs := sub_head ht hp
 have hsl := termOk_len (sub_ok ht hp)
 have : matchB ar (cr.getD k ([], [], [])).1 (sub ar t p) = none := by
  unfold matchB
  have := mGo_ne (ar := ar) (t := sub ar t p) (p := (cr.getD k ([], [], [])).1) (k := 0) (i := 0) (b := List.replicate 24 []) (by omega) (by omega) hr.head (by have := hr.head; rw [hs]; omega)
  simpa using this
 unfold stepCF givenC
 rw [this]
theorem ruleC_hit (hr : k < cr.length) (h : (stepCF nf d0 ar cr t p k).isSome = true) : ruleCGo nf d0 ar cr t p (cr.length - k) k = k := by
 rw [show cr.length - k = (cr.length - (k + 1)) + 1 from by omega, ruleCGo, if_pos h]
theorem ruleC_miss (hr : k < cr.length) (h : (stepCF nf d0 ar cr t p k).isSome = false) : ruleCGo nf d0 ar cr t p (cr.length - k) k = ruleCGo nf d0 ar cr t p (cr.length - (k + 1)) (k + 1) := by
 rw [show cr.length - k = (cr.length - (k + 1)) + 1 from by omega, ruleCGo, if_neg (by rw [h]; simp)]
theorem ruleC_end (hr : cr.length ≤ k) : ruleCGo nf d0 ar cr t p (cr.length - k) k = -1 := by rw [show cr.length - k = 0 from by omega]; rfl
theorem ruleCGo_spec : ∀ (n r : Nat), ruleCGo nf d0 ar cr t p n r = -1 ∨ ∃ k : Nat, ruleCGo nf d0 ar cr t p n r = k ∧ r ≤ k ∧ k < r + n ∧ (stepCF nf d0 ar cr t p k).isSome = true
 | 0, r => .inl rfl
 | n + 1, r => by
  rw [ruleCGo]
  split
  ·rename_i h; exact .inr ⟨r, rfl, Nat.le_refl _, by omega, h⟩
  ·rcases ruleCGo_spec n (r + 1) with h | ⟨k, h1, h2, h3, h4⟩
   ·exact .inl h
   ·exact .inr ⟨k, h1, by omega, by omega, h4⟩
theorem ruleC_spec : ruleC nf d0 ar cr t p = -1 ∨ ∃ k : Nat, ruleC nf d0 ar cr t p = k ∧ k < cr.length ∧ (stepCF nf d0 ar cr t p k).isSome = true := by
 rcases ruleCGo_spec (nf := nf) (d0 := d0) (ar := ar) (cr := cr) (t := t) (p := p) cr.length 0 with h | ⟨k, h1, _, h3, h4⟩
 ·exact .inl h
 ·exact .inr ⟨k, h1, by omega, h4⟩
theorem ruleC_var (hc : csysOk ar cr = true) (ht : termOk ar t = true) (hp : p < t.length) (hv : t.getD p 0 < 0) : ruleC nf d0 ar cr t p = -1 := by
 rcases ruleC_spec (nf := nf) (d0 := d0) (ar := ar) (cr := cr) (t := t) (p := p) with h | ⟨k, _, h2, h3⟩
 ·exact h
 ·rw [stepCF_var hc ht hp hv h2] at h3; cases h3
theorem endN_nestC (ht : termOk ar t = true) {q : Nat} (hp : p < t.length) (h1 : p < q) (h2 : q < endN ar t p) : endN ar t q ≤ endN ar t p := by
 have hpe := endN_spec ht hp
 have hq := endN_spec ht (show q < t.length by omega)
 obtain ⟨e, he, _⟩ := endAt_some ht hp
 have hN : endN ar t p = e := by simp [endN, he]
 obtain ⟨e2, he2, _⟩ := endAt_some ht (show q < t.length by omega)
 have hN2 : endN ar t q = e2 := by simp [endN, he2]
 unfold endAt at he he2
 cases hg : endGo ar (t.drop p) 1 with
 | none => rw [hg] at he; simp at he
 | some a =>
  rw [hg] at he; simp at he
  obtain ⟨j, hj⟩ := endGo_at hg (q - p) (by omega)
  rw [List.drop_drop, show p + (q - p) = q from by omega, Nat.add_comm j 1] at hj
  obtain ⟨e3, e4, h3, _, h5⟩ := endGo_split hj
  rw [h3] at he2; simp at he2
  omega
theorem pickC_eq {lo : Nat} (h1 : lo = t.length ∨ lo < t.length ∧ inmC nf d0 ar cr t lo) (h2 : ∀ q, q < lo → ¬ inmC nf d0 ar cr t q) : pickC nf d0 ar cr t = lo := by
 unfold pickC
 split
 ·rename_i h
  obtain ⟨a, b, c⟩ := Classical.choose_spec h
  generalize Classical.choose h = x at a b c
  rcases Nat.lt_trichotomy x lo with g | g | g
  ·exact absurd b (h2 x g)
  ·exact g
  ·rcases h1 with h1 | h1
   ·omega
   ·exact absurd h1.2 (c lo g)
 ·rename_i h
  rcases h1 with h1 | h1
  ·exact h1.symm
  ·exact absurd ⟨lo, h1.1, h1.2, h2⟩ h
theorem pickC_spec : pickC nf d0 ar cr t = t.length ∧ (∀ q, q < t.length → ¬ inmC nf d0 ar cr t q) ∨ pickC nf d0 ar cr t < t.length ∧ inmC nf d0 ar cr t (pickC nf d0 ar cr t) := by
 unfold pickC
 split
 ·rename_i h
  obtain ⟨a, b, c⟩ := Classical.choose_spec h
  exact .inr ⟨a, b⟩
 ·rename_i h
  refine .inl ⟨rfl, fun q => ?_⟩
  induction q using Nat.strongRecOn with
  | _ q ih =>
   intro hq hi
   exact h ⟨q, hq, hi, fun q2 h2 => ih q2 h2 (by omega)⟩
theorem pickC_le : pickC nf d0 ar cr t ≤ t.length := by rcases pickC_spec (nf := nf) (d0 := d0) (ar := ar) (cr := cr) (t := t) with h | h <;> omega
def Low (nf : List Int → Option (List Int)) (d0 : Bool) (ar : List Int) (cr : List CR) (t : List Int) (j lo : Nat) : Prop := (lo = t.length ∨ lo < t.length ∧ inmC nf d0 ar cr t lo) ∧ j ≤ lo ∧ ∀ q, j ≤ q → q < lo → ¬ inmC nf d0 ar cr t q
theorem Low.start : Low nf d0 ar cr t t.length t.length := ⟨.inl rfl, Nat.le_refl _, fun q h1 h2 => by omega⟩
theorem Low.skip {j lo : Nat} (h : Low nf d0 ar cr t (j + 1) lo) (hn : ¬ inmC nf d0 ar cr t j) : Low nf d0 ar cr t j lo := ⟨h.1, by have := h.2.1; omega, fun q h1 h2 => (Nat.eq_or_lt_of_le h1).elim (fun e => e ▸ hn) (fun g => h.2.2 q g h2)⟩
theorem Low.cover {j lo : Nat} (ht : termOk ar t = true) (hj : j < t.length) (h : Low nf d0 ar cr t (j + 1) lo) (he : lo < endN ar t j) : Low nf d0 ar cr t j lo := by
 refine h.skip (fun hi => ?_)
 have hee := endN_spec ht hj
 rcases h.1 with h1 | h1
 ·omega
 ·have := hi.2 lo (by have := h.2.1; omega) he
  have := h1.2.1
  omega
theorem Low.rule {j lo : Nat} (h : Low nf d0 ar cr t (j + 1) lo) (hr : ruleC nf d0 ar cr t j < 0) : Low nf d0 ar cr t j lo := h.skip (fun hi => by have := hi.1; omega)
theorem Low.take {j lo : Nat} (ht : termOk ar t = true) (hj : j < t.length) (h : Low nf d0 ar cr t (j + 1) lo) (he : ¬ lo < endN ar t j) (hr : 0 ≤ ruleC nf d0 ar cr t j) : Low nf d0 ar cr t j j := by
 refine ⟨.inr ⟨hj, hr, ?_⟩, Nat.le_refl _, fun q h1 h2 => by omega⟩
 have hee := endN_spec ht hj
 -- from the last place of the term on
 have key : ∀ n q, q + n = endN ar t j → j < q → q < endN ar t j → ruleC nf d0 ar cr t q < 0 := by
  intro n
  induction n using Nat.strongRecOn with
  | _ n ih =>
   intro q hq hjq hlt
   refine Classical.byContradiction fun hc => ?_
   have hn := endN_nestC ht hj hjq hlt
   exact h.2.2 q (by omega) (by omega) ⟨by omega, fun q2 h1 h2 => ih (endN ar t j - q2) (by omega) q2 (by omega) (by omega) (by omega)⟩
 exact fun q h1 h2 => key (endN ar t j - q) q (by omega) h1 h2
theorem Low.done {lo : Nat} (h : Low nf d0 ar cr t 0 lo) : pickC nf d0 ar cr t = lo := pickC_eq h.1 (fun q hq => h.2.2 q (Nat.zero_le _) hq)
theorem normGo_nil (h : pickC nf d0 ar cr t = t.length) : normGoC nf d0 ar cr m t = some t := by
 cases m <;> (unfold normGoC; rw [if_pos h])
theorem normGo_zero (h : pickC nf d0 ar cr t ≠ t.length) : normGoC nf d0 ar cr 0 t = none := by unfold normGoC; rw [if_neg h]
theorem normGo_next (h : pickC nf d0 ar cr t ≠ t.length) : normGoC nf d0 ar cr (m + 1) t = normGoC nf d0 ar cr m ((stepCF nf d0 ar cr t (pickC nf d0 ar cr t) (ruleC nf d0 ar cr t (pickC nf d0 ar cr t)).toNat).getD []) := by
 conv => lhs; unfold normGoC
 rw [if_neg h]
theorem pickC_step (h : pickC nf d0 ar cr t ≠ t.length) : pickC nf d0 ar cr t < t.length ∧ 0 ≤ ruleC nf d0 ar cr t (pickC nf d0 ar cr t) ∧ (ruleC nf d0 ar cr t (pickC nf d0 ar cr t)).toNat < cr.length ∧ ∃ u, stepCF nf d0 ar cr t (pickC nf d0 ar cr t) (ruleC nf d0 ar cr t (pickC nf d0 ar cr t)).toNat = some u := by
 rcases pickC_spec (nf := nf) (d0 := d0) (ar := ar) (cr := cr) (t := t) with h1 | ⟨h1, h2⟩
 ·exact absurd h1.1 h
 ·have := h2.1
  rcases ruleC_spec (nf := nf) (d0 := d0) (ar := ar) (cr := cr) (t := t) (p := pickC nf d0 ar cr t) with g | ⟨k, g1, g2, g3⟩
  ·omega
  ·rw [g1]
   exact ⟨h1, by omega, by omega, by rw [show ((k : Nat) : Int).toNat = k from by omega]; exact Option.isSome_iff_exists.1 g3⟩
theorem normGo_ok (hn : ∀ u w, termOk ar u = true → nf u = some w → termOk ar w = true) (hc : csysOk ar cr = true) : ∀ (m : Nat) (t w : List Int), termOk ar t = true → normGoC nf d0 ar cr m t = some w → termOk ar w = true
 | 0, t, w, ht, h => by
  by_cases hp : pickC nf d0 ar cr t = t.length
  ·rw [normGo_nil hp] at h; cases h; exact ht
  ·rw [normGo_zero hp] at h; cases h
 | m + 1, t, w, ht, h => by
  by_cases hp : pickC nf d0 ar cr t = t.length
  ·rw [normGo_nil hp] at h; cases h; exact ht
  ·rw [normGo_next hp] at h
   obtain ⟨h1, h2, h3, u, hu⟩ := pickC_step hp
   rw [hu] at h
   exact normGo_ok hn hc m u w (stepCF_ok hn hc ht h1 h3 hu) h
theorem normC_ok (hc : csysOk ar cr = true) : ∀ (d : Nat) (t w : List Int), termOk ar t = true → normC ar cr d t = some w → termOk ar w = true
 | 0, t, w, ht, h => normGo_ok (fun u w _ h => by cases h) hc 8 t w ht h
 | d + 1, t, w, ht, h => normGo_ok (fun u w hu h => normC_ok hc d u w hu h) hc 8 t w ht h
theorem nfC_ok (hc : csysOk ar cr = true) (d : Nat) (t w : List Int) (ht : termOk ar t = true) (h : nfC ar cr d t = some w) : termOk ar w = true := by
 cases d with
 | zero => cases h
 | succ d => exact normC_ok hc d t w ht h
end
section
variable {ar t p vs ws : List Int} {us : RowL} {cs : Rules} {k : Nat}
def VSet (us : RowL) (vs : List Int) : Prop := ∀ y : Int, y ∈ vs ↔ 0 ≤ y ∧ ∃ u ∈ us, (-1 - y) ∈ u
def IntoS (xs os : List Int) (n : Int) : Prop := ∀ y : Int, y ∈ os ↔ y ∈ xs ∨ y = n
def WithS (vs ws t : List Int) : Prop := ∀ y : Int, y ∈ ws ↔ y ∈ vs ∨ (0 ≤ y ∧ (-1 - y) ∈ t)
theorem VSet.nil : VSet [] [] := fun y => by simp
theorem VSet.snoc (h : VSet us vs) (hw : WithS vs ws t) : VSet (us ++ [t]) ws := fun y => by
 rw [hw y, h y]
 constructor
 ·rintro (⟨h1, u, h2, h3⟩ | ⟨h1, h2⟩)
  ·exact ⟨h1, u, List.mem_append_left _ h2, h3⟩
  ·exact ⟨h1, t, by simp, h2⟩
 ·rintro ⟨h1, u, h2, h3⟩
  rcases List.mem_append.1 h2 with h2 | h2
  ·exact .inl ⟨h1, u, h2, h3⟩
  ·obtain rfl := List.mem_singleton.1 h2; exact .inr ⟨h1, h3⟩
theorem VSet.one (hw : WithS [] ws t) : VSet [t] ws := VSet.nil.snoc hw
theorem IntoS.has {xs : List Int} {n : Int} (h : n ∈ xs) : IntoS xs xs n := fun y => ⟨.inl, fun h2 => h2.elim id (fun e => e ▸ h)⟩
theorem IntoS.ins {xs : List Int} {n : Int} (k : Nat) : IntoS xs (xs.take k ++ [n] ++ xs.drop k) n := fun y => by
 have e : xs.take k ++ xs.drop k = xs := List.take_append_drop k xs
 constructor
 ·intro h
  simp only [List.mem_append, List.mem_singleton] at h
  rcases h with (h | h) | h
  ·exact .inl (List.mem_of_mem_take h)
  ·exact .inr h
  ·exact .inl (List.mem_of_mem_drop h)
 ·rintro (h | h)
  ·rw [← e] at h
   simp only [List.mem_append] at h ⊢
   rcases h with h | h
   ·exact .inl (.inl h)
   ·exact .inr h
  ·simp [h]
theorem WithS.start : WithS vs vs (t.take 0) := fun y => by simp
theorem WithS.skip (h : WithS vs ws (t.take k)) (hk : k < t.length) (h0 : ¬ t.getD k 0 < 0) : WithS vs ws (t.take (k + 1)) := fun y => by
 rw [h y, take_succ_getD 0 hk]
 simp only [List.mem_append, List.mem_singleton]
 constructor
 ·rintro (h1 | ⟨h1, h2⟩)
  ·exact .inl h1
  ·exact .inr ⟨h1, .inl h2⟩
 ·rintro (h1 | ⟨h1, h2 | h2⟩)
  ·exact .inl h1
  ·exact .inr ⟨h1, h2⟩
  ·omega
theorem WithS.next {ws2 : List Int} (h : WithS vs ws (t.take k)) (hk : k < t.length) (h0 : t.getD k 0 < 0) (hi : IntoS ws ws2 (-1 - t.getD k 0)) : WithS vs ws2 (t.take (k + 1)) := fun y => by
 rw [hi y, h y, take_succ_getD 0 hk]
 simp only [List.mem_append, List.mem_singleton]
 constructor
 ·rintro ((h1 | ⟨h1, h2⟩) | h1)
  ·exact .inl h1
  ·exact .inr ⟨h1, .inl h2⟩
  ·exact .inr ⟨by omega, .inr (by omega)⟩
 ·rintro (h1 | ⟨h1, h2 | h2⟩)
  ·exact .inl (.inl h1)
  ·exact .inl (.inr ⟨h1, h2⟩)
  ·exact .inr (by omega)
def withinL (t vs : List Int) : Bool := t.all fun n => decide (0 ≤ n) || decide ((-1 - n) ∈ vs)
theorem VSet.known (h : VSet us vs) : withinL t vs = knownL t us := by
 unfold withinL knownL
 congr 1
 funext n
 by_cases h0 : 0 ≤ n
 ·simp [h0]
 ·rw [decide_eq_false h0, Bool.false_or, Bool.false_or]
  have h2 := h (-1 - n)
  rw [show (-1 - (-1 - n) : Int) = n from by omega] at h2
  cases hx : us.any fun u => decide (n ∈ u) with
  | true =>
   obtain ⟨u, hu, hn⟩ := List.any_eq_true.1 hx
   exact decide_eq_true (h2.2 ⟨by omega, u, hu, of_decide_eq_true hn⟩)
  | false =>
   refine decide_eq_false fun hm => ?_
   obtain ⟨_, u, hu, hn⟩ := h2.1 hm
   rw [List.any_eq_true.2 ⟨u, hu, decide_eq_true hn⟩] at hx
   cases hx
end
section
variable {nf : List Int → Option (List Int)} {d0 : Bool} {ar t u w : List Int} {cr : List CR} {lo j k m : Nat}
end
section
variable {ar t u w p : List Int} {cr : List CR} {cs : Rules} {d k j lo q m : Nat} {x : CR} {b b' g : RowL}
noncomputable def givenD (ar : List Int) (cr : List CR) (d : Nat) (u : List Int) (x : CR) : Option RowL := givenC (nfC ar cr d) (decide (d = 0)) ar u x
noncomputable def condD (ar : List Int) (cr : List CR) (d : Nat) (b : RowL) (cs : Rules) : Option RowL := condGo (nfC ar cr d) ar b cs
noncomputable def stepD (ar : List Int) (cr : List CR) (d : Nat) (x : CR) (t : List Int) (p : Nat) : Option (List Int) := match givenD ar cr d (sub ar t p) x with
 | none => none
 | some b => match fillL b x.2.1 with
  | none => none
  | some u => putL ar t p u
noncomputable def ruleG (ar : List Int) (cr : List CR) (d : Nat) (t : List Int) (p k : Nat) : Int := ruleCGo (nfC ar cr d) (decide (d = 0)) ar cr t p (cr.length - k) k
noncomputable def ruleD (ar : List Int) (cr : List CR) (d : Nat) (t : List Int) (p : Nat) : Int := ruleC (nfC ar cr d) (decide (d = 0)) ar cr t p
noncomputable def pickD (ar : List Int) (cr : List CR) (d : Nat) (t : List Int) : Nat := pickC (nfC ar cr d) (decide (d = 0)) ar cr t
def LowD (ar : List Int) (cr : List CR) (d : Nat) (t : List Int) (j lo : Nat) : Prop := Low (nfC ar cr d) (decide (d = 0)) ar cr t j lo
noncomputable def normD (ar : List Int) (cr : List CR) (d m : Nat) (t : List Int) : Option (List Int) := normGoC (nfC ar cr d) (decide (d = 0)) ar cr m t
def RD (cr : List CR) (k : Nat) : CR := cr.getD k ([], [], [])
theorem nfC_pred (h : d ≠ 0) : nfC ar cr d = normC ar cr (d - 1) := by cases d with
 | zero => exact absurd rfl h
 | succ d => rfl
theorem given_none (h : (mGo ar u x.1 0 (List.replicate 24 [])).isSome = false) : givenD ar cr d u x = none := by
 unfold givenD givenC matchB
 cases hx : mGo ar u x.1 0 (List.replicate 24 []) with
 | none => rfl
 | some v => rw [hx] at h; cases h
theorem given_zero (h : mGo ar u x.1 0 (List.replicate 24 []) = some b) (h2 : 0 < x.2.2.length) (h3 : d = 0) : givenD ar cr d u x = none := by
 unfold givenD givenC matchB
 rw [h]
 exact if_pos ⟨decide_eq_true h3, h2⟩
theorem given_go (h : mGo ar u x.1 0 (List.replicate 24 []) = some b) (h2 : x.2.2.length = 0 ∨ d ≠ 0) : givenD ar cr d u x = condD ar cr d b x.2.2 := by
 unfold givenD givenC matchB
 rw [h]
 refine if_neg (fun hc => ?_)
 have h3 := of_decide_eq_true hc.1
 have h4 := hc.2
 omega
theorem condD_end (h : cs.length ≤ k) : condD ar cr d b (cs.drop k) = some b := condGo_end h
theorem condD_nofill (hk : k < cs.length) (h : (fillL b (cs.getD k ([], [])).1).isSome = false) : condD ar cr d b (cs.drop k) = none := condGo_nofill hk h
theorem condD_nonorm (hd : d ≠ 0) (hk : k < cs.length) (hf : (fillL b (cs.getD k ([], [])).1).isSome = true) (h : (normC ar cr (d - 1) ((fillL b (cs.getD k ([], [])).1).getD [])).isSome = false) : condD ar cr d b (cs.drop k) = none := condGo_nonorm hk hf (by rw [nfC_pred hd]; exact h)
theorem condD_nomatch (hd : d ≠ 0) (hk : k < cs.length) (hf : (fillL b (cs.getD k ([], [])).1).isSome = true) (h : (normC ar cr (d - 1) ((fillL b (cs.getD k ([], [])).1).getD [])).isSome = true) (hm : (mGo ar ((normC ar cr (d - 1) ((fillL b (cs.getD k ([], [])).1).getD [])).getD []) (cs.getD k ([], [])).2 0 b).isSome = false) : condD ar cr d b (cs.drop k) = none :=
 condGo_nomatch hk hf (by rw [nfC_pred hd]; exact h) (by rw [nfC_pred hd]; exact hm)
theorem condD_next (hd : d ≠ 0) (hk : k < cs.length) (hf : (fillL b (cs.getD k ([], [])).1).isSome = true) (h : (normC ar cr (d - 1) ((fillL b (cs.getD k ([], [])).1).getD [])).isSome = true) (hm : mGo ar ((normC ar cr (d - 1) ((fillL b (cs.getD k ([], [])).1).getD [])).getD []) (cs.getD k ([], [])).2 0 b = some b') : condD ar cr d b (cs.drop k) = condD ar cr d b' (cs.drop (k + 1)) :=
 condGo_next hk hf (by rw [nfC_pred hd]; exact h) (by rw [nfC_pred hd]; exact hm)
theorem stepD_none (h : givenD ar cr d (sub ar t q) x = none) : stepD ar cr d x t q = none := by unfold stepD; rw [h]
theorem stepD_nofill (h : givenD ar cr d (sub ar t q) x = some b) (hf : (fillL b x.2.1).isSome = false) : stepD ar cr d x t q = none := by
 unfold stepD
 rw [h]
 simp only
 cases hx : fillL b x.2.1 with
 | none => rfl
 | some v => rw [hx] at hf; cases hf
theorem stepD_put (h : givenD ar cr d (sub ar t q) x = some b) (hf : (fillL b x.2.1).isSome = true) : stepD ar cr d x t q = putL ar t q ((fillL b x.2.1).getD []) := by
 unfold stepD
 rw [h]
 simp only
 cases hx : fillL b x.2.1 with
 | none => rw [hx] at hf; cases hf
 | some v => rfl
theorem stepD_ok (hc : csysOk ar cr = true) (ht : termOk ar t = true) (hq : q < t.length) (hk : k < cr.length) (h : (stepD ar cr d (RD cr k) t q).isSome = true) : termOk ar ((stepD ar cr d (RD cr k) t q).getD []) = true := by
 obtain ⟨v, hv⟩ := Option.isSome_iff_exists.1 h
 rw [hv]
 exact stepCF_ok (nf := nfC ar cr d) (d0 := decide (d = 0)) (fun u w hu hw => nfC_ok hc d u w hu hw) hc ht hq hk hv
theorem RowsOk.nil24 : RowsOk ar (List.replicate 24 []) := fun i => .inl (by rw [List.getD_eq_getElem?_getD, List.getElem?_replicate]; split <;> simp)
theorem RowsOk.len (h : RowsOk ar b) : ∀ i, (b.getD i []).length ≤ 60 := fun i => by
 rcases h i with e | e
 ·rw [e]; simp
 ·exact (termOk_len e).2
theorem fill_okS (hb : RowsOk ar b) (ht : termOk ar t = true) (h : (fillL b t).isSome = true) : termOk ar ((fillL b t).getD []) = true := by
 obtain ⟨v, hv⟩ := Option.isSome_iff_exists.1 h
 rw [hv]
 exact fill_ok hb ht hv
theorem norm_okS (hc : csysOk ar cr = true) (ht : termOk ar t = true) (h : (normC ar cr d t).isSome = true) : termOk ar ((normC ar cr d t).getD []) = true := by
 obtain ⟨v, hv⟩ := Option.isSome_iff_exists.1 h
 rw [hv]
 exact normC_ok hc d t v ht hv
theorem given_ok (hc : csysOk ar cr = true) (hk : k < cr.length) (hu : termOk ar u = true) (h : givenD ar cr d u (RD cr k) = some b) : RowsOk ar b := givenC_ok (fun u w hu hw => nfC_ok hc d u w hu hw) (csysOk_at hc hk) hu h
theorem ruleG_hit (hk : k < cr.length) (h : (stepD ar cr d (RD cr k) t q).isSome = true) : ruleG ar cr d t q k = k := ruleC_hit hk h
theorem ruleG_miss (hk : k < cr.length) (h : (stepD ar cr d (RD cr k) t q).isSome = false) : ruleG ar cr d t q k = ruleG ar cr d t q (k + 1) := ruleC_miss hk h
theorem ruleG_end (hk : cr.length ≤ k) : ruleG ar cr d t q k = -1 := ruleC_end hk
theorem ruleD_var (hc : csysOk ar cr = true) (ht : termOk ar t = true) (hq : q < t.length) (hv : t.getD q 0 < 0) : ruleD ar cr d t q = -1 := ruleC_var hc ht hq hv
theorem LowD.start : LowD ar cr d t t.length t.length := Low.start
theorem LowD.cover (h : LowD ar cr d t (j + 1) lo) (ht : termOk ar t = true) (hj : j < t.length) (he : lo < endN ar t j) : LowD ar cr d t j lo := Low.cover ht hj h he
theorem LowD.rule (h : LowD ar cr d t (j + 1) lo) (hr : ruleD ar cr d t j < 0) : LowD ar cr d t j lo := Low.rule h hr
theorem LowD.take (h : LowD ar cr d t (j + 1) lo) (ht : termOk ar t = true) (hj : j < t.length) (he : ¬ lo < endN ar t j) (hr : 0 ≤ ruleD ar cr d t j) : LowD ar cr d t j j := Low.take ht hj h he hr
theorem LowD.done (h : LowD ar cr d t 0 lo) : pickD ar cr d t = lo := Low.done h
theorem LowD.le (h : LowD ar cr d t j lo) : lo ≤ t.length := by rcases h.1 with h | h <;> omega
def bestD (t : List Int) (lo : Nat) : Int := if lo = t.length then -1 else lo
noncomputable def ruleB (ar : List Int) (cr : List CR) (d : Nat) (t : List Int) (lo : Nat) : Int := if lo = t.length then 0 else ruleD ar cr d t lo
noncomputable def toB (ar : List Int) (cr : List CR) (d : Nat) (t : List Int) (lo : Nat) : List Int := if lo = t.length then [] else (stepD ar cr d (RD cr (ruleD ar cr d t lo).toNat) t lo).getD []
theorem bestD_start : bestD t t.length = -1 := if_pos rfl
theorem ruleB_start : ruleB ar cr d t t.length = 0 := if_pos rfl
theorem toB_start : toB ar cr d t t.length = [] := if_pos rfl
theorem bestD_at (h : lo < t.length) : bestD t lo = lo := if_neg (by omega)
theorem ruleB_at (h : lo < t.length) : ruleB ar cr d t lo = ruleD ar cr d t lo := if_neg (by omega)
theorem ruleB_hit (hj : j < t.length) (hk : k < cr.length) (hr : ruleD ar cr d t j = ruleG ar cr d t j k) (h : (stepD ar cr d (RD cr k) t j).isSome = true) : ruleB ar cr d t j = k := by rw [ruleB_at hj, hr, ruleG_hit hk h]
theorem toB_hit (hj : j < t.length) (hk : k < cr.length) (hr : ruleD ar cr d t j = ruleG ar cr d t j k) (h : (stepD ar cr d (RD cr k) t j).isSome = true) : toB ar cr d t j = (stepD ar cr d (RD cr k) t j).getD [] := by
 unfold toB
 rw [if_neg (by omega), hr, ruleG_hit hk h]
 rfl
theorem bestD_neg (h : lo ≤ t.length) : bestD t lo < 0 ↔ lo = t.length := by
 unfold bestD
 split <;> omega
theorem pickD_le : pickD ar cr d t ≤ t.length := pickC_le
theorem pickD_step (h : pickD ar cr d t ≠ t.length) : pickD ar cr d t < t.length ∧ 0 ≤ ruleD ar cr d t (pickD ar cr d t) ∧ (ruleD ar cr d t (pickD ar cr d t)).toNat < cr.length ∧ (stepD ar cr d (RD cr (ruleD ar cr d t (pickD ar cr d t)).toNat) t (pickD ar cr d t)).isSome = true := by
 obtain ⟨h1, h2, h3, u, hu⟩ := pickC_step (nf := nfC ar cr d) (d0 := decide (d = 0)) (ar := ar) (cr := cr) (t := t) h
 exact ⟨h1, h2, h3, by rw [show stepD ar cr d (RD cr (ruleD ar cr d t (pickD ar cr d t)).toNat) t (pickD ar cr d t) = some u from hu]; rfl⟩
theorem toB_ok (hc : csysOk ar cr = true) (ht : termOk ar t = true) (h : pickD ar cr d t ≠ t.length) : termOk ar (toB ar cr d t (pickD ar cr d t)) = true := by
 obtain ⟨h1, h2, h3, h4⟩ := pickD_step h
 unfold toB
 rw [if_neg h]
 exact stepD_ok hc ht h1 h3 h4
theorem normD_eq : normC ar cr d t = normD ar cr d 8 t := by rw [normC_eq]; rfl
theorem normD_nil (h : pickD ar cr d t = t.length) : normD ar cr d m t = some t := normGo_nil h
theorem normD_zero (h : pickD ar cr d t ≠ t.length) : normD ar cr d 0 t = none := normGo_zero h
theorem normD_next (h : pickD ar cr d t ≠ t.length) (hm : 0 < m) : normD ar cr d m t = normD ar cr d (m - 1) (toB ar cr d t (pickD ar cr d t)) := by
 obtain ⟨n, rfl⟩ : ∃ n, m = n + 1 := ⟨m - 1, by omega⟩
 unfold toB
 rw [if_neg h]
 exact normGo_next h
def depthB (ar : List Int) (cr : List CR) (t : List Int) (z : Int) : Bool := (csysOk ar cr && termOk ar t) && decide (0 ≤ z ∧ z ≤ 2)
noncomputable def pickF (ar : List Int) (cr : List CR) (t : List Int) (z : Int) : Int × Int × Bool := if depthB ar cr t z = true ∧ pickD ar cr z.toNat t ≠ t.length then (((pickD ar cr z.toNat t : Nat) : Int), ruleD ar cr z.toNat t (pickD ar cr z.toNat t), true) else (0, 0, false)
theorem depth_iff {z : Int} : depthB ar cr t z = true ↔ (csysOk ar cr = true ∧ termOk ar t = true) ∧ 0 ≤ z ∧ z ≤ 2 := by simp [depthB, Bool.and_eq_true, and_assoc]
theorem pickF_no {z : Int} (h : depthB ar cr t z = false) : pickF ar cr t z = (0, 0, false) := if_neg (by rw [h]; simp)
theorem pickF_nil {z : Int} (h : pickD ar cr z.toNat t = t.length) : pickF ar cr t z = (0, 0, false) := if_neg (fun hc => hc.2 h)
theorem pickF_yes {z : Int} (h1 : depthB ar cr t z = true) (h : pickD ar cr z.toNat t ≠ t.length) : pickF ar cr t z = (((pickD ar cr z.toNat t : Nat) : Int), ruleD ar cr z.toNat t (pickD ar cr z.toNat t), true) := if_pos ⟨h1, h⟩
def Inm (ar : List Int) (cr : List CR) (d : Nat) (t : List Int) (q : Nat) : Prop := inmC (nfC ar cr d) (decide (d = 0)) ar cr t q
theorem Inm.mk (h : 0 ≤ ruleD ar cr d t q) (h2 : ∀ i, q < i → i < endN ar t q → ruleD ar cr d t i < 0) : Inm ar cr d t q := ⟨h, h2⟩
theorem pickD_first (h1 : Inm ar cr d t q) (hq : q < t.length) (h2 : ∀ i, i < q → ¬ Inm ar cr d t i) : pickD ar cr d t = q := pickC_eq (.inr ⟨hq, h1⟩) h2
theorem pickD_none (h2 : ∀ i, i < t.length → ¬ Inm ar cr d t i) : pickD ar cr d t = t.length := pickC_eq (.inl rfl) h2
end
section
variable {ar t u w p : List Int} {cr : List CR} {cs : Rules} {d k j lo q m : Nat} {x : CR} {gs g : RowL} {ok : Bool}
def GivenAt (ar : List Int) (cr : List CR) (d : Nat) (u : List Int) (x : CR) (k : Nat) (gs : RowL) (ok : Bool) : Prop :=
 (ok = false ∧ givenD ar cr d u x = none) ∨ (ok = true ∧ RowsOk ar gs ∧ (k = 0 ∧ mGo ar u x.1 0 (List.replicate 24 []) = some gs ∨ d ≠ 0 ∧ givenD ar cr d u x = condD ar cr d gs (x.2.2.drop k)))
theorem GivenAt.start (hu : termOk ar u = true) (h : ∀ r, mGo ar u x.1 0 (List.replicate 24 []) = some r → gs = r) : GivenAt ar cr d u x 0 gs (mGo ar u x.1 0 (List.replicate 24 [])).isSome := by
 cases hx : mGo ar u x.1 0 (List.replicate 24 []) with
 | none => exact .inl ⟨rfl, given_none (by rw [hx]; rfl)⟩
 | some r =>
  obtain rfl := h r hx
  exact .inr ⟨rfl, mGo_ok hu _ _ _ _ hx RowsOk.nil24, .inl ⟨rfl, hx⟩⟩
theorem GivenAt.zero (h : GivenAt ar cr d u x k gs ok) (ho : ok = true) (hd : d = 0) (hk : k < x.2.2.length) : givenD ar cr d u x = none := by
 rcases h with h | ⟨_, _, h | h⟩
 ·exact h.2
 ·exact given_zero h.2 (by omega) hd
 ·exact absurd hd h.1
theorem GivenAt.go (h : GivenAt ar cr d u x k gs ok) (ho : ok = true) (hd : d ≠ 0) : RowsOk ar gs ∧ givenD ar cr d u x = condD ar cr d gs (x.2.2.drop k) := by
 rcases h with h | ⟨_, h1, h | h⟩
 ·rw [ho] at h; cases h.1
 ·refine ⟨h1, ?_⟩
  rw [h.1, given_go h.2 (.inr hd)]; rfl
 ·exact ⟨h1, h.2⟩
theorem GivenAt.next (hg : givenD ar cr d u x = condD ar cr d gs (x.2.2.drop k)) (hr : RowsOk ar gs) (hd : d ≠ 0) (hk : k < x.2.2.length) (hf : (fillL gs (x.2.2.getD k ([], [])).1).isSome = true) (hn : (normC ar cr (d - 1) ((fillL gs (x.2.2.getD k ([], [])).1).getD [])).isSome = true)
  (hw : termOk ar ((normC ar cr (d - 1) ((fillL gs (x.2.2.getD k ([], [])).1).getD [])).getD []) = true) (h : ∀ r, mGo ar ((normC ar cr (d - 1) ((fillL gs (x.2.2.getD k ([], [])).1).getD [])).getD []) (x.2.2.getD k ([], [])).2 0 gs = some r → g = r) :
  GivenAt ar cr d u x (k + 1) g (mGo ar ((normC ar cr (d - 1) ((fillL gs (x.2.2.getD k ([], [])).1).getD [])).getD []) (x.2.2.getD k ([], [])).2 0 gs).isSome := by
 cases hx : mGo ar ((normC ar cr (d - 1) ((fillL gs (x.2.2.getD k ([], [])).1).getD [])).getD []) (x.2.2.getD k ([], [])).2 0 gs with
 | none => exact .inl ⟨rfl, hg.trans (condD_nomatch hd hk hf hn (by rw [hx]; rfl))⟩
 | some r =>
  obtain rfl := h r hx
  exact .inr ⟨rfl, mGo_ok hw _ _ _ _ hx hr, .inr ⟨hd, hg.trans (condD_next hd hk hf hn hx)⟩⟩
theorem GivenAt.no (h : GivenAt ar cr d u x k gs ok) (ho : ok = false) : givenD ar cr d u x = none := by
 rcases h with h | h
 ·exact h.2
 ·rw [ho] at h; cases h.1
theorem GivenAt.yes (h : GivenAt ar cr d u x k gs ok) (ho : ok = true) (hk : x.2.2.length ≤ k) : givenD ar cr d u x = some gs := by
 rcases h with h | ⟨_, _, h | h⟩
 ·rw [ho] at h; cases h.1
 ·rw [given_go h.2 (.inl (by omega))]
  have := condD_end (ar := ar) (cr := cr) (d := d) (b := gs) (cs := x.2.2) (k := 0) (by omega)
  simpa using this
 ·rw [h.2, condD_end hk]
theorem GivenAt.is (h : GivenAt ar cr d u x k gs ok) (hk : x.2.2.length ≤ k ∨ ok = false) : (givenD ar cr d u x).isSome = ok ∧ ∀ r, givenD ar cr d u x = some r → gs = r := by
 cases hb : ok with
 | false => rw [h.no hb]; exact ⟨rfl, fun r hr => by cases hr⟩
 | true => rw [h.yes hb (by rcases hk with e | e; exact e; rw [hb] at e; cases e)]; exact ⟨rfl, fun r hr => Option.some.inj hr⟩
noncomputable def redsD (ar : List Int) (cr : List CR) (d : Nat) (t : List Int) (k : Nat) : List Int := (List.range k).map (ruleD ar cr d t)
theorem redsD_len : (redsD ar cr d t k).length = k := by simp [redsD]
theorem redsD_succ : redsD ar cr d t (k + 1) = redsD ar cr d t k ++ [ruleD ar cr d t k] := by simp [redsD, List.range_succ]
theorem redsD_get (h : q < k) : (redsD ar cr d t k).getD q 0 = ruleD ar cr d t q := by simp [redsD, List.getD, h]
noncomputable def pickV (ar : List Int) (cr : List CR) (d : Nat) (t : List Int) : Int × Int × Bool := if pickD ar cr d t = t.length then (0, 0, false) else (((pickD ar cr d t : Nat) : Int), ruleD ar cr d t (pickD ar cr d t), true)
theorem pickV_none (h : pickD ar cr d t = t.length) : pickV ar cr d t = (0, 0, false) := if_pos h
theorem pickV_at (h : pickD ar cr d t = q) (hq : q < t.length) : pickV ar cr d t = ((q : Int), ruleD ar cr d t q, true) := by
 unfold pickV
 rw [h, if_neg (by omega)]
theorem pickV_true (h : (pickV ar cr d t).2.2 = true) : pickD ar cr d t ≠ t.length ∧ (pickV ar cr d t).1 = ((pickD ar cr d t : Nat) : Int) ∧ (pickV ar cr d t).2.1 = ruleD ar cr d t (pickD ar cr d t) := by
 unfold pickV at h ⊢
 split at h
 ·cases h
 ·rename_i hn; rw [if_neg hn]; exact ⟨hn, rfl, rfl⟩
theorem pickV_false (h : (pickV ar cr d t).2.2 = false) : pickD ar cr d t = t.length := by
 unfold pickV at h
 split at h
 ·assumption
 ·cases h
theorem pickF_V {z : Int} (h : depthB ar cr t z = true) : pickF ar cr t z = pickV ar cr z.toNat t := by
 unfold pickV
 split
 ·rename_i hn; exact pickF_nil hn
 ·rename_i hn; exact pickF_yes h hn
theorem Inm.no1 (h : ruleD ar cr d t q < 0) : ¬ Inm ar cr d t q := fun hi => by have := hi.1; unfold ruleD at h; omega
def AllNo (ar : List Int) (cr : List CR) (d : Nat) (t : List Int) (q j : Nat) (ok : Bool) : Prop := ok = true ↔ ∀ i, q < i → i < j → ruleD ar cr d t i < 0
theorem AllNo.start : AllNo ar cr d t q (q + 1) true := ⟨fun _ i h1 h2 => by omega, fun _ => rfl⟩
theorem AllNo.next (h : AllNo ar cr d t q j ok) (hj : q < j) {ok2 : Bool} (h2 : ok2 = true ↔ ok = true ∧ ruleD ar cr d t j < 0) : AllNo ar cr d t q (j + 1) ok2 := by
 unfold AllNo at h ⊢
 rw [h2, h]
 constructor
 ·rintro ⟨h3, h4⟩ i h5 h6
  rcases Nat.lt_or_ge i j with g | g
  ·exact h3 i h5 g
  ·obtain rfl : i = j := by omega
   exact h4
 ·exact fun h3 => ⟨fun i h5 h6 => h3 i h5 (by omega), h3 j hj (by omega)⟩
theorem AllNo.yes (h : AllNo ar cr d t q j ok) (ho : ok = true) (hr : ¬ ruleD ar cr d t q < 0) (hj : endN ar t q ≤ j) : Inm ar cr d t q := Inm.mk (by omega) (fun i h1 h2 => h.1 ho i h1 (by omega))
theorem AllNo.no (h : AllNo ar cr d t q j ok) (ho : ok = false) (hj : j ≤ endN ar t q) : ¬ Inm ar cr d t q := fun hi => by
 have := h.2 (fun i h1 h2 => hi.2 i h1 (by omega))
 rw [ho] at this
 cases this
theorem any_badG {n : Int} {us : RowL} : decide (badG (fun u : List Int => !decide (n ∈ u)) us ≥ 0) = us.any (fun u => decide (n ∈ u)) := by
 have hb := badG_iff (q := fun u : List Int => !decide (n ∈ u)) (l := us)
 cases h : us.any (fun u => decide (n ∈ u)) with
 | true =>
  refine decide_eq_true (hb.2 ?_)
  obtain ⟨u, hu, hn⟩ := List.any_eq_true.1 h
  refine Bool.eq_false_iff.2 (fun hc => ?_)
  have := List.all_eq_true.1 hc u hu
  rw [hn] at this
  cases this
 | false =>
  refine decide_eq_false (fun hc => ?_)
  have h2 := hb.1 hc
  rw [List.all_eq_false] at h2
  obtain ⟨u, hu, hn⟩ := h2
  rw [List.any_eq_false] at h
  exact h u hu (by simpa using hn)
theorem eqOk_both {e : List Int × List Int} (h : eqOkL ar e = true) : termOk ar e.1 = true ∧ termOk ar e.2 = true := by simpa only [eqOkL, Bool.and_eq_true] using h
theorem rows_snoc60 {os : RowL} {t : List Int} (h : ∀ i, i < os.length → (os.getD i []).length ≤ 60) (ht : t.length ≤ 60) : ∀ i, i < (os ++ [t]).length → ((os ++ [t]).getD i []).length ≤ 60 := fun i hi => by
 rcases Nat.lt_or_ge i os.length with g | g
 ·have := h i g; simpa [List.getD, List.getElem?_append_left g] using this
 ·obtain rfl : i = os.length := by simp at hi; omega
  simpa [List.getD] using ht
theorem cruleOk_no1 {l r : List Int} (h : termOk ar l = true → termOk ar r = true → 0 ≤ l.getD 0 0 → cs.length ≤ 2 → False) : cruleOk ar (l, r, cs) = false := by
 refine Bool.eq_false_iff.2 (fun hc => ?_)
 have := cruleOk_facts hc
 exact h this.left this.right this.head this.len
theorem cruleOk_no2 {l r : List Int} (h : cOkGo ar [l] cs = none) : cruleOk ar (l, r, cs) = false := by
 unfold cruleOk
 rw [h, Bool.and_false]
theorem cruleOk_yes {l r : List Int} {us : RowL} (hl : termOk ar l = true) (hr : termOk ar r = true) (h0 : 0 ≤ l.getD 0 0) (hn : cs.length ≤ 2) (h : cOkGo ar [l] cs = some us) : cruleOk ar (l, r, cs) = knownL r us := by
 unfold cruleOk
 rw [h, hl, hr, decide_eq_true (show 0 ≤ l.getD 0 0 ∧ cs.length ≤ 2 from ⟨h0, hn⟩)]
 rfl
end
end Go.Proofs.YteodlimhopibkaaGreat.M
namespace Go.Proofs.YteodlimhopibkaaGreat.X
open Go
def CRuleO (E2 e : TypeId) (es : List Value) (x : CRuleT) (K : List HP) : Prop := ∃ a b c, es = [a, b, c] ∧ K = [intsH e a x.1, intsH e b x.2.1, pairsD e E2 c x.2.2]
abbrev crulesD (e E2 E : TypeId) (v : Value) (xs : List CRuleT) : HP := deepH 3 (CRuleO E2 e) E v xs
section
variable {e E2 E : TypeId} {F G : FH} {v : Value} {cs : List Value} {xs : List CRuleT} {L : List HP}
theorem CRuleO.fz (es : List Value) (x : CRuleT) (K : List HP) (h : CRuleO E2 e es x K) (hz : ∃ l, star K l ∧ ∀ p ∈ l, F.cells p.1 = some p.2) : CRuleF F es x := by
 obtain ⟨a, b, c, rfl, rfl⟩ := h
 exact ⟨a, b, c, rfl, intsH.fz (E := e) (frozen_star hz _ (by simp)), intsH.fz (E := e) (frozen_star hz _ (by simp)), pairsD.fz (e := e) (E := E2) (frozen_star hz _ (by simp))⟩
theorem crulesD.fz (h : Fz (crulesD e E2 E v xs) F) : CRulesF F v xs := deepH.fz CRuleO.fz h
theorem DeepL.crules (h : DeepL 3 (CRuleO E2 e) cs xs L) (hz : Fresh G F (star L)) : CRulesC F cs xs := h.co CRuleO.fz (let ⟨m, h1, _, h3⟩ := hz; ⟨m, h1, fun p hp => (h3 p hp).2⟩)
theorem nilPairsD : pairsD e E2 (.slice none 0 0) [] [] := ⟨[], [], DeepL.nil, [], [], slH_nil E2 2 none, rfl, rfl⟩
theorem CRulesC.set {a b c : Value} {x y : List Int} {z : List (List Int × List Int)} (h : CRulesC F cs xs) {j : Nat} (hj : j < xs.length) (ha : IntsF F a x) (hb : IntsF F b y) (hc : PairsF F c z) : CRulesC F (cs.take (j * 3) ++ [a, b, c] ++ cs.drop (j * 3 + 3)) (xs.set j (x, y, z)) := CO.setN h hj rfl ⟨a, b, c, rfl, ha, hb, hc⟩
end
end Go.Proofs.YteodlimhopibkaaGreat.X
namespace Go.Proofs.YteodlimhopibkaaGreat.M
section
variable {ar t : List Int} {cr : List CR} {p r z : Int}
def cstepOk (ar : List Int) (cr : List CR) (t : List Int) (p r z : Int) : Prop := depthB ar cr t z = true ∧ (0 ≤ p ∧ p < (t.length : Int)) ∧ 0 ≤ r ∧ r < (cr.length : Int)
instance : Decidable (cstepOk ar cr t p r z) := by unfold cstepOk; infer_instance
noncomputable def cstepF (ar : List Int) (cr : List CR) (t : List Int) (p r z : Int) : Option (List Int) := if cstepOk ar cr t p r z then stepD ar cr z.toNat (RD cr r.toNat) t p.toNat else none
theorem cstepF_no (h : ¬ cstepOk ar cr t p r z) : cstepF ar cr t p r z = none := if_neg h
theorem cstepF_yes (h : cstepOk ar cr t p r z) : cstepF ar cr t p r z = stepD ar cr z.toNat (RD cr r.toNat) t p.toNat := if_pos h
theorem cstepF_len : ((cstepF ar cr t p r z).getD []).length ≤ 60 := by
 unfold cstepF
 split
 ·rename_i h
  obtain ⟨h1, ⟨h2, h3⟩, h4, h5⟩ := h
  have hd := depth_iff.1 h1
  cases hs : (stepD ar cr z.toNat (RD cr r.toNat) t p.toNat).isSome with
  | true => exact (termOk_len (stepD_ok hd.1.1 hd.1.2 (by omega) (by omega) hs)).2
  | false =>
   cases hx : stepD ar cr z.toNat (RD cr r.toNat) t p.toNat with
   | none => simp
   | some v => rw [hx] at hs; cases hs
 ·simp
noncomputable def cnormF (ar : List Int) (cr : List CR) (t : List Int) (z : Int) : Option (List Int) := if depthB ar cr t z = true then normC ar cr z.toNat t else none
theorem cnormF_no (h : depthB ar cr t z = false) : cnormF ar cr t z = none := if_neg (by rw [h]; simp)
theorem cnormF_yes (h : depthB ar cr t z = true) : cnormF ar cr t z = normC ar cr z.toNat t := if_pos h
theorem cnormF_len : ((cnormF ar cr t z).getD []).length ≤ 60 := by
 unfold cnormF
 split
 ·rename_i h
  have hd := depth_iff.1 h
  cases hs : (normC ar cr z.toNat t).isSome with
  | true => exact (termOk_len (norm_okS hd.1.1 hd.1.2 hs)).2
  | false =>
   cases hx : normC ar cr z.toNat t with
   | none => simp
   | some v => rw [hx] at hs; cases hs
 ·simp
end
end Go.Proofs.YteodlimhopibkaaGreat.M
namespace Go.Proofs.YteodlimhopibkaaGreat.X
open Go
def LineO (E1 e : TypeId) (es : List Value) (x : LineT) (K : List HP) : Prop := ∃ a b, es = [.int .i64 x.1, a, b] ∧ K = [rowsD e E1 a x.2.1, intsH e b x.2.2]
abbrev linesD (e E1 E : TypeId) (v : Value) (xs : List LineT) : HP := deepH 3 (LineO E1 e) E v xs
section
variable {e E1 E : TypeId} {F G : FH} {v : Value} {cs : List Value} {xs : List LineT} {L : List HP}
theorem LineO.fz (es : List Value) (x : LineT) (K : List HP) (h : LineO E1 e es x K) (hz : ∃ l, star K l ∧ ∀ p ∈ l, F.cells p.1 = some p.2) : LineF F es x := by
 obtain ⟨a, b, rfl, rfl⟩ := h
 exact ⟨a, b, rfl, rowsD.fz (e := e) (E := E1) (frozen_star hz _ (by simp)), intsH.fz (E := e) (frozen_star hz _ (by simp))⟩
theorem linesD.fz (h : Fz (linesD e E1 E v xs) F) : LinesF F v xs := deepH.fz LineO.fz h
theorem LinesC.set {n : Int} {a b : Value} {y : List (List Int)} {z : List Int} (h : LinesC F cs xs) {j : Nat} (hj : j < xs.length) (ha : RowsF F a y) (hb : IntsF F b z) : LinesC F (cs.take (j * 3) ++ [.int .i64 n, a, b] ++ cs.drop (j * 3 + 3)) (xs.set j (n, y, z)) := CO.setN h hj rfl ⟨a, b, rfl, ha, hb⟩
end
abbrev PPost := List PanicEntry → FH → List HP → Prop
def DoesP (P : Program) (f : FuncId) (args : List Value) (F : FH) (L : List HP) (Q : Post) (K : PPost) : Prop :=
 ∀ w, Holds F L w → Calls P f args.toArray w fun e w' =>
  (∃ v F' L', e = .returned v ∧ F ≤ F' ∧ Holds F' L' w' ∧ Q v F' L') ∨ (∃ ch F' L', e = .panicked ch ∧ F ≤ F' ∧ Holds F' L' w' ∧ K ch F' L')
theorem DoesP.mono {P : Program} {f : FuncId} {args : List Value} {F : FH} {L : List HP} {Q Q' : Post} {K K' : PPost} (h : DoesP P f args F L Q K) (hq : ∀ v F' L', F ≤ F' → Q v F' L' → Q' v F' L') (hk : ∀ c F' L', F ≤ F' → K c F' L' → K' c F' L') : DoesP P f args F L Q' K' := fun w H =>
 (h w H).mono fun e w' he => by
  rcases he with ⟨v, F', L', a, b, c, d⟩ | ⟨v, F', L', a, b, c, d⟩
  ·exact .inl ⟨v, F', L', a, b, c, hq _ _ _ b d⟩
  ·exact .inr ⟨v, F', L', a, b, c, hk _ _ _ b d⟩
theorem DoesP.weaken {P : Program} {f : FuncId} {args : List Value} {F : FH} {L L' : List HP} {Q : Post} {K : PPost} (s : Sub L L') (h : DoesP P f args F L' Q K) : DoesP P f args F L Q K := fun w H => h w (s.holds H)
def retQP (P : Program) (fn : Func) (F0 : FH) (Q : Post) (K : PPost) : QX := fun e ρ F L => retQ P fn F0 Q e ρ F L ∨ ∃ ch, e = .panic ch ∧ K ch F L
theorem DoesP.of_X {P : Program} {f : FuncId} {fn : Func} {c : Code} {args : List Value} {F : FH} {L : List HP} {Q : Post} {K : PPost}
  (hf : P.funcs[f]? = some fn) (hb : fn.body = some c) (hd : cOk fn.ntmps c = true) (hn : Nat.ble args.length fn.ntmps = true)
  (h : X P fn.ntmps c (retQP P fn F Q K) (env0 args) F L) : DoesP P f args F L Q K := by
 intro w H
 refine calls_of_wp hf hb (Code.wp_mono ?_ (h hd _ w ⟨?_, rfl, fun i => ?_⟩ H))
 ·rintro e a' w' ⟨ρ', F', L', r', le, H', (⟨he, vs, L'', F2, hv, l1, l2, hsub, q⟩ | ⟨ch, rfl, k⟩)⟩
  ·have hr := results_run (P := P) (w := w') r' H' hv
   rcases he with rfl | rfl
   ·exact ⟨r'.defers, _, hr, .inl ⟨_, F2, L'', rfl, l1, hsub.holds (H'.forget l2), q⟩⟩
   ·exact ⟨r'.defers, _, hr, .inl ⟨_, F2, L'', rfl, l1, hsub.holds (H'.forget l2), q⟩⟩
  ·exact ⟨r'.defers, .inr ⟨ch, F', L', rfl, le, H', k⟩⟩
 ·have := Nat.le_of_ble_eq_true hn
  simp
  omega
 ·simp only [env0, Array.getD_eq_getD_getElem?, List.getD_eq_getElem?_getD, Array.getElem?_append, List.size_toArray, List.getElem?_toArray, Array.getElem?_replicate]
  split
  ·rfl
  ·rename_i hi
   rw [List.getElem?_eq_none (Nat.le_of_not_lt hi)]
   split <;> rfl
abbrev PeakT := List Int × List Int × List Int × Int × Int × Int
def PeakF (F : FH) (es : List Value) (x : PeakT) : Prop := ∃ a0 a1 a2, es = [a0, a1, a2, .int .i64 x.2.2.2.1, .int .i64 x.2.2.2.2.1, .int .i64 x.2.2.2.2.2] ∧ IntsF F a0 x.1 ∧ IntsF F a1 x.2.1 ∧ IntsF F a2 x.2.2.1
theorem PeakF.mono {F F' : FH} (le : F ≤ F') (es : List Value) (x : PeakT) (h : PeakF F es x) : PeakF F' es x := by
 obtain ⟨a0, a1, a2, e, h0, h1, h2⟩ := h
 exact ⟨a0, a1, a2, e, h0.mono le, h1.mono le, h2.mono le⟩
def PeaksF : FH → Value → List PeakT → Prop := SlOf 6 PeakF ([], [], [], 0, 0, 0)
theorem PeaksF.mono {F F' : FH} {v : Value} {xs : List PeakT} (h : PeaksF F v xs) (le : F ≤ F') : PeaksF F' v xs := SlOf.mono (PeakF.mono le) h le
theorem PeaksF.slv {F : FH} {L : List HP} {v : Value} {xs : List PeakT} (h : PeaksF F v xs) : SlV F L v xs.length := SlOf.slv h
theorem PeaksF.isSl {F : FH} {v : Value} {xs : List PeakT} (h : PeaksF F v xs) : IsSl v := by obtain ⟨_, h, _⟩ := h; exact h.isSl
theorem PeaksF.rd {F : FH} {v : Value} {xs : List PeakT} (h : PeaksF F v xs) {i : Nat} (hi : i < xs.length) : ∃ a0 a1 a2, IntsF F a0 (xs.getD i ([], [], [], 0, 0, 0)).1 ∧ IntsF F a1 (xs.getD i ([], [], [], 0, 0, 0)).2.1 ∧ IntsF F a2 (xs.getD i ([], [], [], 0, 0, 0)).2.2.1 ∧ (∀ L j u, ([a0, a1, a2, .int .i64 (xs.getD i ([], [], [], 0, 0, 0)).2.2.2.1, .int .i64 (xs.getD i ([], [], [], 0, 0, 0)).2.2.2.2.1, .int .i64 (xs.getD i ([], [], [], 0, 0, 0)).2.2.2.2.2] : List Value)[j]? = some u → Rd F L (elemA v (i * 6 + j)) u) ∧ True := by
 obtain ⟨es, hl, ⟨a0, a1, a2, rfl, h0, h1, h2⟩, hr⟩ := SlOf.get h hi
 exact ⟨a0, a1, a2, h0, h1, h2, hr, trivial⟩
def PeaksC (F : FH) (cs : List Value) (xs : List PeakT) : Prop := CO 6 PeakF ([], [], [], 0, 0, 0) F cs xs
theorem PeaksC.mono {F F' : FH} {cs : List Value} {xs : List PeakT} (h : PeaksC F cs xs) (le : F ≤ F') : PeaksC F' cs xs := CO.mono (PeakF.mono le) h
theorem PeaksC.snoc {F : FH} {cs : List Value} {xs : List PeakT} {a0 a1 a2 : Value} {y0 : List Int} {y1 : List Int} {y2 : List Int} {y3 : Int} {y4 : Int} {y5 : Int} (h : PeaksC F cs xs) (h0 : IntsF F a0 y0) (h1 : IntsF F a1 y1) (h2 : IntsF F a2 y2) : PeaksC F (cs ++ [a0, a1, a2, .int .i64 y3, .int .i64 y4, .int .i64 y5]) (xs ++ [(y0, y1, y2, y3, y4, y5)]) := CO.snoc h rfl ⟨a0, a1, a2, rfl, h0, h1, h2⟩
theorem PeaksC.get {F : FH} {cs : List Value} {xs : List PeakT} (h : PeaksC F cs xs) {i : Nat} (hi : i < xs.length) : ∃ a0 a1 a2, IntsF F a0 (xs.getD i ([], [], [], 0, 0, 0)).1 ∧ IntsF F a1 (xs.getD i ([], [], [], 0, 0, 0)).2.1 ∧ IntsF F a2 (xs.getD i ([], [], [], 0, 0, 0)).2.2.1 ∧ (∀ j u, ([a0, a1, a2, .int .i64 (xs.getD i ([], [], [], 0, 0, 0)).2.2.2.1, .int .i64 (xs.getD i ([], [], [], 0, 0, 0)).2.2.2.2.1, .int .i64 (xs.getD i ([], [], [], 0, 0, 0)).2.2.2.2.2] : List Value)[j]? = some u → cs[i * 6 + j]? = some u) := by
 obtain ⟨es, hl, ⟨a0, a1, a2, rfl, h0, h1, h2⟩, hr⟩ := CO.get h hi
 exact ⟨a0, a1, a2, h0, h1, h2, hr⟩
def PeakO (e : TypeId) (es : List Value) (x : PeakT) (K : List HP) : Prop := ∃ a b c, es = [a, b, c, .int .i64 x.2.2.2.1, .int .i64 x.2.2.2.2.1, .int .i64 x.2.2.2.2.2] ∧ K = [intsH e a x.1, intsH e b x.2.1, intsH e c x.2.2.1]
abbrev peaksD (e E : TypeId) (v : Value) (xs : List PeakT) : HP := deepH 6 (PeakO e) E v xs
section
variable {e E : TypeId} {F G : FH} {v : Value} {cs : List Value} {xs : List PeakT} {L : List HP}
theorem PeakO.fz (es : List Value) (x : PeakT) (K : List HP) (h : PeakO e es x K) (hz : ∃ l, star K l ∧ ∀ p ∈ l, F.cells p.1 = some p.2) : PeakF F es x := by
 obtain ⟨a, b, c, rfl, rfl⟩ := h
 exact ⟨a, b, c, rfl, intsH.fz (E := e) (frozen_star hz _ (by simp)), intsH.fz (E := e) (frozen_star hz _ (by simp)), intsH.fz (E := e) (frozen_star hz _ (by simp))⟩
theorem peaksD.fz (h : Fz (peaksD e E v xs) F) : PeaksF F v xs := deepH.fz PeakO.fz h
end
def PKJ {ι : Type} (F0 : FH) (e ES T : TypeId) (bw : Nat) (tl : List HP) (I : List ι → List PeakT → Prop) (ms : List ι) (Fy : FH) (Ly : List HP) : Prop :=
 ∃ (sv : Value) (os : List PeakT) (cs : List Value) (Ls : List HP) (m : Nat), IsSl sv ∧ PeaksC Fy cs os ∧ m = os.length ∧ DeepL 6 (PeakO e) cs os Ls ∧ Fresh F0 Fy (star Ls) ∧ I ms os ∧ Ly = cellsH bw [sv] T :: slH ES 6 sv m cs :: tl
theorem PKJ.start {ι : Type} {F0 F : FH} {e ES T : TypeId} {bw : Nat} {tl : List HP} {I : List ι → List PeakT → Prop} {b : Option Addr} (h : I [] []) : PKJ F0 e ES T bw tl I [] F (cellsH bw [.slice b 0 0] T :: slH ES 6 (.slice b 0 0) 0 [] :: tl) :=
 ⟨_, [], [], [], 0, ⟨_, _, _, rfl⟩, CO.nil, rfl, .nil, .nilL, h, rfl⟩
theorem PKJ.mono {ι : Type} {F0 F F' : FH} {e ES T : TypeId} {bw : Nat} {tl L : List HP} {I : List ι → List PeakT → Prop} {ms : List ι} (h : PKJ F0 e ES T bw tl I ms F L) (le : F ≤ F') : PKJ F0 e ES T bw tl I ms F' L :=
 let ⟨sv, ss, cs, Ls, m, h1, h2, h3, h4, h5, h6, h7⟩ := h
 ⟨sv, ss, cs, Ls, m, h1, h2.mono le, h3, h4, h5.mono le, h6, h7⟩
section
variable {P : Program} {n : Nat} {r0 : Option Nat} {d0 : List Deferred} {ops : Array Oper} {l : List Oper} {Q : QX} {ρ : Env} {F : FH} {L : List HP}
end
section
variable {P : Program} {ρ : Env} {F : FH} {L : List HP} {K : Post} {d : Option Tmp} {ty : TypeId} {pos : String} {af : Array Edge} {g : Option (Nat × Bool)}
end
section
variable {α : Type} {s : Nat} {R : List Value → α → List HP → Prop} {cs cs0 : List Value} {xs : List α} {Ls Ls' L1 : List HP} {d : α}
theorem DeepL.inv (h : DeepL s R cs xs Ls) : (cs = [] ∧ xs = [] ∧ Ls = []) ∨ ∃ cs' es xs' x L' K, cs = cs' ++ es ∧ xs = xs' ++ [x] ∧ Ls = L' ++ K ∧ DeepL s R cs' xs' L' ∧ es.length = s ∧ R es x K := by
 cases h with
 | nil => exact .inl ⟨rfl, rfl, rfl⟩
 | snoc h hl hr => exact .inr ⟨_, _, _, _, _, _, rfl, rfl, rfl, h, hl, hr⟩
theorem DeepL.fn (hR : ∀ es x K K', R es x K → R es x K' → K = K') (h : DeepL s R cs xs Ls) : ∀ {Ls'}, DeepL s R cs xs Ls' → Ls = Ls' := by
 induction h with
 | nil =>
  intro Ls' h'
  rcases h'.inv with ⟨_, _, e⟩ | ⟨_, _, xs', x, _, _, _, e, _⟩
  ·exact e.symm
  ·simp at e
 | @snoc cs es xs x L K h hl hr ih =>
  intro Ls' h'
  rcases h'.inv with ⟨_, e, _⟩ | ⟨cs', es', xs', x', L', K', e1, e2, e3, h2, hl2, hr2⟩
  ·simp at e
  ·obtain ⟨rfl, e4⟩ := List.append_inj' e2 rfl
   obtain rfl : x = x' := by simpa using e4
   obtain ⟨rfl, rfl⟩ := List.append_inj' e1 (by rw [hl, hl2])
   rw [e3, ih h2, hR _ _ _ _ hr hr2]
theorem DeepL.step (h : DeepL s R cs0 xs Ls) {j : Nat} (hj : j < xs.length) (h1 : DeepL s R (cs0.take (j * s)) (xs.take j) L1) : ∃ es K, es.length = s ∧ R es (xs.getD j d) K ∧ (∀ q u, es[q]? = some u → cs0[j * s + q]? = some u) ∧ DeepL s R (cs0.take ((j + 1) * s)) (xs.take (j + 1)) (L1 ++ K) := by
 obtain ⟨A, K, B, es, _, hl, hr, hg, _⟩ := h.at (d := d) hj
 have hlen := h.len
 have hb : j * s + s ≤ cs0.length := by rw [hlen, ← Nat.succ_mul]; exact Nat.mul_le_mul_right s hj
 refine ⟨es, K, hl, hr, hg, ?_⟩
 have e1 : cs0.take ((j + 1) * s) = cs0.take (j * s) ++ es := by
  rw [Nat.succ_mul, List.take_add]
  congr 1
  apply List.ext_getElem?
  intro q
  rw [List.getElem?_take]
  split
  ·rename_i hq
   rw [List.getElem?_drop]
   have := hg q es[q] (List.getElem?_eq_getElem (by omega))
   rw [this, List.getElem?_eq_getElem (by omega)]
  ·rw [List.getElem?_eq_none (by omega)]
 have e2 : xs.take (j + 1) = xs.take j ++ [xs.getD j d] := by
  rw [List.take_add_one, List.getD_eq_getElem?_getD, List.getElem?_eq_getElem hj]; rfl
 rw [e1, e2]
 exact DeepL.snoc h1 hl hr
theorem star_sub {A B : List HP} (h : A.Sublist B) : ∀ {l : OH}, star B l → ∃ l', star A l' ∧ l'.Sublist l := by
 induction h with
 | slnil => intro l h; exact ⟨l, h, List.Sublist.refl _⟩
 | cons x _ ih =>
  rintro l ⟨a, b, ha, hb, rfl⟩
  obtain ⟨l', h1, h2⟩ := ih hb
  exact ⟨l', h1, h2.trans (List.sublist_append_right a b)⟩
 | cons_cons x _ ih =>
  rintro l ⟨a, b, ha, hb, rfl⟩
  obtain ⟨l', h1, h2⟩ := ih hb
  exact ⟨a ++ l', ⟨a, l', ha, h1, rfl⟩, List.Sublist.append (List.Sublist.refl a) h2⟩
theorem Fresh.sub {F F' : FH} {A B : List HP} (h : Fresh F F' (star B)) (hs : A.Sublist B) : Fresh F F' (star A) := by
 obtain ⟨m, h1, h2, h3⟩ := h
 obtain ⟨l, hl, hsub⟩ := star_sub hs h1
 exact ⟨l, hl, (hsub.map Prod.fst).nodup h2, fun p hp => h3 p (hsub.subset hp)⟩
end
section
variable {α : Type} {s : Nat} {R : List Value → α → List HP → Prop} {cs cs0 : List Value} {xs : List α} {Ls : List HP} {d : α} {q : α → Bool} {i j : Nat}
structure DelI (s : Nat) (R : List Value → α → List HP → Prop) (q : α → Bool) (cs0 : List Value) (xs : List α) (cs : List Value) (i j : Nat) : Prop where
 le : j ≤ xs.length
 cnt : i = ((xs.take j).filter q).length
 len : cs.length = cs0.length
 rest : cs.drop (j * s) = cs0.drop (j * s)
 pre : ∃ L1 Lk, DeepL s R (cs0.take (j * s)) (xs.take j) L1 ∧ DeepL s R (cs.take (i * s)) ((xs.take j).filter q) Lk ∧ Lk.Sublist L1
theorem DelI.ij (h : DelI s R q cs0 xs cs i j) : i ≤ j := by
 have := List.length_filter_le q (xs.take j)
 rw [List.length_take] at this; have := h.cnt; omega
theorem take_one (d : α) (hj : j < xs.length) : xs.take (j + 1) = xs.take j ++ [xs.getD j d] := by
 rw [List.take_add_one, List.getD_eq_getElem?_getD, List.getElem?_eq_getElem hj]; rfl
theorem DelI.drop (h : DelI s R q cs0 xs cs i j) (h0 : DeepL s R cs0 xs Ls) (hj : j < xs.length) (hq : q (xs.getD j d) = false) : DelI s R q cs0 xs cs i (j + 1) := by
 obtain ⟨L1, Lk, h1, h2, h3⟩ := h.pre
 obtain ⟨es, K, hl, hr, hg, hd⟩ := h0.step (d := d) hj h1
 have e : (xs.take (j + 1)).filter q = (xs.take j).filter q := by rw [take_one d hj, List.filter_append, List.filter_cons_of_neg (by rw [hq]; simp), List.filter_nil, List.append_nil]
 refine ⟨hj, by rw [e]; exact h.cnt, h.len, ?_, L1 ++ K, Lk, hd, by rw [e]; exact h2, h3.trans (List.sublist_append_left _ _)⟩
 have := congrArg (List.drop s) h.rest
 rw [List.drop_drop, List.drop_drop] at this
 rw [Nat.succ_mul]; exact this
theorem DelI.keep (h : DelI s R q cs0 xs cs i j) (h0 : DeepL s R cs0 xs Ls) (hj : j < xs.length) (hq : q (xs.getD j d) = true) {vs : List Value} (hvl : vs.length = s) (hv : ∀ p u, vs[p]? = some u → cs0[j * s + p]? = some u) :
  DelI s R q cs0 xs (cs.take (i * s) ++ vs ++ cs.drop (i * s + vs.length)) (i + 1) (j + 1) := by
 obtain ⟨L1, Lk, h1, h2, h3⟩ := h.pre
 obtain ⟨es, K, hl, hr, hg, hd⟩ := h0.step (d := d) hj h1
 have hij := h.ij
 have hlen := h0.len
 have hb : j * s + s ≤ cs.length := by rw [h.len, hlen, ← Nat.succ_mul]; exact Nat.mul_le_mul_right s hj
 have hi : i * s ≤ j * s := Nat.mul_le_mul_right s hij
 have hes : es = vs := by
  apply List.ext_getElem?
  intro p
  rcases Nat.lt_or_ge p s with hp | hp
  ·have a1 := hg p es[p] (List.getElem?_eq_getElem (by omega))
   have a2 := hv p vs[p] (List.getElem?_eq_getElem (by omega))
   rw [List.getElem?_eq_getElem (by omega), List.getElem?_eq_getElem (by omega)]
   rw [a1] at a2; exact a2
  ·rw [List.getElem?_eq_none (by omega), List.getElem?_eq_none (by omega)]
 subst hes
 have e : (xs.take (j + 1)).filter q = (xs.take j).filter q ++ [xs.getD j d] := by rw [take_one d hj, List.filter_append, List.filter_cons_of_pos hq, List.filter_nil]
 have ht : (cs.take (i * s) ++ es ++ cs.drop (i * s + es.length)).take ((i + 1) * s) = cs.take (i * s) ++ es := by
  have hl1 : (cs.take (i * s) ++ es).length = (i + 1) * s := by rw [List.length_append, List.length_take, Nat.min_eq_left (by omega), hl, Nat.succ_mul]
  rw [← hl1]; exact List.take_left
 refine ⟨hj, by rw [e, List.length_append, ← h.cnt]; rfl, ?_, ?_, L1 ++ K, Lk ++ K, hd, by rw [e, ht]; exact DeepL.snoc h2 hl hr, List.Sublist.append h3 (List.Sublist.refl K)⟩
 ·rw [List.length_append, List.length_append, List.length_take, List.length_drop, Nat.min_eq_left (by omega), hl]
  have := h.len; omega
 ·have hd2 := congrArg (List.drop s) h.rest
  rw [List.drop_drop, List.drop_drop, ← Nat.succ_mul] at hd2
  rw [← hd2]
  apply List.ext_getElem?
  intro p
  rw [List.getElem?_drop, List.getElem?_drop]
  have hl1 : (cs.take (i * s) ++ es).length = i * s + s := by rw [List.length_append, List.length_take, Nat.min_eq_left (by omega), hl]
  have hjs : (j + 1) * s = j * s + s := Nat.succ_mul j s
  have hss : j.succ * s = (j + 1) * s := rfl
  rw [List.getElem?_append_right (by rw [hl1]; omega), hl1, List.getElem?_drop, hl]
  congr 1; omega
theorem DelI.at (h : DelI s R q cs0 xs cs i j) {p : Nat} {u : Value} (hu : cs0[j * s + p]? = some u) : cs[j * s + p]? = some u := by
 have h1 : (cs.drop (j * s))[p]? = (cs0.drop (j * s))[p]? := by rw [h.rest]
 rw [List.getElem?_drop, List.getElem?_drop] at h1
 rw [h1]; exact hu
theorem DelI.zero : DelI s R q cs0 xs cs0 0 0 := ⟨Nat.zero_le _, by simp, rfl, rfl, [], [], by simpa using DeepL.nil, by simpa using DeepL.nil, List.Sublist.refl _⟩
theorem DelI.all (h0 : DeepL s R cs0 xs Ls) : ∀ k, k ≤ xs.length → (∀ p, p < k → q (xs.getD p d) = true) → DelI s R q cs0 xs cs0 k k
 | 0, _, _ => DelI.zero
 | k + 1, hk, h => by
  have h1 := DelI.all h0 k (by omega) fun p hp => h p (by omega)
  have hlen := h0.len
  have hb : k * s + s ≤ cs0.length := by rw [hlen, ← Nat.succ_mul]; exact Nat.mul_le_mul_right s hk
  have hvl : ((cs0.drop (k * s)).take s).length = s := by rw [List.length_take, List.length_drop]; omega
  have h2 := h1.keep (d := d) h0 (by omega) (h k (by omega)) (vs := (cs0.drop (k * s)).take s) hvl (fun p u hp => by
   rw [List.getElem?_take] at hp
   split at hp
   ·rw [List.getElem?_drop] at hp; exact hp
   ·cases hp)
  have e : cs0.take (k * s) ++ (cs0.drop (k * s)).take s ++ cs0.drop (k * s + ((cs0.drop (k * s)).take s).length) = cs0 := by
   rw [hvl, ← List.take_add, List.take_append_drop]
  rw [e] at h2; exact h2
theorem DelI.done (h : DelI s R q cs0 xs cs i j) (hj : j = xs.length) (h0 : DeepL s R cs0 xs Ls) (hR : ∀ es x K K', R es x K → R es x K' → K = K') : i = (xs.filter q).length ∧ ∃ Lk, DeepL s R (cs.take (i * s)) (xs.filter q) Lk ∧ Lk.Sublist Ls := by
 subst hj
 obtain ⟨L1, Lk, h1, h2, h3⟩ := h.pre
 have hc := h.cnt
 rw [List.take_length] at h1 h2 hc
 rw [List.take_of_length_le (by rw [h0.len]; exact Nat.le_refl _)] at h1
 have := h1.fn hR h0
 subst this
 exact ⟨hc, Lk, h2, h3⟩
end
section
variable {e E1 E : TypeId} {F F1 F2 G : FH} {v a b : Value} {cs : List Value} {xs : List LineT} {L M : List HP}
theorem Fresh.idx {D : HP} {L L' : List HP} {n : Nat} (is : List Nat) (h : Fresh F G (star L)) (hn : L.length = n) (hi : is.Perm (List.range n)) (hL : (is.map fun i => L.getD i D) = L') : Fresh F G (star L') := by
 subst hn hL
 refine h.perm ?_
 have e : (List.range L.length).map (fun i => L.getD i D) = L := by
  refine List.ext_getElem (by simp) (fun i h1 h2 => ?_)
  simp [List.getD, h2]
 have := (hi.map fun i => L.getD i D).symm
 rwa [e] at this
def LFl (e E1 : TypeId) (cs : List Value) (xs : List LineT) (M : List HP) : Prop := ∀ l, star M l → ∃ Ls, DeepL 3 (LineO E1 e) cs xs Ls ∧ star Ls l
theorem LFl.nil : LFl e E1 [] [] [] := fun l h => ⟨[], DeepL.nil, h⟩
theorem DeepL.cons9 {α : Type} {s : Nat} {R : List Value → α → List HP → Prop} {es cs : List Value} {x : α} {xs : List α} {K L : List HP} (hl : es.length = s) (hr : R es x K) (h : DeepL s R cs xs L) : DeepL s R (es ++ cs) (x :: xs) (K ++ L) := by
 induction h with
 | nil => have := DeepL.snoc (DeepL.nil (s := s) (R := R)) hl hr; simpa using this
 | @snoc cs es2 xs x2 L K2 h hl2 hr2 ih =>
  have := ih.snoc hl2 hr2
  simpa [List.append_assoc] using this
theorem rowsD2 {a1 a2 : Value} {x1 x2 : List Int} {l : OH} (h : star [slH E1 1 a 2 [a1, a2], intsH e a1 x1, intsH e a2 x2] l) : rowsD e E1 a [x1, x2] l :=
 ⟨[a1, a2], [intsH e a1 x1, intsH e a2 x2], (DeepL.nil.snoc (es := [a1]) (x := x1) (K := [intsH e a1 x1]) rfl ⟨_, rfl, rfl⟩).snoc (es := [a2]) (x := x2) (K := [intsH e a2 x2]) rfl ⟨_, rfl, rfl⟩, h⟩
theorem LFl.snoc {a1 a2 : Value} {x1 x2 y : List Int} {f : Int} (h : LFl e E1 cs xs M) : LFl e E1 (cs ++ [.int .i64 f, a, b]) (xs ++ [(f, [x1, x2], y)]) (M ++ [slH E1 1 a 2 [a1, a2], intsH e a1 x1, intsH e a2 x2, intsH e b y]) := by
 intro l hl
 obtain ⟨p, q, hp, hq, rfl⟩ := star_append.1 hl
 obtain ⟨Ls, hd, hs⟩ := h p hp
 obtain ⟨r, t, hr, ht, rfl⟩ := (star_append (A := [slH E1 1 a 2 [a1, a2], intsH e a1 x1, intsH e a2 x2]) (B := [intsH e b y])).1 hq
 exact ⟨_, hd.snoc (es := [.int .i64 f, a, b]) (x := (f, [x1, x2], y)) (K := [rowsD e E1 a [x1, x2], intsH e b y]) rfl ⟨a, b, rfl, rfl⟩, star_append.2 ⟨p, r ++ t, hs, ⟨r, t, rowsD2 hr, ht, rfl⟩, rfl⟩⟩
theorem LFl.cons {a1 a2 : Value} {x1 x2 y : List Int} {f : Int} (h : LFl e E1 cs xs M) : LFl e E1 ([.int .i64 f, a, b] ++ cs) ((f, [x1, x2], y) :: xs) (slH E1 1 a 2 [a1, a2] :: intsH e a1 x1 :: intsH e a2 x2 :: intsH e b y :: M) := by
 intro l hl
 obtain ⟨p, q, hp, hq, rfl⟩ := (star_append (A := [slH E1 1 a 2 [a1, a2], intsH e a1 x1, intsH e a2 x2, intsH e b y]) (B := M)).1 hl
 obtain ⟨Ls, hd, hs⟩ := h q hq
 obtain ⟨r, t, hr, ht, rfl⟩ := (star_append (A := [slH E1 1 a 2 [a1, a2], intsH e a1 x1, intsH e a2 x2]) (B := [intsH e b y])).1 hp
 exact ⟨[rowsD e E1 a [x1, x2], intsH e b y] ++ Ls, DeepL.cons9 (es := [.int .i64 f, a, b]) (x := (f, [x1, x2], y)) rfl ⟨a, b, rfl, rfl⟩ hd, star_append.2 ⟨r ++ t, q, ⟨r, t, rowsD2 hr, ht, rfl⟩, hs, rfl⟩⟩
theorem Fresh.two {A B C : HP} (h : Fresh F G (star [A, B, C])) : Fresh F G (star [A, B]) := h.sub (List.Sublist.cons_cons _ (List.Sublist.cons_cons _ (List.Sublist.cons _ List.Sublist.slnil)))
def LineO2 (F : FH) (E1 e : TypeId) (es : List Value) (x : LineT) (K : List HP) : Prop := LineO E1 e es x K ∨ ∃ a b, es = [.int .i64 x.1, a, b] ∧ RowsF F a x.2.1 ∧ K = [intsH e b x.2.2]
theorem DeepL.imp9 {α : Type} {s : Nat} {R R' : List Value → α → List HP → Prop} {cs : List Value} {xs : List α} {L : List HP} (hR : ∀ es x K, R es x K → R' es x K) (h : DeepL s R cs xs L) : DeepL s R' cs xs L := by
 induction h with
 | nil => exact DeepL.nil
 | snoc _ hl hr ih => exact ih.snoc hl (hR _ _ _ hr)
theorem DeepL.at9 {α : Type} {s : Nat} {R : List Value → α → List HP → Prop} {d : α} {cs : List Value} {xs : List α} {L : List HP} (h : DeepL s R cs xs L) {k : Nat} (hk : k < xs.length) : ∃ A K B es, L = A ++ (K ++ B) ∧ es.length = s ∧ R es (xs.getD k d) K ∧ (∀ j u, es[j]? = some u → cs[k * s + j]? = some u) ∧
  ∀ (R' : List Value → α → List HP → Prop), (∀ es x K, R es x K → R' es x K) → ∀ es' x' K', es'.length = s → R' es' x' K' → DeepL s R' (cs.take (k * s) ++ es' ++ cs.drop (k * s + s)) (xs.set k x') (A ++ (K' ++ B)) := by
 induction h with
 | nil => simp at hk
 | @snoc cs es xs x L K h hl hr ih =>
  have hlen := h.len
  rw [List.length_append, List.length_singleton] at hk
  rcases Nat.lt_or_ge k xs.length with hlt | hge
  ·obtain ⟨A, K0, B, es0, rfl, hl0, hr0, hg0, hput⟩ := ih hlt
   have hb : k * s + s ≤ cs.length := by
    rw [hlen]
    have : (k + 1) * s ≤ xs.length * s := Nat.mul_le_mul_right s hlt
    rwa [Nat.succ_mul] at this
   refine ⟨A, K0, B ++ K, es0, by simp, hl0, ?_, fun j u hu => ?_, fun R' hR es' x' K' hl' hr' => ?_⟩
   ·have : (xs ++ [x]).getD k d = xs.getD k d := by simp [List.getD_eq_getElem?_getD, List.getElem?_append_left hlt]
    rw [this]; exact hr0
   ·have := hg0 j u hu
    rw [List.getElem?_append_left (List.getElem?_eq_some_iff.1 this).1]; exact this
   ·have h1 := (hput R' hR es' x' K' hl' hr').snoc hl (hR _ _ _ hr)
    have e1 : (cs ++ es).take (k * s) ++ es' ++ (cs ++ es).drop (k * s + s) = cs.take (k * s) ++ es' ++ cs.drop (k * s + s) ++ es := by
     rw [List.take_append_of_le_length (by omega), List.drop_append_of_le_length (by omega)]; simp
    have e2 : (xs ++ [x]).set k x' = xs.set k x' ++ [x] := by rw [List.set_append_left _ _ hlt]
    have e3 : A ++ (K' ++ (B ++ K)) = A ++ (K' ++ B) ++ K := by simp
    rw [e1, e2, e3]; exact h1
  ·obtain rfl : k = xs.length := by omega
   refine ⟨L, K, [], es, by simp, hl, ?_, fun j u hu => ?_, fun R' hR es' x' K' hl' hr' => ?_⟩
   ·have : (xs ++ [x]).getD xs.length d = x := by simp [List.getD_eq_getElem?_getD]
    rw [this]; exact hr
   ·rw [← hlen, List.getElem?_append_right (by omega)]
    rw [show cs.length + j - cs.length = j from by omega]; exact hu
   ·have e1 : (cs ++ es).take (xs.length * s) ++ es' ++ (cs ++ es).drop (xs.length * s + s) = cs ++ es' := by
     rw [← hlen, List.take_left, List.drop_eq_nil_of_le (by simp; omega)]; simp
    have e2 : (xs ++ [x]).set xs.length x' = xs ++ [x'] := by simp
    rw [e1, e2, List.append_nil]; exact (h.imp9 hR).snoc hl' hr'
theorem LineO2.fz (es : List Value) (x : LineT) (K : List HP) (h : LineO2 F E1 e es x K) (hz : ∃ l, star K l ∧ ∀ p ∈ l, F.cells p.1 = some p.2) : LineF F es x := by
 rcases h with h | ⟨a, b, rfl, ha, rfl⟩
 ·exact LineO.fz es x K h hz
 ·exact ⟨a, b, rfl, ha, intsH.fz (E := e) (frozen_star hz _ (by simp))⟩
def LinesX (F : FH) (cs : List Value) (xs : List LineT) (k : Nat) (a : Value) : Prop := ∀ F' y, F ≤ F' → RowsF F' a y → LinesC F' cs (xs.set k ((xs.getD k (0, [], [])).1, y, (xs.getD k (0, [], [])).2.2))
theorem linesH.slv (A : List HP) {B : List HP} (hL : L = A ++ linesD e E1 E v xs :: B) : SlV F L v xs.length := by
 subst hL
 intro w H
 obtain ⟨h1, h2, h3, h4, l, hl, nd, hp⟩ := H
 obtain ⟨la, m, lc, ha, ⟨cs, Ls, hd, x, y, hx, hy, rfl⟩, hc, rfl⟩ := star_mid.1 hl
 refine SlV.own (F := F) (A ++ [star Ls]) (B := B) (E := E) (s := 3) (n := xs.length) (v := v) (cs := cs) rfl w ⟨h1, h2, h3, h4, (la ++ y) ++ (x ++ lc), star_append.2 ⟨la ++ y, x ++ lc, star_append.2 ⟨la, y, ha, ⟨y, [], hy, rfl, by simp⟩, rfl⟩, ⟨x, lc, hx, hc, rfl⟩, rfl⟩, ?_, ?_⟩
 ·have pm : (la ++ ((x ++ y) ++ lc)).Perm ((la ++ y) ++ (x ++ lc)) := by
   haveI : DecidableEq (Nat × Obj) := fun _ _ => Classical.propDecidable _
   refine List.perm_iff_count.2 fun z => ?_
   simp only [List.count_append]; omega
  exact (pm.map Prod.fst).nodup_iff.1 nd
 ·intro p hq; refine hp p ?_; simp only [List.mem_append] at hq ⊢
  rcases hq with (hq | hq) | hq | hq
  ·exact .inl hq
  ·exact .inr (.inl (.inr hq))
  ·exact .inr (.inl (.inl hq))
  ·exact .inr (.inr hq)
theorem LinesX.close {k : Nat} {y : List (List Int)} (h : LinesX F cs xs k a) (le : F ≤ F1) (hy : RowsF F1 a y) : LinesC F1 cs (xs.set k ((xs.getD k (0, [], [])).1, y, (xs.getD k (0, [], [])).2.2)) := h F1 y le hy
end
section
variable {e E2 E : TypeId} {F F1 F2 G : FH} {v a b c : Value} {cs : List Value} {xs : List CRuleT} {L M : List HP}
def CFl (e E2 : TypeId) (cs : List Value) (xs : List CRuleT) (M : List HP) : Prop := ∀ l, star M l → ∃ Ls, DeepL 3 (CRuleO E2 e) cs xs Ls ∧ star Ls l
theorem CFl.nil : CFl e E2 [] [] [] := fun l h => ⟨[], DeepL.nil, h⟩
theorem pairsD1 {a1 a2 : Value} {x1 x2 : List Int} {l : OH} (h : star [slH E2 2 a 1 [a1, a2], intsH e a1 x1, intsH e a2 x2] l) : pairsD e E2 a [(x1, x2)] l :=
 ⟨[a1, a2], [intsH e a1 x1, intsH e a2 x2], DeepL.nil.snoc (es := [a1, a2]) (x := (x1, x2)) (K := [intsH e a1 x1, intsH e a2 x2]) rfl ⟨_, _, rfl, rfl⟩, h⟩
theorem CFl.cons0 {x y : List Int} (h : CFl e E2 cs xs M) : CFl e E2 ([a, b, .slice none 0 0] ++ cs) ((x, y, []) :: xs) (intsH e a x :: intsH e b y :: M) := by
 intro l hl
 obtain ⟨p, q, hp, hq, rfl⟩ := (star_append (A := [intsH e a x, intsH e b y]) (B := M)).1 hl
 obtain ⟨Ls, hd, hs⟩ := h q hq
 exact ⟨[intsH e a x, intsH e b y, pairsD e E2 (.slice none 0 0) []] ++ Ls, DeepL.cons9 (es := [a, b, .slice none 0 0]) (x := (x, y, [])) rfl ⟨a, b, _, rfl, rfl⟩ hd,
  (star_append (A := [intsH e a x, intsH e b y, pairsD e E2 (.slice none 0 0) []])).2 ⟨p, q, (star_append (A := [intsH e a x, intsH e b y]) (B := [pairsD e E2 (.slice none 0 0) []])).2 ⟨p, [], hp, ⟨[], [], nilPairsD, rfl, rfl⟩, by simp⟩, hs, rfl⟩⟩
theorem CFl.cons1 {a1 a2 : Value} {x y x1 x2 : List Int} (h : CFl e E2 cs xs M) : CFl e E2 ([a, b, c] ++ cs) ((x, y, [(x1, x2)]) :: xs) (intsH e a x :: intsH e b y :: slH E2 2 c 1 [a1, a2] :: intsH e a1 x1 :: intsH e a2 x2 :: M) := by
 intro l hl
 obtain ⟨p, q, hp, hq, rfl⟩ := (star_append (A := [intsH e a x, intsH e b y, slH E2 2 c 1 [a1, a2], intsH e a1 x1, intsH e a2 x2]) (B := M)).1 hl
 obtain ⟨Ls, hd, hs⟩ := h q hq
 obtain ⟨r, t, hr, ht, rfl⟩ := (star_append (A := [intsH e a x, intsH e b y]) (B := [slH E2 2 c 1 [a1, a2], intsH e a1 x1, intsH e a2 x2])).1 hp
 exact ⟨[intsH e a x, intsH e b y, pairsD e E2 c [(x1, x2)]] ++ Ls, DeepL.cons9 (es := [a, b, c]) (x := (x, y, [(x1, x2)])) rfl ⟨a, b, c, rfl, rfl⟩ hd,
  (star_append (A := [intsH e a x, intsH e b y, pairsD e E2 c [(x1, x2)]])).2 ⟨r ++ t, q, (star_append (A := [intsH e a x, intsH e b y]) (B := [pairsD e E2 c [(x1, x2)]])).2 ⟨r, t, hr, ⟨t, [], pairsD1 ht, rfl, by simp⟩, rfl⟩, hs, rfl⟩⟩
theorem csys_fresh {n : Nat} {va : Value} {ar : List Int} (h : CFl e E2 cs xs M) (k : Fresh F G (star (intsH e va ar :: slH E 3 v n cs :: M))) (hn : n = xs.length) : Fresh F G (star [intsH e va ar, crulesD e E2 E v xs]) := by
 subst hn
 refine k.imp fun l hl => ?_
 obtain ⟨p, q, hp, ⟨r, t, hr, ht, rfl⟩, rfl⟩ := hl
 obtain ⟨Ls, hd, hs⟩ := h t ht
 exact ⟨p, _, hp, ⟨r ++ t, [], ⟨cs, Ls, hd, r, t, hr, hs, rfl⟩, rfl, by simp⟩, rfl⟩
theorem crule_more {x y : List Int} {z : List (List Int × List Int)} (hd : DeepL 3 (CRuleO E2 e) cs xs L) : DeepL 3 (CRuleO E2 e) (cs ++ [a, b, c]) (xs ++ [(x, y, z)]) (L ++ [intsH e a x, intsH e b y, pairsD e E2 c z]) :=
 hd.snoc (es := [a, b, c]) (x := (x, y, z)) rfl ⟨a, b, c, rfl, rfl⟩
theorem cond_more {x y : List Int} {zs : List (List Int × List Int)} (hd : DeepL 2 (PairO e) cs zs L) : DeepL 2 (PairO e) (cs ++ [a, b]) (zs ++ [(x, y)]) (L ++ [intsH e a x, intsH e b y]) :=
 hd.snoc (es := [a, b]) (x := (x, y)) rfl ⟨a, b, rfl, rfl⟩
theorem CRulesC.setL {y : List Int} (h : CRulesC F cs xs) {j : Nat} (hj : j < xs.length) (ha : IntsF F a y) : CRulesC F (cs.set (j * 3) a) (xs.set j (y, (xs.getD j ([], [], [])).2)) :=
 CO.setOne (o := 0) h hj (by omega) (fun es _ ⟨p, q, r, h1, h2, h3, h4⟩ => ⟨a, q, r, by rw [h1]; rfl, ha, h3, h4⟩)
theorem CRulesC.setR {y : List Int} (h : CRulesC F cs xs) {j : Nat} (hj : j < xs.length) (ha : IntsF F a y) : CRulesC F (cs.set (j * 3 + 1) a) (xs.set j ((xs.getD j ([], [], [])).1, y, (xs.getD j ([], [], [])).2.2)) :=
 CO.setOne (o := 1) h hj (by omega) (fun es _ ⟨p, q, r, h1, h2, h3, h4⟩ => ⟨p, a, r, by rw [h1]; rfl, h2, ha, h4⟩)
theorem CRulesC.setConds {y : List (List Int × List Int)} (h : CRulesC F cs xs) {j : Nat} (hj : j < xs.length) (ha : PairsF F a y) : CRulesC F (cs.set (j * 3 + 2) a) (xs.set j ((xs.getD j ([], [], [])).1, (xs.getD j ([], [], [])).2.1, y)) :=
 CO.setOne (o := 2) h hj (by omega) (fun es _ ⟨p, q, r, h1, h2, h3, h4⟩ => ⟨p, q, a, by rw [h1]; rfl, h2, h3, ha⟩)
def CRuleO2 (F : FH) (E2 e : TypeId) (es : List Value) (x : CRuleT) (K : List HP) : Prop := CRuleO E2 e es x K ∨ ∃ a b c, es = [a, b, c] ∧ PairsF F c x.2.2 ∧ K = [intsH e a x.1, intsH e b x.2.1]
theorem CRuleO2.fz (es : List Value) (x : CRuleT) (K : List HP) (h : CRuleO2 F E2 e es x K) (hz : ∃ l, star K l ∧ ∀ p ∈ l, F.cells p.1 = some p.2) : CRuleF F es x := by
 rcases h with h | ⟨a, b, c, rfl, hc, rfl⟩
 ·exact CRuleO.fz es x K h hz
 ·exact ⟨a, b, c, rfl, intsH.fz (E := e) (frozen_star hz _ (by simp)), intsH.fz (E := e) (frozen_star hz _ (by simp)), hc⟩
def CRulesX (F : FH) (cs : List Value) (xs : List CRuleT) (k : Nat) : Prop := ∀ F' a y, F ≤ F' → PairsF F' a y → CRulesC F' (cs.set (k * 3 + 2) a) (xs.set k ((xs.getD k ([], [], [])).1, (xs.getD k ([], [], [])).2.1, y))
theorem set_last3 {cs : List Value} {k : Nat} {a b c c' : Value} (h0 : cs[k * 3 + 0]? = some a) (h1 : cs[k * 3 + 1]? = some b) (h2 : cs[k * 3 + 2]? = some c) : cs.set (k * 3 + 2) c' = cs.take (k * 3) ++ [a, b, c'] ++ cs.drop (k * 3 + 3) := by
 have q2 : (cs.set (k * 3 + 2) c')[k * 3 + 2]? = some c' := by rw [List.getElem?_set_self (List.getElem?_eq_some_iff.1 h2).1]
 have q0 : (cs.set (k * 3 + 2) c')[k * 3 + 0]? = some a := by rw [List.getElem?_set_ne (by omega)]; exact h0
 have q1 : (cs.set (k * 3 + 2) c')[k * 3 + 1]? = some b := by rw [List.getElem?_set_ne (by omega)]; exact h1
 have h := set_three (a' := a) (b' := b) q0 q1 q2
 have e : ((cs.set (k * 3 + 2) c').set (k * 3) a).set (k * 3 + 1) b = cs.set (k * 3 + 2) c' := by
  have e0 : (cs.set (k * 3 + 2) c').set (k * 3) a = cs.set (k * 3 + 2) c' := by
   obtain ⟨hl, he⟩ := List.getElem?_eq_some_iff.1 q0
   have := List.set_getElem_self (as := cs.set (k * 3 + 2) c') (i := k * 3) hl
   rw [show (cs.set (k * 3 + 2) c')[k * 3] = a from he] at this; exact this
  rw [e0]
  obtain ⟨hl, he⟩ := List.getElem?_eq_some_iff.1 q1
  have := List.set_getElem_self (as := cs.set (k * 3 + 2) c') (i := k * 3 + 1) hl
  rw [he] at this; exact this
 rw [e] at h
 rw [h, List.take_set_of_le (by omega), List.drop_set_of_lt (by omega)]
theorem PairO.fz9 {pcs : List Value} {zs : List (List Int × List Int)} {RL : List HP} {q : OH} (hd : DeepL 2 (PairO e) pcs zs RL) (hq : star RL q) (h : ∀ p ∈ q, F.cells p.1 = some p.2) : PairsC F pcs zs := hd.co PairO.fz ⟨q, hq, h⟩
theorem Holds.openConds {A B : List HP} {w : World} {k : Nat} (hk : k < xs.length) (H : Holds F (A ++ crulesD e E2 E v xs :: B) w) :
  ∃ cs a pcs F2, F ≤ F2 ∧ IsSl v ∧ IsSl a ∧ cs[k * 3 + 2]? = some a ∧ cs.length = xs.length * 3 ∧ PairsC F2 pcs (xs.getD k ([], [], [])).2.2 ∧ CRulesX F2 cs xs k ∧
   Holds F2 (slH E2 2 a (xs.getD k ([], [], [])).2.2.length pcs :: (A ++ slH E 3 v xs.length cs :: B)) w := by
 obtain ⟨h1, h2, h3, h4, l, hl, nd, hp⟩ := H
 obtain ⟨la, m, lc, ha, ⟨cs, Ls, hd, x, y, hx, hy, rfl⟩, hc, rfl⟩ := star_mid.1 hl
 obtain ⟨A1, K, B1, es, rfl, hel, ⟨a0, b0, a, rfl, rfl⟩, hg, hput⟩ := hd.at9 (d := (([], [], []) : CRuleT)) hk
 have hb := hd.bound hk
 obtain ⟨y1, y2, hy1, hy2, rfl⟩ := star_append.1 hy
 obtain ⟨yk, y3, hyk, hy3, rfl⟩ := star_append.1 hy2
 obtain ⟨k0, kr2, hk0, ⟨k1, kr3, hk1, ⟨kr, kb, ⟨pcs, RL, hdr, p, q, hpp, hqq, rfl⟩, hkb, rfl⟩, rfl⟩, rfl⟩ := hyk
 obtain rfl : kb = [] := hkb
 have hlen := hd.len
 have hself := splice_self hel hg hb
 have pm : (la ++ ((x ++ (y1 ++ ((k0 ++ (k1 ++ ((p ++ q) ++ []))) ++ y3))) ++ lc)).Perm ((p ++ (la ++ (x ++ lc))) ++ ((q ++ (y1 ++ ((k0 ++ k1) ++ y3))) ++ [])) := by
  haveI : DecidableEq (Nat × Obj) := fun _ _ => Classical.propDecidable _
  refine List.perm_iff_count.2 fun z => ?_
  simp only [List.count_append, List.count_nil]; omega
 have hk01 : star [intsH e a0 (xs.getD k ([], [], [])).1, intsH e b0 (xs.getD k ([], [], [])).2.1] (k0 ++ k1) := ⟨k0, k1, hk0, ⟨k1, [], hk1, rfl, by simp⟩, rfl⟩
 have H2 : Holds F ((slH E2 2 a (xs.getD k ([], [], [])).2.2.length pcs :: (A ++ slH E 3 v xs.length cs :: B)) ++ star (RL ++ (A1 ++ ([intsH e a0 (xs.getD k ([], [], [])).1, intsH e b0 (xs.getD k ([], [], [])).2.1] ++ B1))) :: []) w := by
  refine ⟨h1, h2, h3, h4, (p ++ (la ++ (x ++ lc))) ++ ((q ++ (y1 ++ ((k0 ++ k1) ++ y3))) ++ []), star_append.2 ⟨_, _, ⟨p, _, hpp, star_append.2 ⟨la, x ++ lc, ha, ⟨x, lc, hx, hc, rfl⟩, rfl⟩, rfl⟩, ⟨_, [], star_append.2 ⟨q, _, hqq, star_append.2 ⟨y1, _, hy1, star_append.2 ⟨k0 ++ k1, y3, hk01, hy3, rfl⟩, rfl⟩, rfl⟩, rfl, rfl⟩, rfl⟩, ?_, ?_⟩
  ·exact (pm.map Prod.fst).nodup_iff.1 nd
  ·exact fun z hz => hp z (pm.mem_iff.2 hz)
 obtain ⟨F2, le, hz, H3, _⟩ := H2.lendF
 refine ⟨cs, a, pcs, F2, le, hx.isSl, hpp.isSl, hg 2 _ rfl, hlen, ?_, ?_, by simpa using H3⟩
 ·obtain ⟨m, hm, _, hm2⟩ := hz
  obtain ⟨q1, q2, hq1, hq2, rfl⟩ := star_append.1 hm
  exact PairO.fz9 hdr hq1 fun p hp => (hm2 p (List.mem_append_left _ hp)).2
 ·intro F' a' y9 le' hy9
  obtain ⟨m, hm, _, hm2⟩ := hz
  obtain ⟨q1, q2, hq1, hq2, rfl⟩ := star_append.1 hm
  have h9 := hput (CRuleO2 F' E2 e) (fun es x K h => .inl h) [a0, b0, a'] ((xs.getD k ([], [], [])).1, (xs.getD k ([], [], [])).2.1, y9) [intsH e a0 (xs.getD k ([], [], [])).1, intsH e b0 (xs.getD k ([], [], [])).2.1] rfl (.inr ⟨a0, b0, a', rfl, hy9, rfl⟩)
  rw [← set_last3 (c' := a') (hg 0 _ rfl) (hg 1 _ rfl) (hg 2 _ rfl)] at h9
  exact h9.co CRuleO2.fz ⟨q2, hq2, fun p hp => le'.cells _ _ (hm2 p (List.mem_append_right _ hp)).2⟩
theorem X.openConds {P : Program} {n : Nat} {c : Code} {Q : QX} {ρ : Env} (A B : List HP) {k : Nat} (hk : k < xs.length) (hL : L = A ++ crulesD e E2 E v xs :: B)
  (H : ∀ cs a pcs F2, F ≤ F2 → IsSl v → IsSl a → cs[k * 3 + 2]? = some a → cs.length = xs.length * 3 → PairsC F2 pcs (xs.getD k ([], [], [])).2.2 → CRulesX F2 cs xs k →
   X P n c Q ρ F2 (slH E2 2 a (xs.getD k ([], [], [])).2.2.length pcs :: (A ++ slH E 3 v xs.length cs :: B))) : X P n c Q ρ F L := by
 subst hL
 intro ok a w r Hw
 obtain ⟨cs, a', pcs, F2, le, h1, h2, h3, h4, h5, h6, H'⟩ := Hw.openConds hk
 exact Code.wp_mono (fun _ _ _ q => low_le le q) (H cs a' pcs F2 le h1 h2 h3 h4 h5 h6 ok a w r H')
theorem CRulesX.close {k : Nat} {y : List (List Int × List Int)} (h : CRulesX F cs xs k) (le : F ≤ F1) (hy : PairsF F1 a y) : CRulesC F1 (cs.set (k * 3 + 2) a) (xs.set k ((xs.getD k ([], [], [])).1, (xs.getD k ([], [], [])).2.1, y)) := h F1 a y le hy
theorem crulesH.slv (A : List HP) {B : List HP} (hL : L = A ++ crulesD e E2 E v xs :: B) : SlV F L v xs.length := by
 subst hL
 intro w H
 obtain ⟨h1, h2, h3, h4, l, hl, nd, hp⟩ := H
 obtain ⟨la, m, lc, ha, ⟨cs, Ls, hd, x, y, hx, hy, rfl⟩, hc, rfl⟩ := star_mid.1 hl
 refine SlV.own (F := F) (A ++ [star Ls]) (B := B) (E := E) (s := 3) (n := xs.length) (v := v) (cs := cs) rfl w ⟨h1, h2, h3, h4, (la ++ y) ++ (x ++ lc), star_append.2 ⟨la ++ y, x ++ lc, star_append.2 ⟨la, y, ha, ⟨y, [], hy, rfl, by simp⟩, rfl⟩, ⟨x, lc, hx, hc, rfl⟩, rfl⟩, ?_, ?_⟩
 ·have pm : (la ++ ((x ++ y) ++ lc)).Perm ((la ++ y) ++ (x ++ lc)) := by
   haveI : DecidableEq (Nat × Obj) := fun _ _ => Classical.propDecidable _
   refine List.perm_iff_count.2 fun z => ?_
   simp only [List.count_append]; omega
  exact (pm.map Prod.fst).nodup_iff.1 nd
 ·intro p hq; refine hp p ?_; simp only [List.mem_append] at hq ⊢
  rcases hq with (hq | hq) | hq | hq
  ·exact .inl hq
  ·exact .inr (.inl (.inr hq))
  ·exact .inr (.inl (.inl hq))
  ·exact .inr (.inr hq)
end
end Go.Proofs.YteodlimhopibkaaGreat.X
namespace Go.Proofs.YteodlimhopibkaaGreat.M
section
variable {ar t : List Int} {cr : List CR} {i k : Nat} {z : Int}
def plainRs (cr : List CR) : Rules := cr.map fun x => (x.1, x.2.1)
def noConds (cr : List CR) : Bool := cr.all fun x => decide (x.2.2.length = 0)
def plainB (ar : List Int) (cr : List CR) : Bool := csysOk ar cr && noConds cr
theorem plainRs_len : (plainRs cr).length = cr.length := by simp [plainRs]
theorem plainRs_get (h : i < cr.length) : (plainRs cr).getD i ([], []) = ((cr.getD i ([], [], [])).1, (cr.getD i ([], [], [])).2.1) := by simp [plainRs, List.getD, h]
theorem plainRs_take (h : k < cr.length) : plainRs (cr.take (k + 1)) = plainRs (cr.take k) ++ [((cr.getD k ([], [], [])).1, (cr.getD k ([], [], [])).2.1)] := by
 unfold plainRs
 rw [List.take_add_one, List.map_append, List.getElem?_eq_getElem h]
 simp [List.getD, h]
theorem noConds_fail (hk : k < cr.length) (h : 0 < (cr.getD k ([], [], [])).2.2.length) : noConds cr = false := all_fail (([], [], []) : CR) hk (decide_eq_false (by omega))
theorem noConds_iff : noConds cr = true ↔ ∀ i, i < cr.length → (cr.getD i ([], [], [])).2.2.length = 0 := by
 unfold noConds
 rw [all_getD_iff (([], [], []) : CR)]
 exact ⟨fun h i hi => of_decide_eq_true (h i hi), fun h i hi => decide_eq_true (h i hi)⟩
theorem plainB_no (h : csysOk ar cr = false) : plainB ar cr = false := by unfold plainB; rw [h]; rfl
theorem plainB_cond (hk : k < cr.length) (h : 0 < (cr.getD k ([], [], [])).2.2.length) : plainB ar cr = false := by unfold plainB; rw [noConds_fail hk h, Bool.and_false]
theorem plainB_yes (hc : csysOk ar cr = true) (h : ∀ i, i < cr.length → (cr.getD i ([], [], [])).2.2.length = 0) : plainB ar cr = true := by unfold plainB; rw [hc, noConds_iff.2 h]; rfl
theorem plainB_iff : plainB ar cr = true ↔ csysOk ar cr = true ∧ ∀ i, i < cr.length → (cr.getD i ([], [], [])).2.2.length = 0 := by
 unfold plainB
 rw [Bool.and_eq_true, noConds_iff]
theorem cOkGo_nil {us : RowL} : cOkGo ar us [] = some us := by unfold cOkGo; rfl
theorem crule_plain (h : cruleOk ar (cr.getD i ([], [], [])) = true) (h2 : (cr.getD i ([], [], [])).2.2.length = 0) : ruleOk ar (cr.getD i ([], [], [])).1 (cr.getD i ([], [], [])).2.1 = true := by
 have hf := cruleOk_facts h
 have hn : (cr.getD i ([], [], [])).2.2 = [] := List.eq_nil_of_length_eq_zero h2
 unfold cruleOk at h
 rw [hn, cOkGo_nil, Bool.and_eq_true] at h
 have h3 := h.2
 simp only [knownL, List.all_eq_true, Bool.or_eq_true, decide_eq_true_eq, List.any_cons, List.any_nil, or_false, Bool.or_false] at h3
 unfold ruleOk
 rw [hf.left, hf.right, decide_eq_true hf.head]
 simp only [Bool.true_and, List.all_eq_true, decide_eq_true_eq]
 exact h3
theorem plain_sys (h : plainB ar cr = true) : sysOk ar (plainRs cr) = true := by
 obtain ⟨hc, hn⟩ := plainB_iff.1 h
 obtain ⟨h1, h2, h3⟩ := csysOk_iff.1 hc
 refine sysOk_iff.2 ⟨h1, by rw [plainRs_len]; exact h2, fun i hi => ?_⟩
 rw [plainRs_len] at hi
 rw [plainRs_get hi]
 exact crule_plain (h3 i hi) (hn i hi)
theorem plain_step (h : plainB ar cr = true) (hi : i < cr.length) : cstepF ar cr ((plainRs cr).getD i ([], [])).1 0 (i : Int) 0 = stepAtL ar (plainRs cr) ((plainRs cr).getD i ([], [])).1 0 (i : Int) := by
 obtain ⟨hc, hn⟩ := plainB_iff.1 h
 have hR := csysOk_at hc hi
 have hL : ((plainRs cr).getD i ([], [])).1 = (cr.getD i ([], [], [])).1 := by rw [plainRs_get hi]
 rw [hL]
 have hlen := (termOk_len hR.left).1
 have hok : cstepOk ar cr (cr.getD i ([], [], [])).1 0 (i : Int) 0 := ⟨depth_iff.2 ⟨⟨hc, hR.left⟩, by omega, by omega⟩, ⟨by omega, by omega⟩, by omega, by omega⟩
 have hok2 : stepAtOk ar (plainRs cr) (cr.getD i ([], [], [])).1 0 (i : Int) = true := by
  unfold stepAtOk
  rw [right_iff.2 ⟨plain_sys h, hR.left⟩, plainRs_len]
  simp only [Bool.true_and, Bool.and_eq_true, decide_eq_true_eq]
  exact ⟨⟨by omega, by omega⟩, by omega, by omega⟩
 rw [cstepF_yes hok, stepAtL, if_pos hok2]
 have e0 : (0 : Int).toNat = 0 := rfl
 have e1 : (i : Int).toNat = i := by omega
 rw [e0, e1]
 unfold stepD stepL
 rw [plainRs_get hi]
 have hcs : (RD cr i).2.2 = [] := List.eq_nil_of_length_eq_zero (hn i hi)
 show (match givenD ar cr 0 _ (RD cr i) with | none => none | some b => _) = (match matchB ar (RD cr i).1 _ with | none => none | some b => _)
 have hm : matchB ar (RD cr i).1 (sub ar (cr.getD i ([], [], [])).1 0) = mGo ar (sub ar (cr.getD i ([], [], [])).1 0) (RD cr i).1 0 (List.replicate 24 []) := rfl
 cases hb : mGo ar (sub ar (cr.getD i ([], [], [])).1 0) (RD cr i).1 0 (List.replicate 24 []) with
 | none =>
  rw [hm, hb, given_none (by rw [hb]; rfl)]
 | some b =>
  rw [hm, hb, given_go hb (.inl (by rw [hcs]; rfl)), show condD ar cr 0 b (RD cr i).2.2 = some b from by
   have := condD_end (ar := ar) (cr := cr) (d := 0) (b := b) (cs := (RD cr i).2.2) (k := 0) (by rw [hcs]; simp)
   simpa using this]
  rfl
theorem pick_law (h : (pickF ar cr t 0).2.2 = true) : (0 ≤ (pickF ar cr t 0).2.1 ∧ (pickF ar cr t 0).2.1.toNat < cr.length) ∧ cruleOk ar (cr.getD (pickF ar cr t 0).2.1.toNat ([], [], [])) = true ∧ (cr.getD (pickF ar cr t 0).2.1.toNat ([], [], [])).2.2.length = 0 := by
 by_cases hd : depthB ar cr t 0 = true
 ·by_cases hp : pickD ar cr (0 : Int).toNat t = t.length
  ·rw [pickF_nil hp] at h; cases h
  ·have hf := pickF_yes hd hp
   rw [hf]
   obtain ⟨h1, h2, h3, h4⟩ := pickD_step hp
   have hc := (depth_iff.1 hd).1.1
   refine ⟨⟨h2, h3⟩, (csysOk_iff.1 hc).2.2 _ h3, ?_⟩
   show (RD cr (ruleD ar cr (0 : Int).toNat t (pickD ar cr (0 : Int).toNat t)).toNat).2.2.length = 0
   refine Nat.eq_zero_of_not_pos fun hpos => ?_
   have e : stepD ar cr (0 : Int).toNat (RD cr (ruleD ar cr (0 : Int).toNat t (pickD ar cr (0 : Int).toNat t)).toNat) t (pickD ar cr (0 : Int).toNat t) = none := by
    refine stepD_none ?_
    cases hb : mGo ar (sub ar t (pickD ar cr (0 : Int).toNat t)) (RD cr (ruleD ar cr (0 : Int).toNat t (pickD ar cr (0 : Int).toNat t)).toNat).1 0 (List.replicate 24 []) with
    | none => exact given_none (by rw [hb]; rfl)
    | some b => exact given_zero hb hpos rfl
   rw [e] at h4; cases h4
 ·rw [pickF_no (by simpa using hd)] at h; cases h
theorem pick_lawZ (hz : z = 0) (h : (pickF ar cr t z).2.2 = true) : 0 ≤ (pickF ar cr t z).2.1 ∧ (pickF ar cr t z).2.1.toNat < cr.length ∧ cruleOk ar (cr.getD (pickF ar cr t z).2.1.toNat ([], [], [])) = true ∧ (cr.getD (pickF ar cr t z).2.1.toNat ([], [], [])).2.2.length = 0 := by
 subst hz
 obtain ⟨⟨h1, h2⟩, h3, h4⟩ := pick_law h
 exact ⟨h1, h2, h3, h4⟩
end
section
variable {m n k : Nat} {xs : List CR} {x y : CR}
def cruleS (m : Nat) (x : CR) : Bool := decide (x.1.length ≤ 2000) && (decide (x.2.1.length ≤ 2000) && (decide (x.2.2.length ≤ m) && x.2.2.all fun e => decide (e.1.length ≤ 2000) && decide (e.2.length ≤ 2000)))
def crulesS (m : Nat) (xs : List CR) : Bool := xs.all (cruleS m)
theorem cruleS_iff : cruleS m x = true ↔ x.1.length ≤ 2000 ∧ x.2.1.length ≤ 2000 ∧ x.2.2.length ≤ m ∧ ∀ q, q < x.2.2.length → (x.2.2.getD q ([], [])).1.length ≤ 2000 ∧ (x.2.2.getD q ([], [])).2.length ≤ 2000 := by
 unfold cruleS
 simp only [Bool.and_eq_true, decide_eq_true_eq, all_getD_iff (([], []) : List Int × List Int)]
theorem cruleS_W (h : cruleS m x = true) (hn : m ≤ n) : cruleS n x = true := let ⟨h1, h2, h3, h4⟩ := cruleS_iff.1 h; cruleS_iff.2 ⟨h1, h2, by omega, h4⟩
theorem crulesS_W (h : crulesS m xs = true) (hn : m ≤ n) : crulesS n xs = true := by
 unfold crulesS at h ⊢
 rw [List.all_eq_true] at h ⊢
 exact fun x hx => cruleS_W (h x hx) hn
theorem crulesS_at (h : crulesS m xs = true) (k : Nat) : cruleS m (xs.getD k ([], [], [])) = true := by
 rcases Nat.lt_or_ge k xs.length with hk | hk
 ·exact (all_getD_iff (([], [], []) : CR)).1 h k hk
 ·rw [List.getD_eq_getElem?_getD, List.getElem?_eq_none hk]
  exact cruleS_iff.2 ⟨by simp, by simp, by simp, fun q hq => absurd hq (by simp)⟩
theorem crulesS_snoc (h : crulesS m xs = true) (hx : cruleS m x = true) : crulesS m (xs ++ [x]) = true := by unfold crulesS at h ⊢; simp [h, hx]
theorem crulesS_set (h : crulesS m xs = true) (hy : cruleS m y = true) : crulesS m (xs.set k y) = true := by
 unfold crulesS at h ⊢
 rw [List.all_eq_true] at h ⊢
 intro z hz
 rcases List.mem_or_eq_of_mem_set hz with h1 | h1
 ·exact h z h1
 ·rw [h1]; exact hy
theorem crulesS_bounds (h : crulesS 3 xs = true) : ∀ i, i < xs.length → (xs.getD i ([], [], [])).1.length ≤ 4000000 ∧ (xs.getD i ([], [], [])).2.1.length ≤ 4000000 ∧ (xs.getD i ([], [], [])).2.2.length ≤ 4000000 ∧ ∀ q, q < (xs.getD i ([], [], [])).2.2.length → ((xs.getD i ([], [], [])).2.2.getD q ([], [])).1.length ≤ 4000000 ∧ ((xs.getD i ([], [], [])).2.2.getD q ([], [])).2.length ≤ 4000000 := fun i hi => by
 obtain ⟨h1, h2, h3, h4⟩ := cruleS_iff.1 (crulesS_at h i)
 exact ⟨by omega, by omega, by omega, fun q hq => by have := h4 q hq; omega⟩
def condsS (m : Nat) (cs : List (List Int × List Int)) : Prop := cs.length ≤ m ∧ ∀ q, q < cs.length → (cs.getD q ([], [])).1.length ≤ 2000 ∧ (cs.getD q ([], [])).2.length ≤ 2000
theorem condsS_nil : condsS 0 [] := ⟨Nat.le_refl _, fun q hq => absurd hq (by simp)⟩
theorem condsS_snoc {cs : List (List Int × List Int)} {a b : List Int} (h : condsS m cs) (ha : a.length ≤ 2000) (hb : b.length ≤ 2000) : condsS (m + 1) (cs ++ [(a, b)]) := by
 refine ⟨by simp; exact h.1, fun q hq => ?_⟩
 rcases Nat.lt_or_ge q cs.length with h1 | h1
 ·have e : (cs ++ [(a, b)]).getD q ([], []) = cs.getD q ([], []) := by simp [List.getD_eq_getElem?_getD, List.getElem?_append_left h1]
  rw [e]; exact h.2 q h1
 ·have : q = cs.length := by simp at hq; omega
  subst this
  simp [List.getD_eq_getElem?_getD, ha, hb]
theorem condsS.rule {cs : List (List Int × List Int)} {a b : List Int} (h : condsS m cs) (hm : m ≤ n) (ha : a.length ≤ 2000) (hb : b.length ≤ 2000) : cruleS n (a, b, cs) = true := cruleS_iff.2 ⟨ha, hb, Nat.le_trans h.1 hm, h.2⟩
theorem cruleS_conds (h : cruleS m x = true) : condsS m x.2.2 := let ⟨_, _, h3, h4⟩ := cruleS_iff.1 h; ⟨h3, h4⟩
theorem condsS_nils {n : Nat} (h : n ≤ m) : condsS m (List.replicate n ([], [])) := by
 refine ⟨by simpa using h, fun q hq => ?_⟩
 have : q < n := by simpa using hq
 simp [List.getD_eq_getElem?_getD, this]
theorem cruleS_setL {a : List Int} (h : cruleS m x = true) (ha : a.length ≤ 2000) : cruleS m (a, x.2) = true := let ⟨_, h2, h3, h4⟩ := cruleS_iff.1 h; cruleS_iff.2 ⟨ha, h2, h3, h4⟩
theorem cruleS_setR {a : List Int} (h : cruleS m x = true) (ha : a.length ≤ 2000) : cruleS m (x.1, a, x.2.2) = true := let ⟨h1, _, h3, h4⟩ := cruleS_iff.1 h; cruleS_iff.2 ⟨h1, ha, h3, h4⟩
theorem cruleS_setC {cs : List (List Int × List Int)} (h : cruleS m x = true) (hc : condsS n cs) : cruleS n (x.1, x.2.1, cs) = true := let ⟨h1, h2, _, _⟩ := cruleS_iff.1 h; cruleS_iff.2 ⟨h1, h2, hc.1, hc.2⟩
end
end Go.Proofs.YteodlimhopibkaaGreat.M
namespace Go.Proofs.YteodlimhopibkaaGreat.X
open Go M
section
variable {e E2 : TypeId} {F0 F1 F F' : FH} {a b c : Value} {Q : List Int → Prop}
def SomeFrsF (e : TypeId) (F0 F : FH) (a : Value) (Q : List Int → Prop) : Prop := ∃ t, IntsF F a t ∧ Q t ∧ FreshsF F0 F (intsH e a t)
theorem SomeFrsF.mono (h : SomeFrsF e F0 F a Q) (le : F ≤ F') : SomeFrsF e F0 F' a Q := let ⟨t, h1, h2, h3⟩ := h; ⟨t, h1.mono le, h2, h3.mono le⟩
theorem SomeFrsF.base (h : SomeFrsF e F1 F a Q) (le : F0 ≤ F1) : SomeFrsF e F0 F a Q := let ⟨t, h1, h2, h3⟩ := h; ⟨t, h1, h2, Fresh.base h3 le⟩
def SomeCRulesF (e E2 : TypeId) (F0 F : FH) (a b c : Value) : Prop := ∃ l r cs, IntsF F a l ∧ IntsF F b r ∧ PairsF F c cs ∧ cruleS 2 (l, r, cs) = true ∧ FreshsF F0 F (star [intsH e a l, intsH e b r, pairsD e E2 c cs])
theorem SomeCRulesF.mono (h : SomeCRulesF e E2 F0 F a b c) (le : F ≤ F') : SomeCRulesF e E2 F0 F' a b c := let ⟨l, r, cs, h1, h2, h3, h4, h5⟩ := h; ⟨l, r, cs, h1.mono le, h2.mono le, h3.mono le, h4, h5.mono le⟩
theorem SomeCRulesF.base (h : SomeCRulesF e E2 F1 F a b c) (le : F0 ≤ F1) : SomeCRulesF e E2 F0 F a b c := let ⟨l, r, cs, h1, h2, h3, h4, h5⟩ := h; ⟨l, r, cs, h1, h2, h3, h4, Fresh.base h5 le⟩
variable {cs : List Value} {zs : List (List Int × List Int)} {xs : List CRuleT} {L : List HP} {x y : List Int} {z : List (List Int × List Int)}
theorem cond_moreF (hd : DeepL 2 (PairO e) cs zs L) (k : Fresh F0 F (star ((L ++ [intsH e a x]) ++ [intsH e b y]))) : ∃ L', DeepL 2 (PairO e) (cs ++ [a, b]) (zs ++ [(x, y)]) L' ∧ Fresh F0 F (star L') :=
 ⟨_, cond_more hd, by rwa [List.append_assoc] at k⟩
theorem crule_moreF (hd : DeepL 3 (CRuleO E2 e) cs xs L) (k : Fresh F0 F (star (L ++ [intsH e a x, intsH e b y, pairsD e E2 c z]))) : ∃ L', DeepL 3 (CRuleO E2 e) (cs ++ [a, b, c]) (xs ++ [(x, y, z)]) L' ∧ Fresh F0 F (star L') :=
 ⟨_, crule_more hd, k⟩
end
theorem Does.drawnF {P : Program} {f : FuncId} {args : List Value} {e : TypeId} {F : FH} {Q : List Int → Prop} {L : List HP} (H : Does P f args F L fun v F' L' => ∃ a, ((a : Value) = v ∧ IsSl a) ∧ drawnH e a Q :: L = L') :
  Does P f args F L fun v F' L' => (∃ a : Value, (a : Value) = v ∧ (SomeFrsF e F F' a Q)) ∧ L = L' :=
 Does.freeze (H.mono (by
  rintro _ F' L' le ⟨a, ⟨rfl, hs⟩, rfl⟩
  refine ⟨_, rfl, fun F2 le2 hz => ?_⟩
  obtain ⟨m, ⟨t, hq, hm⟩, h2, h3⟩ := hz
  exact ⟨⟨_, rfl, t, intsH.fz (E := e) ⟨m, hm, fun p hp => (h3 p hp).2⟩, hq, Fresh.base ⟨m, hm, h2, h3⟩ le⟩, rfl⟩))
open Go Go.WideShapes Go.ChangeShapes Go.RowKit
def fhOf (w : World) : FH := ⟨fun b => w.heap[b]?, w.os, w.output, w.tape⟩
theorem holds_fhOf (w : World) : Holds (fhOf w) [] w := ⟨rfl, rfl, rfl, fun _ _ h => h, [], rfl, List.nodup_nil, fun p hp => absurd hp (by simp)⟩
theorem cell_fhOf (w : World) (a : Addr) : (fhOf w).cell? a = w.cell? a := by
 unfold FH.cell? World.cell? fhOf
 rfl
theorem below_of_holds {w w' : World} {F' : FH} {L' : List HP} (le : fhOf w ≤ F') (h : Holds F' L' w') : Below w.heap.size w w' := by
 have key : ∀ k o, w.heap[k]? = some o → w'.heap[k]? = some o := fun k o hk => h.cells k o (le.cells k o hk)
 refine ⟨h.os.trans le.os, h.tape.trans le.tape, h.output.trans le.output, ?_, fun k hk => ?_⟩
 ·rcases Nat.eq_zero_or_pos w.heap.size with h0 | h0
  ·omega
  ·have h1 : w.heap[w.heap.size - 1]? = some (w.heap[w.heap.size - 1]'(by omega)) := Array.getElem?_eq_getElem (by omega)
   have h2 := (Array.getElem?_eq_some_iff.1 (key _ _ h1)).1
   omega
 ·have h1 : w.heap[k]? = some (w.heap[k]'hk) := Array.getElem?_eq_getElem hk
  rw [h1]
  exact key _ _ h1
def Opens (P : Program) (t : TypeId) {α : Type} (R : FH → List Value → α → Prop) (B : α → Prop) : Prop :=
 ∀ (H : Type) (enc : TypeId × Value → H) (w : World) (base : Nat) (spare : Nat → Bool) (held : Bool) (fuel : Nat) (cs : List Value) (x : DataW H × List MemPlace),
  DataW.trod enc P w base spare held fuel t cs = some x → ∃ a, R (fhOf w) cs a ∧ B a
section
variable {P : Program} {t e : TypeId}
theorem opens_slice {α : Type} {R : FH → List Value → α → Prop} {B : α → Prop} {s : Nat} (d : α) (ht : P.underlying t = some (.slice e)) (hc : P.cellsOf e = s) (ho : Opens P e R B) :
  Opens P t (fun F cs (xs : List α) => ∃ v, cs = [v] ∧ SlOf s R d F v xs) (fun xs => xs.length ≤ 9223372036854775807 ∧ ∀ i, i < xs.length → B (xs.getD i d)) := by
 intro H enc w base spare held fuel cs x h
 rcases Go.Deep.open_slice ht h with ⟨rfl, _⟩ | ⟨a, len, cap, m, n, D, Pl, rfl, hb, hl, hm, hmm, _, hx⟩
 ·exact ⟨[], ⟨_, rfl, [], ⟨by simp, none, 0, rfl, by simp, fun _ => rfl, fun a h => by cases h⟩, fun i hi => by simp at hi⟩, by simp, fun i hi => by simp at hi⟩
 ·have hlm : len ≤ m := by rw [hmm]; split <;> omega
  rw [hc] at hx
  have each : ∀ i, i < len → ∃ q : α, ∃ cs' : List Value, cs'.length = s ∧ (∀ r, r < s → w.cell? (a.add (i * s + r)) = cs'[r]?) ∧ R (fhOf w) cs' q ∧ B q := by
   intro i hi
   obtain ⟨cs', h1, h2⟩ := hx i (by omega)
   obtain ⟨_, hlen, hcell⟩ := World.cells?_some h1
   obtain ⟨q, hq, hbq⟩ := ho H enc w base spare held n cs' _ h2
   exact ⟨q, cs', hlen, fun r hr => by rw [← hcell r hr, add_add], hq, hbq⟩
  have ⟨q, hq⟩ : ∃ q : Nat → α, ∀ i, i < len → ∃ cs' : List Value, cs'.length = s ∧ (∀ r, r < s → w.cell? (a.add (i * s + r)) = cs'[r]?) ∧ R (fhOf w) cs' (q i) ∧ B (q i) := by
   haveI : Inhabited α := ⟨d⟩
   exact Go.Deep.choose_lt each
  let V : Nat → Value := fun j => (w.cell? (a.add j)).getD undef
  have hV : ∀ j, j < len * s → w.cell? (a.add j) = some (V j) := by
   intro j hj
   have hs : 0 < s := by rcases Nat.eq_zero_or_pos s with h0 | h0; subst h0; simp at hj; exact h0
   have hdiv : j / s < len := (Nat.div_lt_iff_lt_mul hs).2 hj
   obtain ⟨cs', hl', hcell, _⟩ := hq (j / s) hdiv
   have hr := hcell (j % s) (Nat.mod_lt _ hs)
   have e1 : j / s * s + j % s = j := by rw [Nat.mul_comm]; exact Nat.div_add_mod j s
   rw [e1] at hr
   have hlt : j % s < cs'.length := by rw [hl']; exact Nat.mod_lt _ hs
   rw [List.getElem?_eq_getElem hlt] at hr
   show w.cell? (a.add j) = some ((w.cell? (a.add j)).getD undef)
   rw [hr]; rfl
  have hxl : ((List.range len).map q).length = len := by simp
  have hgd : ∀ i, i < len → ((List.range len).map q).getD i d = q i := fun i hi => by simp [List.getD, hi]
  refine ⟨(List.range len).map q, ⟨_, rfl, (List.range (len * s)).map V, ⟨by simp, some a, cap, by rw [hxl], by omega, (fun h => by cases h), ?_⟩, ?_⟩, by rw [hxl]; unfold maxLen at hm; omega, fun i hi => ?_⟩
  ·intro a' ha i u hu
   obtain rfl := Option.some.inj ha
   have hi : i < len * s := by have := (List.getElem?_eq_some_iff.1 hu).1; simpa using this
   rw [cell_fhOf, hV i hi]
   rw [List.getElem?_map, List.getElem?_range hi] at hu
   exact hu
  ·intro i hi
   rw [hxl] at hi
   obtain ⟨cs', hl', hcell, hR, _⟩ := hq i hi
   refine ⟨cs', hl', ?_, by rw [hgd i hi]; exact hR⟩
   have hle : i * s + s ≤ len * s := by
    have : (i + 1) * s ≤ len * s := Nat.mul_le_mul_right s hi
    rwa [Nat.succ_mul] at this
   apply List.ext_getElem?
   intro r
   rcases Nat.lt_or_ge r s with hr | hr
   ·rw [List.getElem?_take, if_pos hr, List.getElem?_drop, List.getElem?_map, List.getElem?_range (by omega), ← hcell r hr, hV _ (by omega)]; rfl
   ·rw [List.getElem?_eq_none (by simp; omega), List.getElem?_eq_none (by omega)]
  ·rw [hxl] at hi
   obtain ⟨_, _, _, _, hB⟩ := hq i hi
   rw [hgd i hi]
   exact hB
theorem Opens.mono {α : Type} {R R' : FH → List Value → α → Prop} {B B' : α → Prop} (h : Opens P t R B) (hR : ∀ F cs a, R F cs a → R' F cs a) (hB : ∀ a, B a → B' a) : Opens P t R' B' := fun H enc w base spare held fuel cs x hx =>
 let ⟨a, h1, h2⟩ := h H enc w base spare held fuel cs x hx
 ⟨a, hR _ _ _ h1, hB _ h2⟩
theorem Opens.slv {α : Type} {R : FH → List Value → α → Prop} {B : α → Prop} (h : Opens P t R B) (ht : P.underlying t = some (.slice e)) {H : Type} {enc : TypeId × Value → H} {w : World} {r : Reach} {base b0 : Nat} {spare : Nat → Bool} {held : Bool} {v : Value} {d : DataW H} {ps : List MemPlace}
  (hv : Value.okWide P w r b0 t v) (ht' : DataW.Trod enc P w base spare held t v d ps) : ∃ a, R (fhOf w) [v] a ∧ B a := by
 obtain ⟨a, l, c, rfl⟩ := okWide_slice ht hv
 obtain ⟨n, hn⟩ := ht'
 exact h H enc w base spare held n _ _ hn
theorem Opens.agg {α : Type} {R : FH → List Value → α → Prop} {B : α → Prop} (h : Opens P t R B) {fs : Array Field} (ht : P.underlying t = some (.struct fs)) {H : Type} {enc : TypeId × Value → H} {w : World} {r : Reach} {base b0 : Nat} {spare : Nat → Bool} {held : Bool} {v : Value} {d : DataW H} {ps : List MemPlace}
  (hv : Value.okWide P w r b0 t v) (ht' : DataW.Trod enc P w base spare held t v d ps) : ∃ cs : List Value, v = .agg cs.toArray ∧ ∃ a, R (fhOf w) cs a ∧ B a := by
 obtain ⟨cs, rfl, _⟩ := okWide_struct ht hv
 obtain ⟨n, hn⟩ := ht'
 exact ⟨cs.toList, by simp, h H enc w base spare held n _ _ hn⟩
theorem Opens.int {k : IntKind} (ht : P.underlying t = some (.int k)) {H : Type} {enc : TypeId × Value → H} {w : World} {r : Reach} {base b0 : Nat} {spare : Nat → Bool} {held : Bool} {v : Value} {d : DataW H} {ps : List MemPlace}
  (hv : Value.okWide P w r b0 t v) (ht' : DataW.Trod enc P w base spare held t v d ps) : ∃ n, v = .int k n ∧ (Lit.int k n).wf = true := by
 obtain ⟨n, rfl, _, _, hw⟩ := open_int ht hv ht'
 exact ⟨n, rfl, hw⟩
theorem trodAll_below {H : Type} {enc : TypeId × Value → H} (hl : laidOutB P = true) {W W' : World} (hb : Below W.heap.size W W') {sp : Nat → Bool} :
  ∀ {ts : List TypeId} {vs : List Value} {ds : List (DataW H)} {ps : List MemPlace}, (ts.all fun t => P.readableRec t && decide (t < P.types.size)) = true → DataW.TrodAll enc P W 0 (fun _ => true) true ts vs ds ps →
   (∀ x ∈ ps, x.block < W.heap.size) → (∀ p ∈ ps, sp p.block = true) → DataW.TrodAll enc P W' 0 sp true ts vs ds ps
 | [], [], [], _, _, h, _, _ => h
 | [], _ :: _, _, _, _, h, _, _ => by cases h
 | [], [], _ :: _, _, _, h, _, _ => by cases h
 | _ :: _, [], _, _, _, h, _, _ => by cases h
 | _ :: _, _ :: _, [], _, _, h, _, _ => by cases h
 | t :: ts, v :: vs, d :: ds, ps, hr, h, hlt, hsp => by
  obtain ⟨p, q, h1, h2, rfl⟩ := h
  simp only [List.all_cons, Bool.and_eq_true, decide_eq_true_eq] at hr
  exact ⟨p, q, Go.WideElems.Trod_stays hl hr.1.1 hr.1.2 h1 (fun x hx => hb.same (hlt x (List.mem_append_left _ hx))) (fun x hx => hsp x (List.mem_append_left _ hx)),
   trodAll_below hl hb hr.2 h2 (fun x hx => hlt x (List.mem_append_right _ hx)) (fun x hx => hsp x (List.mem_append_right _ hx)), rfl⟩
theorem post_of_law {H : Type} {enc : TypeId × Value → H} {f : Func} {s : ChangeSpec} {apart fresh handsOn : Bool} {W W' : World} {args : Array Value} {ds gs : List (DataW H)} {before : List MemPlace} {tb : TypeId}
  (hs : s.vars = []) (hfn : s.fn H (ds ++ gs) = { results := [.lit (.bool true)], args := ds }) (hl : laidOutB P = true) (hr : (f.params.toList.all fun t => P.readableRec t && decide (t < P.types.size)) = true)
  (hres : f.resultTypes = #[tb]) (htb : P.underlying tb = some .bool) (hW : DataW.Whole enc P f.params.toList s.vars apart W args.toList ds gs before) (hb : Below W.heap.size W W') : s.post enc P f apart fresh handsOn false W args (.bool true) W' := by
 have hlt := hW.lt
 have hW' := hW
 obtain ⟨p, q, hA, hV, rfl, _, _⟩ := hW
 rw [hs] at hV
 obtain ⟨rfl, rfl⟩ := trodVars_none hV
 refine ⟨ds, [], p ++ [], [], p, [], hW', ?_, ?_, ?_, ?_, fun h => by cases h⟩
 ·rw [hfn, hres]
  exact trodAll_cons_mk (shut_bool htb _) trodAll_mk0
 ·rw [hfn]
  exact trodAll_below hl hb hr hA (fun x hx => hlt x (by simpa using hx)) (fun x hx => by simpa using hlt x (by simpa using hx))
 ·rw [hfn, hs]; rfl
 ·exact World.keptBut_mono (fun x hx => ⟨hx, .inr (.inl (by simpa using hx))⟩) (hb.frame (· ∈ p ++ []))
theorem Does.atTop {f : FuncId} {args : List Value} {W : World} (h : Does P f args (fhOf W) [] fun v _ _ => v = .bool true) : Calls P f args.toArray W fun e W' => e = .returned (.bool true) ∧ Below W.heap.size W W' :=
 (h W (holds_fhOf W)).mono fun _ _ ⟨_, _, _, he, le, H, hv⟩ => ⟨by rw [he, hv], below_of_holds le H⟩
end
section
variable {P : Program} {t e : TypeId}
end
open Go Go.ChangeShapes Go.WideShapes Go.ChangeAt
section
variable {P : Program} {t e : TypeId}
theorem opens_byte (ht : P.underlying e = some (.int .u8)) : Opens P e ByteE (fun _ => True) := by
 intro H enc w base spare held fuel cs x h
 obtain ⟨n, rfl, _, hw⟩ := DataW.trod_int ht h
 refine ⟨n, ⟨rfl, ?_⟩, trivial⟩
 simp [Lit.wf, IntKind.min, IntKind.max, IntKind.signed, IntKind.bits] at hw
 omega
theorem opens_bytes (ht : P.underlying t = some (.slice e)) (he : P.underlying e = some (.int .u8)) (hc : P.cellsOf e = 1) :
  Opens P t (fun F cs (xs : List Int) => ∃ v, cs = [v] ∧ BytesF F v xs) (fun xs => xs.length ≤ 9223372036854775807) :=
 (opens_slice 0 ht hc (opens_byte he)).mono (fun _ _ _ h => h) (fun _ h => h.1)
end
end Go.Proofs.YteodlimhopibkaaGreat.X
