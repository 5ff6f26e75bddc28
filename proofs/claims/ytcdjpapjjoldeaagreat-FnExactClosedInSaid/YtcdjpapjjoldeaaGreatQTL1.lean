/-
  What the walks rest on (part 2).
-/
import Derived.Orders
import Derived.Tactics
import Derived.Below
import Derived.Laws.CopyRow
import Derived.Laws.AppendOwn
import Derived.IntWalk
import Derived.Lib.AppendZeros
import Derived.Scope
import Derived.OrdersIn
import Derived.TacticsIn
import Derived.RangeFuncSeq
import Derived.RangeFuncRecord
import Derived.RangeFuncLeaves
import Derived.Laws.Append
import Derived.WalkKit
import Derived.ProofKit
import Derived.OpenShut
import Derived.JoinedCond
import Derived.Carry
import Derived.Deep.Slices
import Derived.Test.YtcdjpapjjoldeaaGreatQTL0
set_option linter.unusedSimpArgs false
set_option linter.unusedVariables false
namespace Go.Proofs.YtcdjpapjjoldeaaGreat.M
section
variable {ar : List Int} {rs : Rules} {t : List Int} {p k j : Nat}
end
def dec (z : Int) (n : Nat) : Int := if z - n < 0 then -1 else z - n
theorem dec_neg {z : Int} {n : Nat} (h : z - n < 0) : dec z n = -1 := if_pos h
theorem dec_pos {z : Int} {n : Nat} (h : ¬ z - n < 0) : dec z n = z - n := if_neg h
theorem dec_dec {z : Int} {n m : Nat} (h : ¬ dec z n < 0) : dec (dec z n) m = dec z (n + m) := by
 unfold dec at *
 split at h
 ·omega
 ·rename_i h1
  rw [if_neg h1]
  by_cases h2 : z - n - m < 0
  ·rw [if_pos h2, if_pos (by omega)]
  ·rw [if_neg h2, if_neg (by omega)]; omega
theorem dec_out {z : Int} {n m : Nat} (h : dec z n < 0) : dec z (n + m) = -1 := by
 unfold dec at *
 split at h
 ·rw [if_pos (by omega)]
 ·omega
theorem dec_range (z : Int) (n : Nat) : -1 ≤ dec z n ∧ (0 ≤ z → dec z n ≤ z) := by
 unfold dec
 split <;> omega
theorem dec_mono {z : Int} {n m : Nat} (h : dec z n < 0) (hm : n ≤ m) : dec z m = -1 := by
 rw [show m = n + (m - n) from by omega]; exact dec_out h
def szTo (rs : Rules) (k : Nat) : Nat := ((rs.take k).map (fun r => r.1.length + r.2.length)).sum
theorem szTo_succ {rs : Rules} {k : Nat} (h : k < rs.length) : szTo rs k + ((rs.getD k ([], [])).1.length + (rs.getD k ([], [])).2.length) = szTo rs (k + 1) := by
 unfold szTo
 rw [take_succ_getD ([], []) h]
 simp
theorem szTo_le {rs : Rules} : ∀ (k j : Nat), k ≤ j → j ≤ rs.length → szTo rs k ≤ szTo rs j := by
 intro k j hkj
 induction j with
 | zero => intro _; rw [show k = 0 from by omega]; exact Nat.le_refl _
 | succ j ih =>
  intro hj
  rcases Nat.lt_or_ge k (j + 1) with h | h
  ·have := ih (by omega) (by omega)
   rw [← szTo_succ (show j < rs.length by omega)]
   omega
  ·rw [show k = j + 1 from by omega]; exact Nat.le_refl _
theorem take_set_next {l : List Int} {k : Nat} {v : Int} (h : k < l.length) (_ : k < l.length) : (l.set k v).take (k + 1) = l.take k ++ [v] := by
 rw [take_succ_getD 0 (by simpa using h)]
 congr 1
 ·rw [List.take_set, List.set_eq_of_length_le (by simp; omega)]
 ·simp [List.getD_eq_getElem?_getD, h]
theorem ext_pair {a b : Rules} (hl : a.length = b.length) (h : ∀ i, i < a.length → a.getD i ([], []) = b.getD i ([], [])) : a = b := by
 apply List.ext_getElem hl
 intro i h1 h2
 have := h i h1
 simpa [List.getD_eq_getElem?_getD, h1, h2] using this
def szR (rs : Rules) : Nat := rs.length + szTo rs rs.length
theorem dec_le {z : Int} {n : Nat} (h : ¬ dec z n < 0) : (n : Int) ≤ z := by
 unfold dec at h
 split at h <;> omega
theorem szR_le {rs : Rules} : rs.length ≤ szR rs ∧ ∀ i, i < rs.length → (rs.getD i ([], [])).1.length ≤ szR rs ∧ (rs.getD i ([], [])).2.length ≤ szR rs := by
 refine ⟨by unfold szR; omega, fun i hi => ?_⟩
 have h1 := szTo_succ hi
 have h2 := szTo_le (rs := rs) (i + 1) rs.length (by omega) (Nat.le_refl _)
 unfold szR
 omega
def flatPair (r : List Int × List Int) : List Int := r.1 ++ r.2
def flatStep (s : Int × Int × List Int) : List Int := s.1 :: s.2.1 :: s.2.2
theorem take_set_any {α : Type} {l : List α} {k : Nat} {v : α} (h : k < l.length) : (l.set k v).take (k + 1) = l.take k ++ [v] := by
 rw [List.take_set, List.take_succ_eq_append_getElem h, List.set_append_right _ _ (by simp; omega)]
 simp [Nat.min_eq_left (Nat.le_of_lt h)]
abbrev StepL := Int × Int × List Int
def stepAtOk (ar : List Int) (rs : Rules) (t : List Int) (p r : Int) : Bool := rightB ar rs t && decide (0 ≤ p ∧ p < (t.length : Int)) && decide (0 ≤ r ∧ r < (rs.length : Int))
def stepAtL (ar : List Int) (rs : Rules) (t : List Int) (p r : Int) : Option (List Int) := if stepAtOk ar rs t p r = true then stepL ar rs t p.toNat r.toNat else none
section
variable {ar : List Int} {rs : Rules} {t f : List Int} {ss : List StepL}
end
section
variable {α : Type} {f : α → Nat} {l : List α} {k : Nat}
def gTo (f : α → Nat) (l : List α) (k : Nat) : Nat := ((l.take k).map f).sum
theorem gTo_succ (d : α) (h : k < l.length) : gTo f l k + f (l.getD k d) = gTo f l (k + 1) := by
 unfold gTo
 rw [take_succ_getD d h]
 simp
end
theorem flatPair_len (rs : Rules) : (rs.flatMap flatPair).length ≤ szR rs := by
 unfold szR szTo
 rw [List.take_length, List.length_flatMap]
 have : (List.map (fun a => (flatPair a).length) rs) = rs.map (fun r => r.1.length + r.2.length) := List.map_congr_left fun r _ => by simp [flatPair]
 rw [this]; omega
theorem dec_le2 {z : Int} {n : Nat} (h : ¬ dec z n < 0) (hz : z ≤ 1048576) : (n : Int) ≤ 1048576 ∧ dec z n ≤ 1048576 ∧ 0 ≤ dec z n := by
 have h1 := dec_le h
 unfold dec at *
 split at h <;> omega
def lenS (s : StepL) : Nat := s.2.2.length
theorem flatStep_len (ss : List StepL) : (ss.flatMap flatStep).length ≤ 2 * ss.length + gTo lenS ss ss.length := by
 unfold gTo
 rw [List.take_length, List.length_flatMap]
 induction ss with
 | nil => simp
 | cons s ss ih => simp [flatStep, lenS] at ih ⊢; omega
section
variable {ar : List Int} {rs : Rules} {t u f : List Int} {ss : List StepL} {st : Int} {m k : Nat}
theorem gTo_bound {N : Nat} {l : List StepL} (h : ∀ i, i < l.length → (l.getD i (0, 0, [])).2.2.length ≤ N) : ∀ k, k ≤ l.length → gTo lenS l k ≤ k * N
 | 0, _ => by simp [gTo]
 | k + 1, hk => by
  have h1 := gTo_bound h k (by omega)
  have h2 := h k (by omega)
  rw [← gTo_succ ((0, 0, []) : StepL) (by omega), Nat.succ_mul]
  have : lenS (l.getD k (0, 0, [])) = (l.getD k (0, 0, [])).2.2.length := rfl
  omega
end
section
variable {ar : List Int} {rs : Rules} {t f u : List Int} {ss acc : List StepL} {p : Nat} {k : Nat}
end
section
variable {ar : List Int} {rs : Rules} {t f : List Int} {ss : List StepL} {s : RowL} {p : Int}
theorem fill_eq {v : List Int} (h : (fillL s f).isSome = true) : fillL s f = some v ↔ (fillL s f).getD [] = v := by
 obtain ⟨x, hx⟩ := Option.isSome_iff_exists.1 h
 rw [hx]; simp
end
end Go.Proofs.YtcdjpapjjoldeaaGreat.M
namespace Go.Proofs.YtcdjpapjjoldeaaGreat.X
open Go
theorem yielded_undef {n : Nat} {a : Act} {ρ : Env} (r : Rep n a ρ) {ops : Array Oper} {g : Nat} {t : Tmp} (ht : (ops[g]?).bind (·.dst) = some t) (hv : ρ t = undef) : yielded ops a.tmps g = none := by
 unfold yielded
 rw [ht]
 have := r.get t
 rw [hv, Array.getD_eq_getD_getElem?] at this
 cases hx : a.tmps[t]? with
 | none => simp [hx]
 | some x => rw [hx] at this; simp at this; subst this; simp [hx, undef]
theorem XL.noU {P : Program} {n : Nat} {ops : Array Oper} {l : List Oper} {Q : QX} {ρ : Env} {F : FH} {L : List HP}
  {d : Option Tmp} {op : Op} {ty : TypeId} {pos : String} {af : Array Edge} {g : Nat} {b : Bool} {t : Tmp} (ht : (ops[g]?).bind (·.dst) = some t) (hv : ρ t = undef)
  (h : XL P n ops l Q (putE ρ d undef) F L) : XL P n ops (⟨d, op, ty, pos, af, some (g, b)⟩ :: l) Q ρ F L := by
 intro ok a w r H
 simp only [opsOk, List.all_cons, Bool.and_eq_true] at ok
 unfold wpList
 rw [if_neg (by simp [Region.wanted, yielded_undef r ht hv])]
 exact h ok.2 _ _ (r.put ok.1 undef) H
def FrIntsF (F0 F : FH) (e : TypeId) (v : Value) (xs : List Int) : Prop := Fresh F0 F (intsH e v xs)
theorem FrIntsF.mono {F0 F F' : FH} {e : TypeId} {v : Value} {xs : List Int} (h : FrIntsF F0 F e v xs) (le : F ≤ F') : FrIntsF F0 F' e v xs := Fresh.mono h le
theorem FrIntsF.base {F0 F F1 : FH} {e : TypeId} {v : Value} {xs : List Int} (h : FrIntsF F1 F e v xs) (le : F0 ≤ F1) : FrIntsF F0 F e v xs := Fresh.base h le
end Go.Proofs.YtcdjpapjjoldeaaGreat.X
namespace Go.Proofs.YtcdjpapjjoldeaaGreat.M
def argsGo (ar t : List Int) : Nat → Nat → List Int
 | 0, _ => []
 | n + 1, q => (q : Int) :: argsGo ar t n (endN ar t q)
def argsL (ar t : List Int) (p : Nat) : List Int := argsGo ar t (arity ar (t.getD p 0)).toNat (p + 1)
def Stand (ar t : List Int) (n q e : Nat) : Prop := endGo ar (t.drop q) n = some (e - q) ∧ q ≤ e ∧ e ≤ t.length
theorem stand_start {ar t : List Int} (h : termOk ar t = true) {p : Nat} (hp : p < t.length) : Stand ar t (arity ar (t.getD p 0)).toNat (p + 1) (endN ar t p) := by
 have he := endN_spec h hp
 obtain ⟨e, h1, h2, h3⟩ := endAt_some h hp
 have hN : endN ar t p = e := by simp [endN, h1]
 unfold endAt at h1
 rw [endGo_step (by omega) hp (termOk_lt h hp)] at h1
 rw [Nat.sub_self, Nat.zero_add] at h1
 refine ⟨?_, by omega, by omega⟩
 cases hg : endGo ar (t.drop (p + 1)) (arity ar (t.getD p 0)).toNat with
 | none => rw [hg] at h1; cases h1
 | some q => rw [hg] at h1; simp only [Option.map_some, Option.some.injEq] at h1; rw [Option.some.injEq]; omega
theorem stand_step {ar t : List Int} (h : termOk ar t = true) {n q e : Nat} (hs : Stand ar t (n + 1) q e) : q < t.length ∧ Stand ar t n (endN ar t q) e ∧ q < endN ar t q ∧ endN ar t q ≤ e := by
 obtain ⟨h1, h2, h3⟩ := hs
 have hpos := endGo_pos h1
 have hq : q < t.length := by omega
 have h1' := h1
 rw [Nat.add_comm] at h1
 obtain ⟨e1, e2, g1, g2, g3⟩ := endGo_split h1
 have hN : endN ar t q = q + e1 := by simp [endN, endAt, g1]
 have hE := endN_spec h hq
 rw [List.drop_drop] at g2
 refine ⟨hq, ⟨?_, by omega, h3⟩, by omega, by omega⟩
 rw [hN, g2]; congr 1; omega
theorem argsGo_len (ar t : List Int) : ∀ n q, (argsGo ar t n q).length = n
 | 0, _ => rfl
 | n + 1, q => by simp [argsGo, argsGo_len ar t n]
theorem argsGo_in {ar t : List Int} (h : termOk ar t = true) : ∀ {n q e : Nat}, Stand ar t n q e → ∀ k, k < n → (q : Int) ≤ (argsGo ar t n q).getD k 0 ∧ (argsGo ar t n q).getD k 0 < (e : Int)
 | 0, _, _, _, k, hk => absurd hk (by omega)
 | n + 1, q, e, hs, k, hk => by
  obtain ⟨h1, h2, h3, h4⟩ := stand_step h hs
  cases k with
  | zero => simp only [argsGo, List.getD_cons_zero]; omega
  | succ k =>
   have := argsGo_in h h2 k (by omega)
   simp only [argsGo, List.getD_cons_succ]; omega
theorem argsL_len {ar t : List Int} {p : Nat} : (argsL ar t p).length = (arity ar (t.getD p 0)).toNat := argsGo_len ..
theorem argsL_le {ar t : List Int} (h : termOk ar t = true) {p : Nat} (hp : p < t.length) : (argsL ar t p).length ≤ 3 := by
 have := arity_le (termOk_sig h) (termOk_lt h hp)
 rw [argsL_len]; omega
theorem argsL_in {ar t : List Int} (h : termOk ar t = true) {p : Nat} (hp : p < t.length) {k : Nat} (hk : k < (argsL ar t p).length) : (p : Int) < (argsL ar t p).getD k 0 ∧ (argsL ar t p).getD k 0 < (endN ar t p : Int) ∧ (argsL ar t p).getD k 0 < (t.length : Int) := by
 rw [argsL_len] at hk
 have h1 := stand_start h hp
 have := argsGo_in h h1 k hk
 have := endN_spec h hp
 unfold argsL; omega
theorem args_next {ar t : List Int} (h : termOk ar t = true) {p n q : Nat} {os : List Int} (hn : 1 ≤ n) (he : argsL ar t p = os ++ argsGo ar t n q) : argsL ar t p = (os ++ [(q : Int)]) ++ argsGo ar t (n - 1) (endN ar t q) := by
 obtain ⟨m, rfl⟩ : ∃ m, n = m + 1 := ⟨n - 1, by omega⟩
 rw [he, argsGo, Nat.add_sub_cancel, List.append_assoc]; rfl
theorem getD_some {o : Option (List Int)} {x : List Int} (h : o.isSome = true) : o = some x ↔ o.getD [] = x := by
 cases o with
 | none => cases h
 | some y => simp
theorem opt_no1 {o : Option (List Int)} {v : List Int} (h : o.isSome = false) : o ≠ some v := fun e => by rw [e] at h; cases h
theorem opt_no2 {o : Option (List Int)} {v : List Int} (h : o.getD [] ≠ v) : o ≠ some v := fun e => by rw [e] at h; exact h rfl
end Go.Proofs.YtcdjpapjjoldeaaGreat.M
namespace Go.Proofs.YtcdjpapjjoldeaaGreat.X
open Go
def FR (r : Option Nat) : Fence := { Fence.wide with round := r }
theorem callsIn_FR {r : Option Nat} {n : Nat} {P : Program} {f : FuncId} {args : Array Value} {w : World} {R : Ending → World → Prop} (h : Calls P f args w R) : CallsIn (FR r) n P f args w R := by
 have h1 : CallsIn Fence.wide n P f args w R := callsIn_wide.2 h
 exact h1
structure RepD (n : Nat) (d : List Deferred) (a : Act) (ρ : Env) : Prop where
 size : a.tmps.size = n
 defers : a.defers = d
 get : ∀ i, a.tmps.getD i undef = ρ i
theorem RepD.eval {n : Nat} {d : List Deferred} {a : Act} {ρ : Env} (h : RepD n d a ρ) : a.eval = evO ρ := by
 funext x
 cases x <;> first | rfl | exact h.get _
theorem Rep.toD {n : Nat} {a : Act} {ρ : Env} (h : Rep n a ρ) : RepD n [] a ρ := ⟨h.size, h.defers, h.get⟩
theorem RepD.of {n : Nat} {a : Act} {ρ : Env} (h : RepD n [] a ρ) : Rep n a ρ := ⟨h.size, h.defers, h.get⟩
theorem RepD.put {n : Nat} {ds : List Deferred} {a : Act} {ρ : Env} (h : RepD n ds a ρ) {d : Option Tmp} (hd : dOk n d = true) (v : Value) : RepD n ds (a.put d v) (putE ρ d v) := by
 have h' : Rep n { a with defers := [] } ρ := ⟨h.size, rfl, h.get⟩
 have := h'.put hd v
 refine ⟨?_, ?_, ?_⟩
 ·have := this.size; cases d <;> exact this
 ·cases d <;> exact h.defers
 ·have := this.get; cases d <;> exact this
def notDef (o : Oper) : Bool := match o.op with | .defer _ => false | _ => true
theorem notDef_spec {o : Oper} (h : notDef o = true) : ∀ c, o.op ≠ .defer c := by
 intro c e; simp [notDef, e] at h
def opsOkI (n : Nat) (l : List Oper) : Bool := l.all fun o => dOk n o.dst && notDef o
theorem opsOkI_ops {n : Nat} {l : List Oper} (h : opsOkI n l = true) : opsOk n l = true := by
 simp only [opsOkI, opsOk, List.all_eq_true, Bool.and_eq_true] at h ⊢
 exact fun o ho => (h o ho).1
theorem opsOkI_def {n : Nat} {l : List Oper} (h : opsOkI n l = true) : ∀ o ∈ l, ∀ c, o.op ≠ .defer c := by
 simp only [opsOkI, List.all_eq_true, Bool.and_eq_true] at h
 exact fun o ho => notDef_spec (h o ho).2
def lowI (n : Nat) (d : List Deferred) (F : FH) (Q : QX) : Exit → Act → World → Prop := fun e a w => ∃ ρ F' L, RepD n d a ρ ∧ F ≤ F' ∧ Holds F' L w ∧ Q e ρ F' L
theorem lowI_le {n : Nat} {d : List Deferred} {F F' : FH} {Q : QX} (le : F ≤ F') {e : Exit} {a : Act} {w : World} (h : lowI n d F' Q e a w) : lowI n d F Q e a w :=
 let ⟨ρ, F'', L, r, l, H, q⟩ := h; ⟨ρ, F'', L, r, le.trans l, H, q⟩
theorem wpListIn_mono {F : Fence} {n : Nat} {P : Program} {ops : Array Oper} {Q Q' : Exit → Act → World → Prop} (h : ∀ e a w, Q e a w → Q' e a w) :
  ∀ (l : List Oper) (a : Act) (w : World), wpListIn F n P ops Q l a w → wpListIn F n P ops Q' l a w
 | [], a, w, k => h _ _ _ k
 | o :: l, a, w, k => by
  unfold wpListIn at *
  have hout : LetsOut Q → LetsOut Q' := fun ⟨a0, w0, hq⟩ => ⟨a0, w0, h _ _ _ hq⟩
  split
  ·rename_i hw
   rw [if_pos hw] at k
   refine ⟨k.1, ?_⟩
   have k := k.2
   generalize (o.semAt F.round a.eval).run P w = r at *
   cases r with
   | ok m w' =>
    cases m <;> simp only [Oper.uponIn] at k ⊢ <;>
     first
      | exact wpListIn_mono h l _ _ k
      | exact ⟨k.1, CallsIn.mono k.2 (fun e w'' he => by cases e <;> first | exact wpListIn_mono h l _ _ he | exact h _ _ _ he | exact hout he)⟩
      | exact ⟨k.1, RowsIn.mono k.2 (fun _ _ he => wpListIn_mono h l _ _ he)⟩
      | exact ⟨k.1, RoundIn.mono k.2 (fun e w'' he => by cases e <;> first | exact wpListIn_mono h l _ _ he | exact h _ _ _ he | exact hout he)⟩
   | halt x w' => cases x <;> simp only [Oper.uponIn] at k ⊢ <;> first | exact h _ _ _ k | exact k.elim
  ·rename_i hw
   rw [if_neg hw] at k
   exact ⟨k.1, wpListIn_mono h l _ _ k.2⟩
def XIL (P : Program) (n : Nat) (r0 : Option Nat) (d0 : List Deferred) (ops : Array Oper) (l : List Oper) (Q : QX) (ρ : Env) (F : FH) (L : List HP) : Prop :=
 opsOkI n l = true → ∀ a w, RepD n d0 a ρ → Holds F L w → wpListIn (FR r0) 9 P ops (lowI n d0 F Q) l a w
section
variable {P : Program} {n : Nat} {r0 : Option Nat} {d0 : List Deferred} {ops : Array Oper} {l : List Oper} {Q : QX} {ρ : Env} {F : FH} {L : List HP}
theorem XIL.nil (h : Q .normal ρ F L) : XIL P n r0 d0 ops [] Q ρ F L := fun _ _ _ r H => ⟨ρ, F, L, r, FLe.refl F, H, h⟩
theorem wpIn_of_XOp {o : Oper} {K : Post} {a : Act} {w : World} {Q : Exit → Act → World → Prop} {N : Act → World → Prop}
  (h : XOp P o ρ F L K) (r : RepD n d0 a ρ) (H : Holds F L w) (hd : dOk n o.dst = true) (hn : ∀ c, o.op ≠ .defer c)
  (hN : ∀ v F' L' w', F ≤ F' → Holds F' L' w' → K v F' L' → RepD n d0 (a.put o.dst v) (putE ρ o.dst v) → N (a.put o.dst v) w') : o.wpIn (FR r0) 9 P a w N Q := by
 refine ⟨fun _ _ => trivial, ?_⟩
 rw [Oper.semAt_eq _ _ _ hn, r.eval]
 rcases h w H with ⟨v, w', F', L', h1, h2, h3, h4⟩ | ⟨w', F', L', h1, h2, h3, h4⟩ | ⟨f, args, w', h1, h2⟩
 ·rw [h1]; exact hN v F' L' w' h2 h3 h4 (r.put hd v)
 ·rw [h1]; exact hN undef F' L' w' h2 h3 h4 (r.put hd undef)
 ·rw [h1]
  refine ⟨fun _ => by decide, callsIn_FR (h2.mono fun e w'' ⟨v, F', L', he, hle, hH, hk⟩ => ?_)⟩
  subst he
  exact hN v F' L' w'' hle hH hk (r.put hd v)
theorem yielded_of_repD {a : Act} (r : RepD n d0 a ρ) {g : Nat} {t : Tmp} {b : Bool} (ht : (ops[g]?).bind (·.dst) = some t) (hv : ρ t = .bool b) : yielded ops a.tmps g = some b := by
 unfold yielded
 rw [ht]
 have := r.get t
 rw [hv, Array.getD_eq_getD_getElem?] at this
 cases hx : a.tmps[t]? with
 | none => rw [hx] at this; simp [undef] at this
 | some x => rw [hx] at this; simp at this; subst this; simp [hx]
theorem XIL.cons {d : Option Tmp} {op : Op} {ty : TypeId} {pos : String} {af : Array Edge}
  (h : XOp P ⟨d, op, ty, pos, af, none⟩ ρ F L fun v F' L' => XIL P n r0 d0 ops l Q (putE ρ d v) F' L') : XIL P n r0 d0 ops (⟨d, op, ty, pos, af, none⟩ :: l) Q ρ F L := by
 intro ok a w r H
 have hd := opsOkI_def ok
 simp only [opsOkI, List.all_cons, Bool.and_eq_true] at ok
 unfold wpListIn
 rw [if_pos (by simp [Region.wanted])]
 exact wpIn_of_XOp h r H ok.1.1 (hd _ (by simp)) fun v F' L' w' le H' k r' => wpListIn_mono (fun _ _ _ q => lowI_le le q) _ _ _ (k ok.2 _ _ r' H')
theorem XIL.yes {d : Option Tmp} {op : Op} {ty : TypeId} {pos : String} {af : Array Edge} {g : Nat} {t : Tmp} {b : Bool} (ht : (ops[g]?).bind (·.dst) = some t) (hv : ρ t = .bool b)
  (h : XOp P ⟨d, op, ty, pos, af, some (g, b)⟩ ρ F L fun v F' L' => XIL P n r0 d0 ops l Q (putE ρ d v) F' L') : XIL P n r0 d0 ops (⟨d, op, ty, pos, af, some (g, b)⟩ :: l) Q ρ F L := by
 intro ok a w r H
 have hd := opsOkI_def ok
 simp only [opsOkI, List.all_cons, Bool.and_eq_true] at ok
 unfold wpListIn
 rw [if_pos (by simp [Region.wanted, yielded_of_repD r ht hv])]
 exact wpIn_of_XOp h r H ok.1.1 (hd _ (by simp)) fun v F' L' w' le H' k r' => wpListIn_mono (fun _ _ _ q => lowI_le le q) _ _ _ (k ok.2 _ _ r' H')
theorem XIL.no {d : Option Tmp} {op : Op} {ty : TypeId} {pos : String} {af : Array Edge} {g : Nat} {b : Bool} {t : Tmp} (ht : (ops[g]?).bind (·.dst) = some t) (hv : ρ t = .bool (!b))
  (h : XIL P n r0 d0 ops l Q (putE ρ d undef) F L) : XIL P n r0 d0 ops (⟨d, op, ty, pos, af, some (g, b)⟩ :: l) Q ρ F L := by
 intro ok a w r H
 simp only [opsOkI, List.all_cons, Bool.and_eq_true] at ok
 unfold wpListIn
 rw [if_neg (by simp [Region.wanted, yielded_of_repD r ht hv])]
 exact ⟨fun _ _ => trivial, h ok.2 _ _ (r.put ok.1.1 undef) H⟩
def Yld (P : Program) (l : Nat) (args : List Value) (F : FH) (L : List HP) (K : Post) : Prop :=
 ∀ w, Holds F L w → YieldAt Fence.wide 9 P l args.toArray w fun e w' => ∃ v F' L', e = .returned v ∧ F ≤ F' ∧ Holds F' L' w' ∧ K v F' L'
theorem Yld.mono {k : Nat} {args : List Value} {K K' : Post} (h : Yld P k args F L K) (hk : ∀ v F' L', F ≤ F' → K v F' L' → K' v F' L') : Yld P k args F L K' := by
 intro w H
 obtain ⟨fn, tmps, assign, body, hy, hr⟩ := h w H
 exact ⟨fn, tmps, assign, body, hy, hr.mono fun e w' ⟨v, F', L', a, b, c, d⟩ => ⟨v, F', L', a, b, c, hk _ _ _ b d⟩⟩
theorem Yld.weaken {k : Nat} {args : List Value} {K : Post} {L' : List HP} (s : Sub L L') (h : Yld P k args F L' K) : Yld P k args F L K := fun w H => h w (s.holds H)
theorem roundIn_FR {r : Option Nat} {m m' k : Nat} {f : FuncId} {tmps : Array Value} {assign body : Code} {w : World} {R : Ending → World → Prop} (h : RoundIn Fence.wide m P k f tmps assign body w R) : RoundIn (FR r) m' P k f tmps assign body w R :=
 ⟨trivial, fun c cs hr => h.2 c cs (fun _ hd => by cases hd)⟩
end
def cOkI (n : Nat) : Code → Bool
 | .region _ ops _ => opsOkI n ops.toList
 | .seq a b => cOkI n a && cOkI n b
 | .cond _ a b => cOkI n a && cOkI n b
 | .block _ a => cOkI n a
 | .loop a => cOkI n a
 | .scope a => cOkI n a
 | .rangeFunc _ _ a b => cOkI n a && cOkI n b
 | _ => true
def XI (P : Program) (n : Nat) (r0 : Option Nat) (d0 : List Deferred) (c : Code) (Q : QX) (ρ : Env) (F : FH) (L : List HP) : Prop :=
 cOkI n c = true → ∀ a w, RepD n d0 a ρ → Holds F L w → c.wpIn (FR r0) 9 P (lowI n d0 F Q) a w
section
variable {P : Program} {n : Nat} {r0 : Option Nat} {d0 : List Deferred} {Q : QX} {ρ : Env} {F : FH} {L : List HP}
theorem X.ofI {c : Code} (hok : cOkI n c = true) (h : XI P n none [] c Q ρ F L) : X P n c Q ρ F L := by
 intro _ a w r H
 refine Code.wp_mono ?_ (wpIn_wide.1 (h hok a w r.toD H))
 rintro e a' w' ⟨ρ', F', L', r', le, H', q⟩
 exact ⟨ρ', F', L', r'.of, le, H', q⟩
theorem XI.freezeF {c : Code} (A B : List HP) (h : HP) (hL : L = A ++ h :: B) (H : ∀ F', F ≤ F' → Fresh F F' h → XI P n r0 d0 c Q ρ F' (A ++ B)) : XI P n r0 d0 c Q ρ F L := by
 subst hL
 intro ok a w r Hw
 obtain ⟨F', le, fz, H', _⟩ := Hw.lendF
 exact wpIn_mono (H F' le fz ok a w r H') (fun _ _ _ q => lowI_le le q)
theorem XI.block {id : Nat} {c : Code} (h : XI P n r0 d0 c (blockQ id Q) ρ F L) : XI P n r0 d0 (.block id c) Q ρ F L := by
 intro ok a w r H
 refine wpIn_block (wpIn_mono (h ok a w r H) ?_)
 rintro e a' w' ⟨ρ', F', L', r', le, H', q⟩
 cases e with
 | exit i =>
  simp only [Exit.inBlock, blockQ] at q ⊢
  split
  ·rename_i hi; rw [if_pos hi] at q; exact ⟨ρ', F', L', r', le, H', q⟩
  ·rename_i hi; rw [if_neg hi] at q; exact ⟨ρ', F', L', r', le, H', q⟩
 | _ => exact ⟨ρ', F', L', r', le, H', q⟩
theorem XI.skip (h : Q .normal ρ F L) : XI P n r0 d0 .skip Q ρ F L := fun _ _ _ r H => wpIn_skip ⟨ρ, F, L, r, FLe.refl F, H, h⟩
theorem XI.ret (h : Q .ret ρ F L) : XI P n r0 d0 .ret Q ρ F L := fun _ _ _ r H => wpIn_ret ⟨ρ, F, L, r, FLe.refl F, H, h⟩
theorem XI.seq {x y : Code} (h : XI P n r0 d0 x (thenQ (fun ρ' F' L' => XI P n r0 d0 y Q ρ' F' L') Q) ρ F L) : XI P n r0 d0 (.seq x y) Q ρ F L := by
 intro ok a w r H
 simp only [cOkI, Bool.and_eq_true] at ok
 refine wpIn_seq (wpIn_mono (h ok.1 a w r H) ?_)
 rintro e a' w' ⟨ρ', F', L', r', le, H', q⟩
 cases e with
 | normal => exact wpIn_mono (q ok.2 a' w' r' H') (fun _ _ _ q => lowI_le le q)
 | _ => exact ⟨ρ', F', L', r', le, H', q⟩
theorem XI.cond {c : Operand} {x y : Code} {t : Bool} (hc : evO ρ c = .bool t) (ht : t = true → XI P n r0 d0 x Q ρ F L) (hf : t = false → XI P n r0 d0 y Q ρ F L) : XI P n r0 d0 (.cond c x y) Q ρ F L := by
 intro ok a w r H
 simp only [cOkI, Bool.and_eq_true] at ok
 exact wpIn_cond_split (t := t) (by rw [r.eval]; exact hc) (fun h => ht h ok.1 a w r H) (fun h => hf h ok.2 a w r H)
theorem XI.condD {c : Operand} {x y : Code} {p : Prop} [Decidable p] (hc : evO ρ c = .bool (decide p)) (ht : p → XI P n r0 d0 x Q ρ F L) (hf : ¬p → XI P n r0 d0 y Q ρ F L) : XI P n r0 d0 (.cond c x y) Q ρ F L :=
 XI.cond hc (fun h => ht (of_decide_eq_true h)) (fun h => hf (of_decide_eq_false h))
theorem XI.condT {c : Operand} {x y : Code} (hc : evO ρ c = .bool true) (ht : XI P n r0 d0 x Q ρ F L) : XI P n r0 d0 (.cond c x y) Q ρ F L := XI.cond hc (fun _ => ht) (fun h => by cases h)
theorem XI.region {id : Nat} {l : List Oper} (h : XIL P n r0 d0 l.toArray l Q ρ F L) : XI P n r0 d0 (.region id l.toArray false) Q ρ F L :=
 fun ok a w r H => wpIn_region_lit (h (by simpa [cOkI] using ok) a w r H)
theorem XI.slots {c : Code} (l : List (Nat × Value)) (hs : sat ρ l) (h : ∀ r, XI P n r0 d0 c Q (envs l r) F L) : XI P n r0 d0 c Q ρ F L := by
 have := h ρ
 rwa [envs_of_sat hs] at this
end
def setP : List (Tmp × Value) → Env → Env
 | [], ρ => ρ
 | p :: l, ρ => setP l (upd ρ p.1 p.2)
theorem setP_rep {n : Nat} : ∀ (l : List (Tmp × Value)) (t : Array Value) (ρ : Env), t.size = n → (∀ i, t.getD i undef = ρ i) → (∀ p ∈ l, p.1 < n) →
  ((l.foldl (fun t (p : Tmp × Value) => t.setIfInBounds p.1 p.2) t).size = n ∧ ∀ i, (l.foldl (fun t (p : Tmp × Value) => t.setIfInBounds p.1 p.2) t).getD i undef = setP l ρ i)
 | [], t, ρ, h1, h2, _ => ⟨h1, h2⟩
 | p :: l, t, ρ, h1, h2, h3 => by
  rw [List.foldl_cons]
  refine setP_rep l _ _ (by simp [h1]) (fun i => ?_) (fun q hq => h3 q (List.mem_cons_of_mem _ hq))
  have hp := h3 p (by simp)
  have r : Rep n { tmps := t, defers := [] } ρ := ⟨h1, rfl, h2⟩
  have := (r.put (d := some p.1) (by simpa [dOk, Nat.blt] using Nat.ble_eq_true_of_le hp) p.2).get i
  simpa [Act.put, putE] using this
theorem Holds.turn {F : FH} {L : List HP} {l : Nat} {o o' : Obj} {w : World} (H : Holds F (objH l o :: L) w) : Holds F (objH l o' :: L) (w.putObj l o') := by
 have hg := Holds.get (A := []) H
 have hlt := (Array.getElem?_eq_some_iff.1 hg).1
 exact Holds.put (A := []) H rfl rfl rfl (World.putObj_heap_same hlt) (fun k hk => World.putObj_heap_other hk)
def markD (D : Nat) : List Deferred := [{ target := .collected D, args := #[] }]
def fin (P : Program) (F0 : FH) (Q : Post) : Ending → World → Prop := fun e w' => ∃ v F' L', e = .returned v ∧ F0 ≤ F' ∧ Holds F' L' w' ∧ Q v F' L'
def XF (P : Program) (fn : Func) (F0 : FH) (c : Code) (Q : Post) (ρ : Env) (F : FH) (L : List HP) : Prop :=
 cOkI fn.ntmps c = true → ∀ a w, Rep fn.ntmps a ρ → Holds F L w → c.wpIn Fence.wide 9 P (bodyPostM Fence.wide 9 P fn (fin P F0 Q)) a w
theorem Does.of_XF {P : Program} {f : FuncId} {fn : Func} {c : Code} {args : List Value} {F : FH} {L : List HP} {Q : Post}
  (hf : P.funcs[f]? = some fn) (hb : fn.body = some c) (hd : cOkI fn.ntmps c = true) (hn : Nat.ble args.length fn.ntmps = true)
  (h : XF P fn F c Q (env0 args) F L) : Does P f args F L Q := by
 intro w H
 refine callsIn_wide.1 (callsIn_of_wp_marks (n := 9) hf hb trivial (h hd _ w ⟨?_, rfl, fun i => ?_⟩ H))
 ·have := Nat.le_of_ble_eq_true hn
  simp
  omega
 ·simp only [env0, Array.getD_eq_getD_getElem?, List.getD_eq_getElem?_getD, Array.getElem?_append, List.size_toArray, List.getElem?_toArray, Array.getElem?_replicate]
  split
  ·rfl
  ·rename_i hi
   rw [List.getElem?_eq_none (Nat.le_of_not_lt hi)]
   split <;> rfl
theorem cOkI_cOk {n : Nat} : ∀ {c : Code}, cOkI n c = true → cOk n c = true
 | .region _ ops _, h => opsOkI_ops (l := ops.toList) h
 | .seq a b, h => by simp only [cOkI, cOk, Bool.and_eq_true] at h ⊢; exact ⟨cOkI_cOk h.1, cOkI_cOk h.2⟩
 | .cond _ a b, h => by simp only [cOkI, cOk, Bool.and_eq_true] at h ⊢; exact ⟨cOkI_cOk h.1, cOkI_cOk h.2⟩
 | .block _ a, h => by simp only [cOkI, cOk] at h ⊢; exact cOkI_cOk h
 | .loop a, h => by simp only [cOkI, cOk] at h ⊢; exact cOkI_cOk h
 | .scope a, h => by simp only [cOkI, cOk] at h ⊢; exact cOkI_cOk h
 | .rangeFunc _ _ a b, h => by simp only [cOkI, cOk, Bool.and_eq_true] at h ⊢; exact ⟨cOkI_cOk h.1, cOkI_cOk h.2⟩
 | .skip, _ => rfl
 | .exit _, _ => rfl
 | .ret, _ => rfl
 | .label _, _ => rfl
 | .goto _, _ => rfl
 | .refuse _, _ => rfl
def finD (P : Program) (fn : Func) (F0 : FH) (D : Nat) (Q : Post) : QX := fun e ρ F L => (e = .ret ∨ e = .normal) ∧ ∃ vs L1 L' F2, ResAll P F (objH D (.deferred none) :: L1) ρ fn.results.toList vs ∧ F0 ≤ F2 ∧ F2 ≤ F ∧ Sub L (objH D (.deferred (some [])) :: L1) ∧ Sub L1 L' ∧ Q (oneOr vs) F2 L'
theorem retEndC {P : Program} {fn : Func} {F0 F2 : FH} {D : Nat} {Q : Post} {ρ : Env} {F : FH} {L L' : List HP} (L1 : List HP) (vs : List Value) (v : Value) (hr : ResAll P F (objH D (.deferred none) :: L1) ρ fn.results.toList vs) (hv : oneOr vs = v) (l1 : F0 ≤ F2) (l2 : F2 ≤ F) (s : Sub L (objH D (.deferred (some [])) :: L1)) (s2 : Sub L1 L') (h : Q v F2 L') : finD P fn F0 D Q .ret ρ F L :=
 ⟨.inl rfl, vs, L1, L', F2, hr, l1, l2, s, s2, hv ▸ h⟩
section
variable {P : Program} {fn : Func} {Q : Post} {ρ : Env} {F F0 : FH} {L : List HP}
def XR (P : Program) (fn : Func) (F0 : FH) (c rest : Code) (Q : Post) (ρ : Env) (F : FH) (L : List HP) : Prop :=
 cOkI fn.ntmps c = true → cOkI fn.ntmps rest = true → ∀ a w, Rep fn.ntmps a ρ → Holds F L w →
  c.wpIn Fence.wide 9 P (Exit.then (rest.wpIn Fence.wide 9 P (bodyPostM Fence.wide 9 P fn (fin P F0 Q))) (bodyPostM Fence.wide 9 P fn (fin P F0 Q))) a w
theorem XF.ofR {c rest : Code} (h : XR P fn F0 c rest Q ρ F L) : XF P fn F0 (.seq c rest) Q ρ F L := by
 intro ok a w r H
 simp only [cOkI, Bool.and_eq_true] at ok
 exact wpIn_seq (h ok.1 ok.2 a w r H)
theorem XR.seq {x y rest : Code} (h : X P fn.ntmps x (thenQ (fun ρ' F' L' => XR P fn F0 y rest Q ρ' F' L') (fun _ _ _ _ => False)) ρ F L) : XR P fn F0 (.seq x y) rest Q ρ F L := by
 intro ok okr a w r H
 simp only [cOkI, Bool.and_eq_true] at ok
 refine wpIn_seq (wpIn_mono (wpIn_wide.2 (h (cOkI_cOk ok.1) a w r H)) ?_)
 rintro e a' w' ⟨ρ', F', L', r', le, H', q⟩
 cases e with
 | normal => exact q ok.2 okr a' w' r' H'
 | _ => exact q.elim
end
theorem Rd.all {F : FH} {L : List HP} {v : Value} {k : Nat} {es : List Value} (h : ∀ j u, es[j]? = some u → Rd F L (elemA v (k + j)) u) : ∀ i u, es[i]? = some u → Rd F L ((elemA v k).add i) u := by
 intro i u hu
 rw [elemA_add]
 exact h i u hu
abbrev FoundT := List Int × Int × StepT × Int
def FoundF (F : FH) (es : List Value) (x : FoundT) : Prop := ∃ a0 a4, es = [a0, .int .i64 x.2.1, .int .i64 x.2.2.1.1, .int .i64 x.2.2.1.2.1, a4, .int .i64 x.2.2.2] ∧ IntsF F a0 x.1 ∧ IntsF F a4 x.2.2.1.2.2
theorem FoundF.mono {F F' : FH} (le : F ≤ F') (es : List Value) (x : FoundT) (h : FoundF F es x) : FoundF F' es x := by
 obtain ⟨a0, a4, e, h0, h4⟩ := h
 exact ⟨a0, a4, e, h0.mono le, h4.mono le⟩
def FoundsF (F : FH) (v : Value) (xs : List FoundT) (cs : List Value) : Prop := ArrF F 6 v xs.length cs ∧ CO 6 FoundF ([], 0, (0, 0, []), 0) F cs xs
theorem FoundsF.mono {F F' : FH} {v : Value} {xs : List FoundT} {cs : List Value} (h : FoundsF F v xs cs) (le : F ≤ F') : FoundsF F' v xs cs := ⟨h.1.mono le, CO.mono (FoundF.mono le) h.2⟩
theorem FoundsF.slv {F : FH} {L : List HP} {v : Value} {xs : List FoundT} {cs : List Value} (h : FoundsF F v xs cs) : SlV F L v xs.length := SlV.arr h.1
theorem FoundsF.isSl {F : FH} {v : Value} {xs : List FoundT} {cs : List Value} (h : FoundsF F v xs cs) : IsSl v := h.1.isSl
theorem FoundsF.rd {F : FH} {v : Value} {xs : List FoundT} {cs : List Value} (h : FoundsF F v xs cs) {i : Nat} (hi : i < xs.length) : ∃ a0 a4, IntsF F a0 (xs.getD i ([], 0, (0, 0, []), 0)).1 ∧ IntsF F a4 (xs.getD i ([], 0, (0, 0, []), 0)).2.2.1.2.2 ∧ (∀ L j u, ([a0, .int .i64 (xs.getD i ([], 0, (0, 0, []), 0)).2.1, .int .i64 (xs.getD i ([], 0, (0, 0, []), 0)).2.2.1.1, .int .i64 (xs.getD i ([], 0, (0, 0, []), 0)).2.2.1.2.1, a4, .int .i64 (xs.getD i ([], 0, (0, 0, []), 0)).2.2.2] : List Value)[j]? = some u → Rd F L (elemA v (i * 6 + j)) u) ∧ (∀ j u, ([a0, .int .i64 (xs.getD i ([], 0, (0, 0, []), 0)).2.1, .int .i64 (xs.getD i ([], 0, (0, 0, []), 0)).2.2.1.1, .int .i64 (xs.getD i ([], 0, (0, 0, []), 0)).2.2.1.2.1, a4, .int .i64 (xs.getD i ([], 0, (0, 0, []), 0)).2.2.2] : List Value)[j]? = some u → cs[i * 6 + j]? = some u) := by
 obtain ⟨es, h1, h2, a0, a4, rfl, h0, h4⟩ := h.2.2 i hi
 refine ⟨a0, a4, h0, h4, fun L j u hu => ?_, fun j u hu => ?_⟩
 ·have := Rd.arrN (L := L) (k := i * 6) (vs := [a0, .int .i64 (xs.getD i ([], 0, (0, 0, []), 0)).2.1, .int .i64 (xs.getD i ([], 0, (0, 0, []), 0)).2.2.1.1, .int .i64 (xs.getD i ([], 0, (0, 0, []), 0)).2.2.1.2.1, a4, .int .i64 (xs.getD i ([], 0, (0, 0, []), 0)).2.2.2]) h.1 (by rw [h1]; exact h2) j u hu
  rwa [elemA_add] at this
 ·rw [← h2, List.getElem?_take] at hu
  split at hu
  ·rwa [List.getElem?_drop] at hu
  ·cases hu
def FoundsC (F : FH) (cs : List Value) (xs : List FoundT) : Prop := CO 6 FoundF ([], 0, (0, 0, []), 0) F cs xs
theorem FoundsC.mono {F F' : FH} {cs : List Value} {xs : List FoundT} (h : FoundsC F cs xs) (le : F ≤ F') : FoundsC F' cs xs := CO.mono (FoundF.mono le) h
theorem FoundsC.snoc {F : FH} {cs : List Value} {xs : List FoundT} {a0 a4 : Value} {y0 : List Int} {y1 : Int} {y2 : Int} {y3 : Int} {y4 : List Int} {y5 : Int} (h : FoundsC F cs xs) (h0 : IntsF F a0 y0) (h4 : IntsF F a4 y4) : FoundsC F (cs ++ [a0, .int .i64 y1, .int .i64 y2, .int .i64 y3, a4, .int .i64 y5]) (xs ++ [(y0, y1, (y2, y3, y4), y5)]) := CO.snoc h rfl ⟨a0, a4, rfl, h0, h4⟩
theorem FoundsC.get {F : FH} {cs : List Value} {xs : List FoundT} (h : FoundsC F cs xs) {i : Nat} (hi : i < xs.length) : ∃ a0 a4, IntsF F a0 (xs.getD i ([], 0, (0, 0, []), 0)).1 ∧ IntsF F a4 (xs.getD i ([], 0, (0, 0, []), 0)).2.2.1.2.2 ∧ (∀ j u, ([a0, .int .i64 (xs.getD i ([], 0, (0, 0, []), 0)).2.1, .int .i64 (xs.getD i ([], 0, (0, 0, []), 0)).2.2.1.1, .int .i64 (xs.getD i ([], 0, (0, 0, []), 0)).2.2.1.2.1, a4, .int .i64 (xs.getD i ([], 0, (0, 0, []), 0)).2.2.2] : List Value)[j]? = some u → cs[i * 6 + j]? = some u) := by
 obtain ⟨es, hl, ⟨a0, a4, rfl, h0, h4⟩, hr⟩ := CO.get h hi
 exact ⟨a0, a4, h0, h4, hr⟩
theorem FoundsC.fz {F : FH} {cs : List Value} {xs : List FoundT} {E : TypeId} {v : Value} {n : Nat} (h : FoundsC F cs xs) (hn : n = xs.length) (hf : Fz (slH E 6 v n cs) F) : FoundsF F v xs cs := by
 subst hn
 exact ⟨hf.sl, h⟩
abbrev MoveT := Int × Int × Bool × List Int
def MoveF (F : FH) (es : List Value) (x : MoveT) : Prop := ∃ a3, es = [.int .i64 x.1, .int .i64 x.2.1, .bool x.2.2.1, a3] ∧ IntsF F a3 x.2.2.2
theorem MoveF.mono {F F' : FH} (le : F ≤ F') (es : List Value) (x : MoveT) (h : MoveF F es x) : MoveF F' es x := by
 obtain ⟨a3, e, h3⟩ := h
 exact ⟨a3, e, h3.mono le⟩
def MovesF : FH → Value → List MoveT → Prop := SlOf 4 MoveF (0, 0, false, [])
theorem MovesF.mono {F F' : FH} {v : Value} {xs : List MoveT} (h : MovesF F v xs) (le : F ≤ F') : MovesF F' v xs := SlOf.mono (MoveF.mono le) h le
theorem MovesF.slv {F : FH} {L : List HP} {v : Value} {xs : List MoveT} (h : MovesF F v xs) : SlV F L v xs.length := SlOf.slv h
theorem MovesF.isSl {F : FH} {v : Value} {xs : List MoveT} (h : MovesF F v xs) : IsSl v := by obtain ⟨_, h, _⟩ := h; exact h.isSl
theorem MovesF.rd {F : FH} {v : Value} {xs : List MoveT} (h : MovesF F v xs) {i : Nat} (hi : i < xs.length) : ∃ a3, IntsF F a3 (xs.getD i (0, 0, false, [])).2.2.2 ∧ (∀ L j u, ([.int .i64 (xs.getD i (0, 0, false, [])).1, .int .i64 (xs.getD i (0, 0, false, [])).2.1, .bool (xs.getD i (0, 0, false, [])).2.2.1, a3] : List Value)[j]? = some u → Rd F L (elemA v (i * 4 + j)) u) ∧ True := by
 obtain ⟨es, hl, ⟨a3, rfl, h3⟩, hr⟩ := SlOf.get h hi
 exact ⟨a3, h3, hr, trivial⟩
def MovesC (F : FH) (cs : List Value) (xs : List MoveT) : Prop := CO 4 MoveF (0, 0, false, []) F cs xs
theorem MovesC.mono {F F' : FH} {cs : List Value} {xs : List MoveT} (h : MovesC F cs xs) (le : F ≤ F') : MovesC F' cs xs := CO.mono (MoveF.mono le) h
theorem MovesC.snoc {F : FH} {cs : List Value} {xs : List MoveT} {a3 : Value} {y0 : Int} {y1 : Int} {y2 : Bool} {y3 : List Int} (h : MovesC F cs xs) (h3 : IntsF F a3 y3) : MovesC F (cs ++ [.int .i64 y0, .int .i64 y1, .bool y2, a3]) (xs ++ [(y0, y1, y2, y3)]) := CO.snoc h rfl ⟨a3, rfl, h3⟩
theorem MovesC.get {F : FH} {cs : List Value} {xs : List MoveT} (h : MovesC F cs xs) {i : Nat} (hi : i < xs.length) : ∃ a3, IntsF F a3 (xs.getD i (0, 0, false, [])).2.2.2 ∧ (∀ j u, ([.int .i64 (xs.getD i (0, 0, false, [])).1, .int .i64 (xs.getD i (0, 0, false, [])).2.1, .bool (xs.getD i (0, 0, false, [])).2.2.1, a3] : List Value)[j]? = some u → cs[i * 4 + j]? = some u) := by
 obtain ⟨es, hl, ⟨a3, rfl, h3⟩, hr⟩ := CO.get h hi
 exact ⟨a3, h3, hr⟩
abbrev PolyT := Int × List Int
def PolyF (F : FH) (es : List Value) (x : PolyT) : Prop := ∃ a1, es = [.int .i64 x.1, a1] ∧ IntsF F a1 x.2
theorem PolyF.mono {F F' : FH} (le : F ≤ F') (es : List Value) (x : PolyT) (h : PolyF F es x) : PolyF F' es x := by
 obtain ⟨a1, e, h1⟩ := h
 exact ⟨a1, e, h1.mono le⟩
def PolysF : FH → Value → List PolyT → Prop := SlOf 2 PolyF (0, [])
theorem PolysF.mono {F F' : FH} {v : Value} {xs : List PolyT} (h : PolysF F v xs) (le : F ≤ F') : PolysF F' v xs := SlOf.mono (PolyF.mono le) h le
theorem PolysF.slv {F : FH} {L : List HP} {v : Value} {xs : List PolyT} (h : PolysF F v xs) : SlV F L v xs.length := SlOf.slv h
theorem PolysF.isSl {F : FH} {v : Value} {xs : List PolyT} (h : PolysF F v xs) : IsSl v := by obtain ⟨_, h, _⟩ := h; exact h.isSl
theorem PolysF.rd {F : FH} {v : Value} {xs : List PolyT} (h : PolysF F v xs) {i : Nat} (hi : i < xs.length) : ∃ a1, IntsF F a1 (xs.getD i (0, [])).2 ∧ (∀ L j u, ([.int .i64 (xs.getD i (0, [])).1, a1] : List Value)[j]? = some u → Rd F L (elemA v (i * 2 + j)) u) ∧ True := by
 obtain ⟨es, hl, ⟨a1, rfl, h1⟩, hr⟩ := SlOf.get h hi
 exact ⟨a1, h1, hr, trivial⟩
def PolysC (F : FH) (cs : List Value) (xs : List PolyT) : Prop := CO 2 PolyF (0, []) F cs xs
theorem PolysC.mono {F F' : FH} {cs : List Value} {xs : List PolyT} (h : PolysC F cs xs) (le : F ≤ F') : PolysC F' cs xs := CO.mono (PolyF.mono le) h
theorem PolysC.snoc {F : FH} {cs : List Value} {xs : List PolyT} {a1 : Value} {y0 : Int} {y1 : List Int} (h : PolysC F cs xs) (h1 : IntsF F a1 y1) : PolysC F (cs ++ [.int .i64 y0, a1]) (xs ++ [(y0, y1)]) := CO.snoc h rfl ⟨a1, rfl, h1⟩
theorem PolysC.get {F : FH} {cs : List Value} {xs : List PolyT} (h : PolysC F cs xs) {i : Nat} (hi : i < xs.length) : ∃ a1, IntsF F a1 (xs.getD i (0, [])).2 ∧ (∀ j u, ([.int .i64 (xs.getD i (0, [])).1, a1] : List Value)[j]? = some u → cs[i * 2 + j]? = some u) := by
 obtain ⟨es, hl, ⟨a1, rfl, h1⟩, hr⟩ := CO.get h hi
 exact ⟨a1, h1, hr⟩
abbrev LineT := Int × List (List Int) × List Int
def LineF (F : FH) (es : List Value) (x : LineT) : Prop := ∃ a1 a2, es = [.int .i64 x.1, a1, a2] ∧ RowsF F a1 x.2.1 ∧ IntsF F a2 x.2.2
theorem LineF.mono {F F' : FH} (le : F ≤ F') (es : List Value) (x : LineT) (h : LineF F es x) : LineF F' es x := by
 obtain ⟨a1, a2, e, h1, h2⟩ := h
 exact ⟨a1, a2, e, h1.mono le, h2.mono le⟩
def LinesF : FH → Value → List LineT → Prop := SlOf 3 LineF (0, [], [])
theorem LinesF.mono {F F' : FH} {v : Value} {xs : List LineT} (h : LinesF F v xs) (le : F ≤ F') : LinesF F' v xs := SlOf.mono (LineF.mono le) h le
theorem LinesF.slv {F : FH} {L : List HP} {v : Value} {xs : List LineT} (h : LinesF F v xs) : SlV F L v xs.length := SlOf.slv h
theorem LinesF.isSl {F : FH} {v : Value} {xs : List LineT} (h : LinesF F v xs) : IsSl v := by obtain ⟨_, h, _⟩ := h; exact h.isSl
theorem LinesF.rd {F : FH} {v : Value} {xs : List LineT} (h : LinesF F v xs) {i : Nat} (hi : i < xs.length) : ∃ a1 a2, RowsF F a1 (xs.getD i (0, [], [])).2.1 ∧ IntsF F a2 (xs.getD i (0, [], [])).2.2 ∧ (∀ L j u, ([.int .i64 (xs.getD i (0, [], [])).1, a1, a2] : List Value)[j]? = some u → Rd F L (elemA v (i * 3 + j)) u) ∧ True := by
 obtain ⟨es, hl, ⟨a1, a2, rfl, h1, h2⟩, hr⟩ := SlOf.get h hi
 exact ⟨a1, a2, h1, h2, hr, trivial⟩
def LinesC (F : FH) (cs : List Value) (xs : List LineT) : Prop := CO 3 LineF (0, [], []) F cs xs
theorem LinesC.mono {F F' : FH} {cs : List Value} {xs : List LineT} (h : LinesC F cs xs) (le : F ≤ F') : LinesC F' cs xs := CO.mono (LineF.mono le) h
theorem LinesC.snoc {F : FH} {cs : List Value} {xs : List LineT} {a1 a2 : Value} {y0 : Int} {y1 : List (List Int)} {y2 : List Int} (h : LinesC F cs xs) (h1 : RowsF F a1 y1) (h2 : IntsF F a2 y2) : LinesC F (cs ++ [.int .i64 y0, a1, a2]) (xs ++ [(y0, y1, y2)]) := CO.snoc h rfl ⟨a1, a2, rfl, h1, h2⟩
theorem LinesC.get {F : FH} {cs : List Value} {xs : List LineT} (h : LinesC F cs xs) {i : Nat} (hi : i < xs.length) : ∃ a1 a2, RowsF F a1 (xs.getD i (0, [], [])).2.1 ∧ IntsF F a2 (xs.getD i (0, [], [])).2.2 ∧ (∀ j u, ([.int .i64 (xs.getD i (0, [], [])).1, a1, a2] : List Value)[j]? = some u → cs[i * 3 + j]? = some u) := by
 obtain ⟨es, hl, ⟨a1, a2, rfl, h1, h2⟩, hr⟩ := CO.get h hi
 exact ⟨a1, a2, h1, h2, hr⟩
abbrev CRuleT := List Int × List Int × List (List Int × List Int)
def CRuleF (F : FH) (es : List Value) (x : CRuleT) : Prop := ∃ a0 a1 a2, es = [a0, a1, a2] ∧ IntsF F a0 x.1 ∧ IntsF F a1 x.2.1 ∧ PairsF F a2 x.2.2
theorem CRuleF.mono {F F' : FH} (le : F ≤ F') (es : List Value) (x : CRuleT) (h : CRuleF F es x) : CRuleF F' es x := by
 obtain ⟨a0, a1, a2, e, h0, h1, h2⟩ := h
 exact ⟨a0, a1, a2, e, h0.mono le, h1.mono le, h2.mono le⟩
def CRulesF : FH → Value → List CRuleT → Prop := SlOf 3 CRuleF ([], [], [])
theorem CRulesF.mono {F F' : FH} {v : Value} {xs : List CRuleT} (h : CRulesF F v xs) (le : F ≤ F') : CRulesF F' v xs := SlOf.mono (CRuleF.mono le) h le
theorem CRulesF.slv {F : FH} {L : List HP} {v : Value} {xs : List CRuleT} (h : CRulesF F v xs) : SlV F L v xs.length := SlOf.slv h
theorem CRulesF.isSl {F : FH} {v : Value} {xs : List CRuleT} (h : CRulesF F v xs) : IsSl v := by obtain ⟨_, h, _⟩ := h; exact h.isSl
theorem CRulesF.rd {F : FH} {v : Value} {xs : List CRuleT} (h : CRulesF F v xs) {i : Nat} (hi : i < xs.length) : ∃ a0 a1 a2, IntsF F a0 (xs.getD i ([], [], [])).1 ∧ IntsF F a1 (xs.getD i ([], [], [])).2.1 ∧ PairsF F a2 (xs.getD i ([], [], [])).2.2 ∧ (∀ L j u, ([a0, a1, a2] : List Value)[j]? = some u → Rd F L (elemA v (i * 3 + j)) u) ∧ True := by
 obtain ⟨es, hl, ⟨a0, a1, a2, rfl, h0, h1, h2⟩, hr⟩ := SlOf.get h hi
 exact ⟨a0, a1, a2, h0, h1, h2, hr, trivial⟩
def CRulesC (F : FH) (cs : List Value) (xs : List CRuleT) : Prop := CO 3 CRuleF ([], [], []) F cs xs
theorem CRulesC.mono {F F' : FH} {cs : List Value} {xs : List CRuleT} (h : CRulesC F cs xs) (le : F ≤ F') : CRulesC F' cs xs := CO.mono (CRuleF.mono le) h
theorem CRulesC.snoc {F : FH} {cs : List Value} {xs : List CRuleT} {a0 a1 a2 : Value} {y0 : List Int} {y1 : List Int} {y2 : List (List Int × List Int)} (h : CRulesC F cs xs) (h0 : IntsF F a0 y0) (h1 : IntsF F a1 y1) (h2 : PairsF F a2 y2) : CRulesC F (cs ++ [a0, a1, a2]) (xs ++ [(y0, y1, y2)]) := CO.snoc h rfl ⟨a0, a1, a2, rfl, h0, h1, h2⟩
theorem CRulesC.get {F : FH} {cs : List Value} {xs : List CRuleT} (h : CRulesC F cs xs) {i : Nat} (hi : i < xs.length) : ∃ a0 a1 a2, IntsF F a0 (xs.getD i ([], [], [])).1 ∧ IntsF F a1 (xs.getD i ([], [], [])).2.1 ∧ PairsF F a2 (xs.getD i ([], [], [])).2.2 ∧ (∀ j u, ([a0, a1, a2] : List Value)[j]? = some u → cs[i * 3 + j]? = some u) := by
 obtain ⟨es, hl, ⟨a0, a1, a2, rfl, h0, h1, h2⟩, hr⟩ := CO.get h hi
 exact ⟨a0, a1, a2, h0, h1, h2, hr⟩
def XStepsF (F : FH) (v : Value) (xs : List StepT) (cs : List Value) : Prop := ArrF F 3 v xs.length cs ∧ StepsC F cs xs
theorem XStepsF.mono {F F' : FH} {v : Value} {xs : List StepT} {cs : List Value} (h : XStepsF F v xs cs) (le : F ≤ F') : XStepsF F' v xs cs := ⟨h.1.mono le, h.2.mono le⟩
theorem XStepsF.slv {F : FH} {L : List HP} {v : Value} {xs : List StepT} {cs : List Value} (h : XStepsF F v xs cs) : SlV F L v xs.length := SlV.arr h.1
theorem XStepsF.isSl {F : FH} {v : Value} {xs : List StepT} {cs : List Value} (h : XStepsF F v xs cs) : IsSl v := h.1.isSl
theorem XStepsF.rd {F : FH} {v : Value} {xs : List StepT} {cs : List Value} (h : XStepsF F v xs cs) {i : Nat} (hi : i < xs.length) : ∃ c, IntsF F c (xs.getD i (0, 0, [])).2.2 ∧ (∀ L, Rd F L (elemA v (i * 3)) (.int .i64 (xs.getD i (0, 0, [])).1)) ∧ (∀ L, Rd F L (elemA v (i * 3 + 1)) (.int .i64 (xs.getD i (0, 0, [])).2.1)) ∧ (∀ L, Rd F L (elemA v (i * 3 + 2)) c) ∧ cs[i * 3 + 2]? = some c := by
 obtain ⟨es, h1, h2, c, rfl, hc⟩ := h.2.2 i hi
 have hq : ∀ j u, ([.int .i64 (xs.getD i (0, 0, [])).1, .int .i64 (xs.getD i (0, 0, [])).2.1, c] : List Value)[j]? = some u → cs[i * 3 + j]? = some u := by
  intro j u hu
  rw [← h2, List.getElem?_take] at hu
  split at hu
  ·rwa [List.getElem?_drop] at hu
  ·cases hu
 have hr : ∀ L j u, ([.int .i64 (xs.getD i (0, 0, [])).1, .int .i64 (xs.getD i (0, 0, [])).2.1, c] : List Value)[j]? = some u → Rd F L (elemA v (i * 3 + j)) u := by
  intro L j u hu
  have := Rd.arrN (L := L) (k := i * 3) (vs := [.int .i64 (xs.getD i (0, 0, [])).1, .int .i64 (xs.getD i (0, 0, [])).2.1, c]) h.1 (by rw [h1]; exact h2) j u hu
  rwa [elemA_add] at this
 exact ⟨c, hc, fun L => by simpa using hr L 0 _ rfl, fun L => hr L 1 _ rfl, fun L => hr L 2 _ rfl, hq 2 _ rfl⟩
section
variable {F F' : FH} {A B M : List HP} {h : HP}
theorem Fresh.less (k : Fresh F F' (star (A ++ h :: B))) : Fresh F F' (star (A ++ B)) := by
 obtain ⟨m, hm, nd, hp⟩ := k
 obtain ⟨a, c, b, ha, hc, hb, rfl⟩ := star_mid.1 hm
 refine ⟨a ++ b, star_append.2 ⟨a, b, ha, hb, rfl⟩, ?_, fun p h' => hp p ?_⟩
 ·refine List.Nodup.sublist ?_ nd
  exact (List.Sublist.append_left (List.sublist_append_right c b) a).map _
 ·rcases List.mem_append.1 h' with h' | h'
  ·exact List.mem_append_left _ h'
  ·exact List.mem_append_right _ (List.mem_append_right _ h')
theorem Fresh.none (k : Fresh F F' (star (A ++ B))) : Fresh F F' (star A) := by
 obtain ⟨m, hm, nd, hp⟩ := k
 obtain ⟨a, b, ha, hb, rfl⟩ := star_append.1 hm
 refine ⟨a, ha, ?_, fun p h' => hp p (List.mem_append_left _ h')⟩
 rw [List.map_append] at nd
 exact (List.nodup_append.1 nd).1
end
def FrStepsF (F0 F : FH) (e : TypeId) (v : Value) (xs : List StepT) : Prop := ∃ acs Ls, XStepsF F v xs acs ∧ DeepL 3 (StepO e) acs xs Ls ∧ Fresh F0 F (star Ls)
theorem FrStepsF.mono {F0 F F' : FH} {e : TypeId} {v : Value} {xs : List StepT} (h : FrStepsF F0 F e v xs) (le : F ≤ F') : FrStepsF F0 F' e v xs := by
 obtain ⟨acs, Ls, h1, h2, h3⟩ := h
 exact ⟨acs, Ls, h1.mono le, h2, h3.mono le⟩
theorem FrStepsF.base {F0 F F1 : FH} {e : TypeId} {v : Value} {xs : List StepT} (h : FrStepsF F1 F e v xs) (le : F0 ≤ F1) : FrStepsF F0 F e v xs := by
 obtain ⟨acs, Ls, h1, h2, h3⟩ := h
 exact ⟨acs, Ls, h1, h2, h3.base le⟩
theorem FrStepsF.isSl {F0 F : FH} {e : TypeId} {v : Value} {xs : List StepT} (h : FrStepsF F0 F e v xs) : IsSl v := by
 obtain ⟨acs, Ls, h1, _, _⟩ := h
 exact h1.isSl
def WJ (F0 : FH) (e ES T : TypeId) (bw : Nat) (fv : Value) (sg : List StepT) (tl : List HP) (k : Nat) (Fy : FH) (Ly : List HP) : Prop :=
 ∃ (sv : Value) (ss : List StepT) (cs : List Value) (Ls : List HP) (m : Nat), IsSl sv ∧ StepsC Fy cs ss ∧ m = ss.length ∧ DeepL 3 (StepO e) cs ss Ls ∧ Fresh F0 Fy (star Ls) ∧ ss = (sg.drop k).reverse ∧ Ly = cellsH bw [fv, sv] T :: slH ES 3 sv m cs :: tl
theorem WJ.start {F0 F : FH} {e ES T : TypeId} {bw : Nat} {fv : Value} {sg : List StepT} {tl : List HP} {b : Option Addr} : WJ F0 e ES T bw fv sg tl sg.length F (cellsH bw [fv, .slice b 0 0] T :: slH ES 3 (.slice b 0 0) 0 [] :: tl) :=
 ⟨_, [], [], [], 0, ⟨_, _, _, rfl⟩, CO.nil, rfl, .nil, .nilL, by simp, rfl⟩
section
variable {F F' G F1 F2 : FH} {D D' : HP} {L M : List HP} {P : Program} {o : Oper} {ρ : Env} {K : Post} {e E : TypeId}
theorem Fresh.perm {A B : List HP} (h : Fresh F F' (star A)) (p : A.Perm B) : Fresh F F' (star B) := by
 obtain ⟨m, hm, nd, hp⟩ := h
 obtain ⟨l, hl, pl⟩ := star_perm p m hm
 exact ⟨l, hl, ((pl.map Prod.fst).nodup_iff).2 nd, fun q hq => hp q (pl.mem_iff.1 hq)⟩
theorem Fresh.left {A B : List HP} (h : Fresh F F' (star (A ++ B))) : Fresh F F' (star A) := h.none
theorem Fresh.right {A B : List HP} (h : Fresh F F' (star (A ++ B))) : Fresh F F' (star B) := (h.perm List.perm_append_comm).none
theorem StepsC.get {F : FH} {cs : List Value} {xs : List StepT} (h : StepsC F cs xs) {i : Nat} (hi : i < xs.length) :
  ∃ a, IntsF F a (xs.getD i (0, 0, [])).2.2 ∧ cs[i * 3]? = some (.int .i64 (xs.getD i (0, 0, [])).1) ∧ cs[i * 3 + 1]? = some (.int .i64 (xs.getD i (0, 0, [])).2.1) ∧ cs[i * 3 + 2]? = some a := by
 obtain ⟨es, _, ⟨a, rfl, ha⟩, hg⟩ := CO.get h hi
 exact ⟨a, ha, by simpa using hg 0 _ rfl, hg 1 _ rfl, hg 2 _ rfl⟩
def FreshsF (F0 F : FH) (D : HP) : Prop := Fresh F0 F D
theorem FreshsF.mono {F0 F F' : FH} {D : HP} (h : FreshsF F0 F D) (le : F ≤ F') : FreshsF F0 F' D := Fresh.mono h le
theorem slH.isSl {s n : Nat} {v : Value} {cs : List Value} {l : OH} (h : slH E s v n cs l) : IsSl v := by
 rcases h.2 with ⟨b, rfl, _⟩ | ⟨b, c, sp, rfl, _⟩
 ·exact ⟨_, _, _, rfl⟩
 ·exact ⟨_, _, _, rfl⟩
end
section
variable {F F' G : FH} {e E : TypeId} {v : Value}
def MoveO (e : TypeId) (es : List Value) (x : MoveT) (K : List HP) : Prop := ∃ c, es = [.int .i64 x.1, .int .i64 x.2.1, .bool x.2.2.1, c] ∧ K = [intsH e c x.2.2.2]
abbrev movesD (e E : TypeId) (v : Value) (xs : List MoveT) : HP := deepH 4 (MoveO e) E v xs
theorem MoveO.fz (es : List Value) (x : MoveT) (K : List HP) (h : MoveO e es x K) (hz : ∃ l, star K l ∧ ∀ p ∈ l, F.cells p.1 = some p.2) : MoveF F es x := by
 obtain ⟨c, rfl, rfl⟩ := h
 exact ⟨c, rfl, intsH.fz (E := e) (frozen_star hz _ (by simp))⟩
theorem movesD.fz {xs : List MoveT} (h : Fz (movesD e E v xs) F) : MovesF F v xs := deepH.fz MoveO.fz h
end
def WJM (F0 : FH) (e ES T : TypeId) (bw : Nat) (fv : Value) (tk : Nat → List MoveT) (tl : List HP) (k : Nat) (Fy : FH) (Ly : List HP) : Prop :=
 ∃ (sv : Value) (ms : List MoveT) (cs : List Value) (Ls : List HP) (m : Nat), IsSl sv ∧ MovesC Fy cs ms ∧ m = ms.length ∧ DeepL 4 (MoveO e) cs ms Ls ∧ Fresh F0 Fy (star Ls) ∧ ms = tk k ∧ Ly = cellsH bw [fv, sv] T :: slH ES 4 sv m cs :: tl
theorem WJM.start {F0 F : FH} {e ES T : TypeId} {bw k : Nat} {fv : Value} {tk : Nat → List MoveT} {tl : List HP} {b : Option Addr} (h : tk k = []) : WJM F0 e ES T bw fv tk tl k F (cellsH bw [fv, .slice b 0 0] T :: slH ES 4 (.slice b 0 0) 0 [] :: tl) :=
 ⟨_, [], [], [], 0, ⟨_, _, _, rfl⟩, CO.nil, rfl, .nil, .nilL, h.symm, rfl⟩
section
variable {P : Program} {ρ : Env} {F : FH} {L : List HP} {K : Post} {d : Option Tmp} {ty : TypeId} {pos : String} {af : Array Edge} {g : Option (Nat × Bool)}
end
theorem StepsC.ones {F : FH} {cs : List Value} {xs : List StepT} (h : StepsC F cs xs) : ∀ u ∈ cs, u.oneCell' = true := by
 intro u hu
 obtain ⟨q, hq, rfl⟩ := List.getElem_of_mem hu
 have hl := h.1
 obtain ⟨es, h1, ⟨c, rfl, hc⟩, hg⟩ := CO.get h (i := q / 3) (by omega)
 have hj : q % 3 < 3 := Nat.mod_lt _ (by decide)
 have e : q / 3 * 3 + q % 3 = q := by omega
 have hx : ∀ v, [Value.int .i64 (xs.getD (q / 3) (0, 0, [])).1, .int .i64 (xs.getD (q / 3) (0, 0, [])).2.1, c][q % 3]? = some v → cs[q] = v := fun v hv => by
  have := hg (q % 3) v hv
  rw [e, List.getElem?_eq_getElem hq] at this
  exact Option.some.inj this
 obtain ⟨b, n, k, rfl⟩ := IntsF.isSl hc
 match hm : q % 3, hj with
 | 0, _ => rw [hx _ (by rw [hm]; rfl)]; rfl
 | 1, _ => rw [hx _ (by rw [hm]; rfl)]; rfl
 | 2, _ => rw [hx _ (by rw [hm]; rfl)]; rfl
def roundQ2 (l : Nat) (R : Loop) (K : Post) : QX := fun e _ F L =>
 (e = .normal ∧ ∃ L0, Sub L (objH l (.loop { R with state := .busy }) :: L0) ∧ K (.bool true) F (objH l (.loop { R with state := .ready, pending := none }) :: L0)) ∨
 (e = .ret ∧ ∃ L0, Sub L (objH l (.loop { R with state := .busy }) :: L0) ∧ K (.bool false) F (objH l (.loop { R with state := .done, pending := some .ret }) :: L0))
def WKJ (F0 : FH) (e ES T : TypeId) (bw : Nat) (fv : Value) (tl : List HP) (I : Nat → List StepT → Prop) (k : Nat) (Fy : FH) (Ly : List HP) : Prop :=
 ∃ (sv : Value) (ss : List StepT) (cs : List Value) (Ls : List HP) (m : Nat), IsSl sv ∧ StepsC Fy cs ss ∧ m = ss.length ∧ DeepL 3 (StepO e) cs ss Ls ∧ Fresh F0 Fy (star Ls) ∧ I k ss ∧ Ly = cellsH bw [fv, sv] T :: slH ES 3 sv m cs :: tl
theorem WKJ.start {F0 F : FH} {e ES T : TypeId} {bw : Nat} {fv : Value} {tl : List HP} {I : Nat → List StepT → Prop} {b : Option Addr} (h : I 0 []) : WKJ F0 e ES T bw fv tl I 0 F (cellsH bw [fv, .slice b 0 0] T :: slH ES 3 (.slice b 0 0) 0 [] :: tl) :=
 ⟨_, [], [], [], 0, ⟨_, _, _, rfl⟩, CO.nil, rfl, .nil, .nilL, h, rfl⟩
theorem WKJ.mono {F0 F F' : FH} {e ES T : TypeId} {bw k : Nat} {fv : Value} {tl L : List HP} {I : Nat → List StepT → Prop} (h : WKJ F0 e ES T bw fv tl I k F L) (le : F ≤ F') : WKJ F0 e ES T bw fv tl I k F' L :=
 let ⟨sv, ss, cs, Ls, m, h1, h2, h3, h4, h5, h6, h7⟩ := h
 ⟨sv, ss, cs, Ls, m, h1, h2.mono le, h3, h4, h5.mono le, h6, h7⟩
theorem roundNB {b l : Nat} {R : Loop} {K : Post} {ρ : Env} {F : FH} {L : List HP} (h : ∃ L0, Sub L (objH l (.loop { R with state := .busy }) :: L0) ∧ K (.bool true) F (objH l (.loop { R with state := .ready, pending := none }) :: L0)) : blockQ b (roundQ2 l R K) .normal ρ F L := .inl ⟨rfl, h⟩
theorem roundR {l : Nat} {R : Loop} {K : Post} {ρ : Env} {F : FH} {L : List HP} (h : ∃ L0, Sub L (objH l (.loop { R with state := .busy }) :: L0) ∧ K (.bool false) F (objH l (.loop { R with state := .done, pending := some .ret }) :: L0)) : roundQ2 l R K .ret ρ F L := .inr ⟨rfl, h⟩
theorem Yld.of_round2 {P : Program} {n l : Nat} {R : Loop} {ps : Array Tmp} {assign body : Code} {args : List Value} {F : FH} {L : List HP} {ρ : Env} {K : Post}
  (hr : R.state = .ready) (hp0 : R.pending = none) (hps : R.params = ps) (ha : R.assign = assign) (hb : R.body = body) (hsz : R.tmps.size = n) (hget : ∀ i, R.tmps.getD i undef = ρ i)
  (hlen : args.length = ps.size) (hlt0 : (ps.toList.all fun p => Nat.blt p n) = true) (oka : cOkI n assign = true) (okb : cOkI n body = true)
  (h : XI P n (some l) [] assign (thenQ (fun ρ1 F1 L1 => ∃ L2, Sub L1 (objH l (.loop R) :: L2) ∧ XI P n (some l) [] body (roundQ2 l R K) ρ1 F1 (objH l (.loop { R with state := .busy }) :: L2)) (fun _ _ _ _ => False)) (setP (ps.toList.zip args) ρ) F (objH l (.loop R) :: L)) :
  Yld P l args F (objH l (.loop R) :: L) K := by
 have hlt : ∀ p ∈ ps.toList, p < n := fun p hp => Nat.le_of_ble_eq_true (List.all_eq_true.1 hlt0 p hp)
 intro w H
 have hl := Holds.get (A := []) H
 have hy := run_yield (P := P) (args := args.toArray) hl (by rw [hps]; simp [hlen])
 refine ⟨_, _, _, _, hy, roundIn_of_wpIn trivial ?_⟩
 have hfold : (R.params.zip args.toArray).foldl (fun tmps (x : Tmp × Value) => tmps.setIfInBounds x.1 x.2) R.tmps = (ps.toList.zip args).foldl (fun t (p : Tmp × Value) => t.setIfInBounds p.1 p.2) R.tmps := by
  rw [hps, ← Array.foldl_toList, Array.toList_zip]
 have hset := setP_rep (n := n) (ps.toList.zip args) R.tmps ρ hsz hget (fun p hp => hlt p.1 (List.of_mem_zip hp).1)
 have hrep : RepD n [] { tmps := (R.params.zip args.toArray).foldl (fun tmps (x : Tmp × Value) => tmps.setIfInBounds x.1 x.2) R.tmps, defers := [] } (setP (ps.toList.zip args) ρ) := by
  rw [hfold]; exact ⟨hset.1, rfl, hset.2⟩
 rw [ha, hb]
 refine wpIn_mono (F := Fence.wide.inRound l) (n := 9) (show Code.wpIn (Fence.wide.inRound l) 9 P assign _ _ w from h oka _ w hrep H) ?_
 rintro e a1 w1 ⟨ρ1, F1, L1, r1, le1, H1, q⟩
 cases e with
 | normal =>
  obtain ⟨L2, s2, q2⟩ := q
  have H2 := s2.holds H1
  have hl2 := Holds.get (A := []) H2
  refine ⟨_, run_beginRound hl2 hr, ?_⟩
  refine wpIn_mono (F := Fence.wide.inRound l) (n := 9) (show Code.wpIn (Fence.wide.inRound l) 9 P body _ _ _ from q2 okb a1 _ r1 H2.turn) ?_
  rintro e a3 w3 ⟨ρ3, F3, L3, r3, le3, H3, he⟩
  rcases he with ⟨rfl, L4, s4, k4⟩ | ⟨rfl, L4, s4, k4⟩
  ·have H4 := s4.holds H3
   have hl4 := Holds.get (A := []) H4
   refine ⟨_, _, run_endRound none hl4, _, F3, _, rfl, le1.trans le3, H4.turn, ?_⟩
   exact k4
  ·have H4 := s4.holds H3
   have hl4 := Holds.get (A := []) H4
   refine ⟨_, _, run_endRound (some .ret) hl4, _, F3, _, rfl, le1.trans le3, H4.turn, ?_⟩
   exact k4
 | _ => exact q.elim
section
variable {P : Program} {fn : Func} {Q : Post} {ρ : Env} {F F0 : FH} {L : List HP}
theorem XF.seqR {x y : Code} (h : X P fn.ntmps x (thenQ (fun ρ' F' L' => XF P fn F0 y Q ρ' F' L') (retQ P fn F0 Q)) ρ F L) : XF P fn F0 (.seq x y) Q ρ F L := by
 intro ok a w r H
 simp only [cOkI, Bool.and_eq_true] at ok
 refine wpIn_seq (wpIn_mono (wpIn_wide.2 (h (cOkI_cOk ok.1) a w r H)) ?_)
 rintro e a' w' ⟨ρ', F', L', r', le, H', q⟩
 cases e with
 | normal => exact q ok.2 a' w' r' H'
 | ret =>
  obtain ⟨_, vs, L6, F2, hv, l1, l2, hsub, q⟩ := q
  have hres := results_run (P := P) (fn := fn) (n := fn.ntmps) (a := a') (w := w') r' H' hv
  show LeavesInM _ _ _ _ _ _ a'.defers _ _
  rw [r'.defers]
  exact ⟨_, hres, _, F2, L6, rfl, l1, hsub.holds (H'.forget l2), q⟩
 | _ => exact absurd q.1 (by simp)
theorem Does.at {f : FuncId} {args : List Value} {Q : Value → FH → Prop} {h : HP} (A : List HP) {B : List HP} (H : Does P f args F (h :: (A ++ B)) fun v F' L' => Q v F' ∧ h :: (A ++ B) = L') : Does P f args F (A ++ h :: B) fun v F' L' => Q v F' ∧ A ++ h :: B = L' := fun w Hw =>
 (H w (Sub.front.holds Hw)).mono fun _ _ ⟨v, F', L', he, le, H', hq, hl⟩ => ⟨v, F', _, he, le, Sub.back.holds (hl ▸ H'), hq, rfl⟩
theorem XR.rangeB2 {id : Nat} {g : Operand} {ps : Array Tmp} {assign body rest : Code} {gf : Nat} {lb : List Value}
  (hg : evO ρ g = .func (.func gf) #[] lb.toArray) (eg : ∀ args w, (callFunc gf args).run P w = .ok (.enter gf args) w)
  (h : ∀ (l D : Nat) (R : Loop), R.state = .ready → R.pending = none → R.params = ps → R.assign = assign → R.body = body → R.tmps.size = fn.ntmps → (∀ i, R.tmps.getD i undef = ρ i) →
   Does P gf (.func (.yield l) #[] #[] :: lb) F (objH l (.loop R) :: objH D (.deferred (some [])) :: L) (fun _ F' L' => ∃ (R' : Loop) (L2 : List HP), R'.state ≠ .busy ∧ Sub L' (objH l (.loop R') :: objH D (.deferred (some [])) :: L2) ∧
    ((R'.pending = none ∧ XI P fn.ntmps none (markD D) rest (finD P fn F0 D Q) ρ F' (objH D (.deferred (some [])) :: L2)) ∨ (R'.pending = some .ret ∧ finD P fn F0 D Q .ret ρ F' (objH D (.deferred (some [])) :: L2))))) :
  XR P fn F0 (.block id (.rangeFunc g ps assign body)) rest Q ρ F L := by
 intro ok1 okr a w r H
 have ok : cOkI fn.ntmps (.block id (.rangeFunc g ps assign body)) = true ∧ cOkI fn.ntmps rest = true := ⟨ok1, okr⟩
 refine wpIn_block (wpIn_rangeFunc (fun fid _ => ?_))
 have H1 := H.new (.deferred (some []))
 have H2 := H1.new (.loop { state := .ready, pending := none, fn := fid, tmps := a.tmps, params := ps, assign, body, defers := w.heap.size })
 rw [World.size_alloc] at H2
 have he := run_enterLoop_outer (P := P) (w := w) fid a.tmps ps assign body
 generalize (w.alloc (.deferred (some []))).alloc (.loop { state := .ready, pending := none, fn := fid, tmps := a.tmps, params := ps, assign, body, defers := w.heap.size }) = W1 at he H2
 have hd := h (w.heap.size + 1) w.heap.size { state := .ready, pending := none, fn := fid, tmps := a.tmps, params := ps, assign, body, defers := w.heap.size } rfl rfl rfl rfl rfl r.size r.get W1 H2
 refine ⟨w.heap.size + 1, markD w.heap.size, W1, { target := .fn (.func gf) lb.toArray, args := #[.func (.yield (w.heap.size + 1)) #[] #[]] }, W1, gf, #[.func (.yield (w.heap.size + 1)) #[] #[]] ++ lb.toArray, W1, he, ?_, fun _ _ => trivial, ?_, fun _ => by decide, ?_⟩
 ·have hg' : a.eval g = .func (.func gf) #[] lb.toArray := by rw [r.eval]; exact hg
  simp only [resolve, hg', Deferred.ofValue]
  simp [go_sem, Act.eval]
 ·simp [invoke, go_sem, eg]
 ·have hargs : (Value.func (.yield (w.heap.size + 1)) #[] #[] :: lb).toArray = #[.func (.yield (w.heap.size + 1)) #[] #[]] ++ lb.toArray := by simp
  rw [hargs] at hd
  refine callsIn_wide.2 (hd.mono ?_)
  rintro e w3 ⟨v, F', L', rfl, le, H3, R', L2, hb, hs, hx⟩
  have H4 := hs.holds H3
  have hl := Holds.get (A := []) H4
  have H5 := (Sub.drop (Sub.refl _)).holds (H4.turn (o' := .loop { R' with state := .exhausted }))
  have r' : RepD fn.ntmps (markD w.heap.size) { a with defers := markD w.heap.size ++ a.defers } ρ := ⟨r.size, by simp [r.defers], r.get⟩
  have leave : ∀ (a4 : Act) (w4 : World) (ρ4 : Env) (F4 : FH) (L4 : List HP), RepD fn.ntmps (markD w.heap.size) a4 ρ4 → Holds F4 L4 w4 → finD P fn F0 w.heap.size Q .ret ρ4 F4 L4 → LeavesInM Fence.wide 9 P fn a4.tmps (fin P F0 Q) a4.defers .returning w4 := by
   rintro a4 w4 ρ4 F4 L4 r4 H6 ⟨_, vs, L5, L6, F2, hv, l1, l2, hsub, hsub2, q⟩
   have H7 := hsub.holds H6
   have hk := Holds.get (A := []) H7
   have H8 := H7.turn (o' := .deferred none)
   have hres := results_run (P := P) (fn := fn) (n := fn.ntmps) (a := { a4 with defers := [] }) (w := w4.putObj w.heap.size (.deferred none)) ⟨r4.size, rfl, r4.get⟩ H8 hv
   have hfin : fin P F0 Q (.returned (oneOr vs)) (w4.putObj w.heap.size (.deferred none)) := ⟨_, F2, L6, rfl, l1, ((Sub.drop hsub2).holds H8).forget l2, q⟩
   rw [r4.defers]
   exact ⟨by simp, .inl ⟨_, _, rfl, run_takeDeferred hk, ⟨_, hres, hfin⟩⟩⟩
  rcases hx with ⟨hp, hx⟩ | ⟨hp, hx⟩
  ·have hend := (run_endLoop (P := P) hl hb).trans (congrArg (fun p => Result.ok p _) hp)
   refine ⟨none, _, hend, ?_⟩
   refine wpIn_mono (hx ok.2 _ _ r' H5) ?_
   rintro e a4 w4 ⟨ρ4, F4, L4, r4, le4, H6, he, hq⟩
   rcases he with rfl | rfl
   ·exact leave a4 w4 ρ4 F4 L4 r4 H6 ⟨.inl rfl, hq⟩
   ·exact leave a4 w4 ρ4 F4 L4 r4 H6 ⟨.inl rfl, hq⟩
  ·have hend := (run_endLoop (P := P) hl hb).trans (congrArg (fun p => Result.ok p _) hp)
   refine ⟨some .ret, _, hend, wpIn_ret ?_⟩
   exact leave _ _ ρ F' _ r' H5 hx
end
section
variable {P : Program} {ρ : Env} {F : FH} {L : List HP} {K : Post} {d : Option Tmp} {ty : TypeId} {pos : String} {af : Array Edge} {g : Option (Nat × Bool)}
end
abbrev PPost := List PanicEntry → FH → List HP → Prop
def DoesP (P : Program) (f : FuncId) (args : List Value) (F : FH) (L : List HP) (Q : Post) (K : PPost) : Prop :=
 ∀ w, Holds F L w → Calls P f args.toArray w fun e w' =>
  (∃ v F' L', e = .returned v ∧ F ≤ F' ∧ Holds F' L' w' ∧ Q v F' L') ∨ (∃ ch F' L', e = .panicked ch ∧ F ≤ F' ∧ Holds F' L' w' ∧ K ch F' L')
theorem DoesP.mono {P : Program} {f : FuncId} {args : List Value} {F : FH} {L : List HP} {Q Q' : Post} {K K' : PPost} (h : DoesP P f args F L Q K) (hq : ∀ v F' L', F ≤ F' → Q v F' L' → Q' v F' L') (hk : ∀ c F' L', F ≤ F' → K c F' L' → K' c F' L') : DoesP P f args F L Q' K' := fun w H =>
 (h w H).mono fun e w' he => by
  rcases he with ⟨v, F', L', a, b, c, d⟩ | ⟨v, F', L', a, b, c, d⟩
  ·exact .inl ⟨v, F', L', a, b, c, hq _ _ _ b d⟩
  ·exact .inr ⟨v, F', L', a, b, c, hk _ _ _ b d⟩
theorem DoesP.weaken {P : Program} {f : FuncId} {args : List Value} {F : FH} {L L' : List HP} {Q : Post} {K : PPost} (s : Sub L L') (h : DoesP P f args F L' Q K) : DoesP P f args F L Q K := fun w H => h w (s.holds H)
theorem XL.callP {P : Program} {n : Nat} {ops : Array Oper} {l : List Oper} {Q : QX} {ρ : Env} {F : FH} {L : List HP} {d : Option Tmp} {ty : TypeId} {pos : String} {af : Array Edge} {f : FuncId} {as : List Operand} {ts : Array TypeId} {Qr : Post} {K : PPost}
  (args : List Value) (hf : ∀ args w, (callFunc f args).run P w = .ok (.enter f args) w) (ha : as.map (evO ρ) = args) (h : DoesP P f args F L Qr K)
  (hp : ∀ ch F' L', F ≤ F' → K ch F' L' → Q (.panic ch) ρ F' L') (hk : ∀ v F' L', F ≤ F' → Qr v F' L' → XL P n ops l Q (putE ρ d v) F' L') :
  XL P n ops (⟨d, .call { callee := .value (.func f), args := as.toArray, argTypes := ts }, ty, pos, af, none⟩ :: l) Q ρ F L := by
 subst ha
 intro ok a w r H
 simp only [opsOk, List.all_cons, Bool.and_eq_true] at ok
 unfold wpList
 rw [if_pos (by simp [Region.wanted])]
 refine .inl ?_
 unfold Oper.wp
 rw [r.eval]
 have he : (execOp (evO ρ) ⟨d, .call { callee := .value (.func f), args := as.toArray, argTypes := ts }, ty, pos, af, none⟩).run P w = .ok (.enter f (as.map (evO ρ)).toArray) w := by
  simp [execOp, resolve, evO, Deferred.ofValue, invoke, hf]
 rw [he]
 refine (h w H).mono ?_
 rintro e w'' (⟨v, F', L', rfl, le, H', q⟩ | ⟨ch, F', L', rfl, le, H', q⟩)
 ·exact wpList_mono (fun _ _ _ q => low_le le q) _ _ _ (hk v F' L' le q ok.2 _ _ (r.put ok.1 v) H')
 ·exact ⟨ρ, F', L', r, le, H', hp ch F' L' le q⟩
theorem XL.panicI {P : Program} {n : Nat} {ops : Array Oper} {l : List Oper} {Q : QX} {ρ : Env} {F : FH} {L : List HP} {d : Option Tmp} {ty : TypeId} {pos : String} {af : Array Edge} {x : Operand} {T : TypeId} {u : Value}
  (hx : evO ρ x = .iface T u) (hp : Q (.panic [{ v := .iface T u, recovered := false }]) ρ F L) : XL P n ops (⟨d, .panic x, ty, pos, af, none⟩ :: l) Q ρ F L := by
 intro ok a w r H
 unfold wpList
 rw [if_pos (by simp [Region.wanted])]
 refine .inl ?_
 unfold Oper.wp
 rw [r.eval]
 have he : (execOp (evO ρ) ⟨d, .panic x, ty, pos, af, none⟩).run P w = .halt (.panic (.iface T u)) w := by
  simp [execOp, hx, Instr.panic, goPanic]
 rw [he]
 exact ⟨ρ, F, L, r, FLe.refl F, H, hp⟩
theorem XOp.iface {P : Program} {ρ : Env} {F : FH} {L : List HP} {K : Post} {d : Option Tmp} {ty : TypeId} {pos : String} {af : Array Edge} {g : Option (Nat × Bool)} {T : TypeId} {x : Operand} {v : Value} {fs : Array Field}
  (hu : ∀ w, (underlying T).run P w = .ok (.struct fs) w) (hx : evO ρ x = v) (k : K (.iface T v) F L) : XOp P ⟨d, .makeInterface T x, ty, pos, af, g⟩ ρ F L K :=
 XOp.value (fun w H => by simp [execOp, hx, Instr.makeInterface, hu]) k
theorem XOp.assertOk {P : Program} {ρ : Env} {F : FH} {L : List HP} {K : Post} {d : Option Tmp} {ty : TypeId} {pos : String} {af : Array Edge} {g : Option (Nat × Bool)} {S T : TypeId} {x : Operand} {v : Value} {fs : Array Field}
  (hu : ∀ w, (underlying T).run P w = .ok (.struct fs) w) (hx : evO ρ x = .iface T v) (k : K (.tuple #[v, .bool true]) F L) : XOp P ⟨d, .typeAssert x S T true, ty, pos, af, g⟩ ρ F L K :=
 XOp.value (fun w H => by simp [execOp, hx, Instr.typeAssert, hu]) k
def retQP (P : Program) (fn : Func) (F0 : FH) (Q : Post) (K : PPost) : QX := fun e ρ F L => retQ P fn F0 Q e ρ F L ∨ ∃ ch, e = .panic ch ∧ K ch F L
theorem DoesP.of_X {P : Program} {f : FuncId} {fn : Func} {c : Code} {args : List Value} {F : FH} {L : List HP} {Q : Post} {K : PPost}
  (hf : P.funcs[f]? = some fn) (hb : fn.body = some c) (hd : cOk fn.ntmps c = true) (hn : Nat.ble args.length fn.ntmps = true)
  (h : X P fn.ntmps c (retQP P fn F Q K) (env0 args) F L) : DoesP P f args F L Q K := by
 intro w H
 refine calls_of_wp hf hb (Code.wp_mono ?_ (h hd _ w ⟨?_, rfl, fun i => ?_⟩ H))
 ·rintro e a' w' ⟨ρ', F', L', r', le, H', (⟨he, vs, L'', F2, hv, l1, l2, hsub, q⟩ | ⟨ch, rfl, k⟩)⟩
  ·have hr := results_run (P := P) (w := w') r' H' hv
   rcases he with rfl | rfl
   ·exact ⟨r'.defers, _, hr, .inl ⟨_, F2, L'', rfl, l1, hsub.holds (H'.forget l2), q⟩⟩
   ·exact ⟨r'.defers, _, hr, .inl ⟨_, F2, L'', rfl, l1, hsub.holds (H'.forget l2), q⟩⟩
  ·exact ⟨r'.defers, .inr ⟨ch, F', L', rfl, le, H', k⟩⟩
 ·have := Nat.le_of_ble_eq_true hn
  simp
  omega
 ·simp only [env0, Array.getD_eq_getD_getElem?, List.getD_eq_getElem?_getD, Array.getElem?_append, List.size_toArray, List.getElem?_toArray, Array.getElem?_replicate]
  split
  ·rfl
  ·rename_i hi
   rw [List.getElem?_eq_none (Nat.le_of_not_lt hi)]
   split <;> rfl
theorem retEndP {P : Program} {fn : Func} {F0 F2 : FH} {Q : Post} {K : PPost} {ρ : Env} {F : FH} {L L' : List HP} (vs : List Value) (v : Value) (hr : ResAll P F L ρ fn.results.toList vs) (hv : oneOr vs = v) (l1 : F0 ≤ F2) (l2 : F2 ≤ F) (s : Sub L L') (h : Q v F2 L') : retQP P fn F0 Q K .ret ρ F L := .inl (retEnd vs v hr hv l1 l2 s h)
theorem retEndNP {P : Program} {fn : Func} {F0 F2 : FH} {Q : Post} {K : PPost} {ρ : Env} {F : FH} {L L' : List HP} (vs : List Value) (v : Value) (hr : ResAll P F L ρ fn.results.toList vs) (hv : oneOr vs = v) (l1 : F0 ≤ F2) (l2 : F2 ≤ F) (s : Sub L L') (h : Q v F2 L') : retQP P fn F0 Q K .normal ρ F L := .inl (retEndN vs v hr hv l1 l2 s h)
theorem wp_of_X {P : Program} {n : Nat} {c : Code} {Q : QX} {a : Act} {w : World} {F : FH} {L : List HP} (l : List (Nat × Value)) (hsz : a.tmps.size = n) (hd : a.defers = []) (hs : sat (fun i => a.tmps.getD i undef) l) (hok : cOk n c = true) (h : ∀ rE, X P n c Q (envs l rE) F L) (H : Holds F L w) :
  c.wp P (low n F Q) a w := by
 have := h (fun i => a.tmps.getD i undef)
 rw [envs_of_sat hs] at this
 exact this hok a w ⟨hsz, hd, fun i => rfl⟩ H
theorem wpList_one {P : Program} {ops : Array Oper} {Q : Exit → Act → World → Prop} {o : Oper} {l : List Oper} {a : Act} {w : World} (hg : o.guard = none) (h : o.wp P a w (wpList P ops Q l) Q) : wpList P ops Q (o :: l) a w := by
 unfold wpList
 rw [if_pos (by simp [Region.wanted, hg])]
 exact .inl h
theorem eval_raw (a : Act) : a.eval = evO (fun i => a.tmps.getD i undef) := by
 funext x
 cases x <;> rfl
theorem wp_XOp_raw {P : Program} {o : Oper} {a : Act} {w : World} {F : FH} {L : List HP} {K : Post} {N : Act → World → Prop} {Q : Exit → Act → World → Prop} (h : XOp P o (fun i => a.tmps.getD i undef) F L K) (H : Holds F L w)
  (hN : ∀ v F' L' w', F ≤ F' → Holds F' L' w' → K v F' L' → N (a.put o.dst v) w') : o.wp P a w N Q := by
 unfold Oper.wp
 rw [eval_raw]
 rcases h w H with ⟨v, w', F', L', h1, h2, h3, h4⟩ | ⟨w', F', L', h1, h2, h3, h4⟩ | ⟨f, args, w', h1, h2⟩
 ·rw [h1]; exact hN v F' L' w' h2 h3 h4
 ·rw [h1]; exact hN undef F' L' w' h2 h3 h4
 ·rw [h1]
  refine h2.mono fun e w'' ⟨v, F', L', he, hle, hH, hk⟩ => ?_
  subst he
  exact hN v F' L' w'' hle hH hk
theorem get_1 {bs : List Value} {s a : Value} {i : Nat} (h : bs[i]? = some a) : (s :: bs)[1 + i]? = some a := by rw [Nat.add_comm]; simpa using h
theorem set_1 {bs : List Value} {s a : Value} {i : Nat} : (s :: bs).set (1 + i) a = s :: bs.set i a := by rw [Nat.add_comm]; rfl
theorem blt_1 {bs : List Value} {s : Value} {i : Nat} (h : i < bs.length) : Nat.blt (1 + i) (s :: bs).length = true := by
 simp only [Nat.blt, List.length_cons]; exact Nat.ble_eq_true_of_le (by omega)
theorem ne_of_notNil {a : Value} {x : List Int} (hn : isNil a = decide (x = [])) (h : (!isNil a) = true) : x ≠ [] := fun e => by rw [hn, decide_eq_true e] at h; cases h
theorem eq_of_isNil {a : Value} {x : List Int} (hn : isNil a = decide (x = [])) (h : (!isNil a) = false) : x = [] := by
 rw [hn] at h
 exact of_decide_eq_true (by simpa using h)
abbrev bools (ss : List Bool) : List Value := ss.map Value.bool
theorem bools_get {ss : List Bool} {i : Nat} (h : i < ss.length) : (bools ss)[i]? = some (.bool (ss.getD i false)) := by simp [bools, List.getD, h]
theorem bools_set {ss : List Bool} {i : Nat} {b : Bool} : (bools ss).set i (.bool b) = bools (ss.set i b) := by simp [bools, List.map_set]
theorem bools_blt {ss : List Bool} {i : Nat} (h : i < ss.length) : Nat.blt i (bools ss).length = true := by
 simp only [Nat.blt, bools, List.length_map]; exact Nat.ble_eq_true_of_le (by omega)
end Go.Proofs.YtcdjpapjjoldeaaGreat.X
namespace Go.Proofs.YtcdjpapjjoldeaaGreat.M
def nm (t : List Int) : List Int := t.map fun x => if x < 0 then -1 else x
section
variable {ar t : List Int} {p n q e : Nat}
theorem nm_len : (nm t).length = t.length := by simp [nm]
theorem nm_drop : (nm t).drop p = nm (t.drop p) := by simp [nm, List.map_drop]
theorem nm_take : (nm t).take p = nm (t.take p) := by simp [nm, List.map_take]
theorem nm_get (hp : p < t.length) : (nm t).getD p 0 = if t.getD p 0 < 0 then -1 else t.getD p 0 := by simp [nm, List.getD, hp]
theorem arity_nm {x : Int} : arity ar (if x < 0 then -1 else x) = arity ar x := by
 by_cases hx : x < 0
 ·rw [if_pos hx]; unfold arity; rw [if_pos (by omega), if_pos hx]
 ·rw [if_neg hx]
theorem endGo_nm : ∀ (r : List Int) (n : Nat), endGo ar (nm r) n = endGo ar r n
 | r, 0 => by simp [endGo]
 | [], n + 1 => rfl
 | x :: r, n + 1 => by
  show endGo ar ((if x < 0 then -1 else x) :: nm r) (n + 1) = _
  simp only [endGo, arity_nm, endGo_nm r]
  by_cases hx : x < 0
  ·rw [if_pos hx, if_pos (by omega), if_pos (by omega)]
  ·rw [if_neg hx]
theorem endAt_nm : endAt ar (nm t) p = endAt ar t p := by unfold endAt; rw [nm_drop, endGo_nm]
theorem endN_nm : endN ar (nm t) p = endN ar t p := by unfold endN; rw [endAt_nm]
theorem endZ_nm : endZ ar (nm t) p = endZ ar t p := by unfold endZ; rw [endAt_nm]
theorem sub_nm : sub ar (nm t) p = nm (sub ar t p) := by unfold sub; rw [nm_drop, endN_nm, nm_take]
structure TermW (ar t : List Int) : Prop where
 sig : sigOk ar = true
 len : 1 ≤ t.length ∧ t.length ≤ 60
 whole : endGo ar t 1 = some t.length
 ge : ∀ x ∈ t, -48 ≤ x
theorem TermW.nm (h : TermW ar t) : termOk ar (nm t) = true := termOk_iff.2 (by
 have := h.len
 refine ⟨h.sig, by rw [nm_len]; omega, by rw [nm_len]; omega, ?_, by rw [endGo_nm, nm_len]; exact h.whole⟩
 intro x hx
 obtain ⟨y, _, rfl⟩ := List.mem_map.1 hx
 split <;> omega)
theorem termW_of (h : termOk ar t = true) : TermW ar t := by
 have h1 := termOk_iff.1 h
 exact ⟨h1.sig, ⟨h1.pos, h1.len⟩, h1.whole, fun x hx => by have := h1.ge x hx; omega⟩
theorem TermW.endN (h : TermW ar t) (hp : p < t.length) : p < endN ar t p ∧ M.endN ar t p ≤ t.length := by
 have := endN_spec h.nm (p := p) (by rw [nm_len]; exact hp)
 rwa [endN_nm, nm_len] at this
theorem TermW.endZ (h : TermW ar t) (hp : p < t.length) : endZ ar t p = (M.endN ar t p : Int) := by
 have := endZ_endN h.nm (p := p) (by rw [nm_len]; exact hp)
 rwa [endN_nm, endZ_nm] at this
theorem TermW.lt (h : TermW ar t) (hp : p < t.length) : t.getD p 0 < ar.length := by
 have := termOk_lt h.nm (p := p) (by rw [nm_len]; exact hp)
 rw [nm_get hp] at this
 split at this <;> omega
theorem TermW.geD (h : TermW ar t) (hp : p < t.length) : -48 ≤ t.getD p 0 := getD_all h.ge hp
theorem mem_sub {x : Int} (h : x ∈ sub ar t p) : x ∈ t := List.mem_of_mem_drop (List.mem_of_mem_take h)
theorem TermW.sub (h : TermW ar t) (hp : p < t.length) : TermW ar (sub ar t p) := by
 have := termOk_iff.1 (sub_ok h.nm (p := p) (by rw [nm_len]; exact hp))
 rw [sub_nm] at this
 have h1 := this.pos
 have h2 := this.len
 have h3 := this.whole
 rw [nm_len] at h1 h2 h3
 rw [endGo_nm] at h3
 exact ⟨h.sig, ⟨h1, h2⟩, h3, fun x hx => h.ge x (mem_sub hx)⟩
theorem Stand_nm : Stand ar (nm t) n q e ↔ Stand ar t n q e := by unfold Stand; rw [nm_drop, endGo_nm, nm_len]
theorem arityD_nm : arity ar ((nm t).getD p 0) = arity ar (t.getD p 0) := by
 by_cases hp : p < t.length
 ·rw [nm_get hp, arity_nm]
 ·simp [List.getD, nm, List.getElem?_eq_none (Nat.le_of_not_lt hp)]
theorem argsGo_nm : ∀ n q, argsGo ar (nm t) n q = argsGo ar t n q
 | 0, _ => rfl
 | n + 1, q => by rw [argsGo, argsGo, endN_nm, argsGo_nm]
theorem argsL_nm : argsL ar (nm t) p = argsL ar t p := by unfold argsL; rw [arityD_nm, argsGo_nm]
theorem TermW.stand0 (h : TermW ar t) (hp : p < t.length) : Stand ar t (arity ar (t.getD p 0)).toNat (p + 1) (M.endN ar t p) := by
 have := stand_start h.nm (p := p) (by rw [nm_len]; exact hp)
 rwa [Stand_nm, arityD_nm, endN_nm] at this
theorem TermW.stand (h : TermW ar t) (hs : Stand ar t (n + 1) q e) : q < t.length ∧ Stand ar t n (M.endN ar t q) e ∧ q < M.endN ar t q ∧ M.endN ar t q ≤ e := by
 have := stand_step h.nm (Stand_nm.2 hs)
 rwa [Stand_nm, nm_len, endN_nm] at this
theorem TermW.args_le (h : TermW ar t) (hp : p < t.length) : (argsL ar t p).length ≤ 3 := by
 have := argsL_le h.nm (p := p) (by rw [nm_len]; exact hp)
 rwa [argsL_nm] at this
theorem TermW.args_in (h : TermW ar t) (hp : p < t.length) {k : Nat} (hk : k < (argsL ar t p).length) : (p : Int) < (argsL ar t p).getD k 0 ∧ (argsL ar t p).getD k 0 < (M.endN ar t p : Int) := by
 have := argsL_in h.nm (p := p) (by rw [nm_len]; exact hp) (k := k) (by rw [argsL_nm]; exact hk)
 rw [argsL_nm, endN_nm] at this
 exact ⟨this.1, this.2.1⟩
theorem TermW.end0 (h : TermW ar t) : M.endN ar t 0 = t.length := by
 unfold M.endN endAt
 rw [List.drop_zero, h.whole]; simp
theorem TermW.ne (h : TermW ar t) : t ≠ [] := fun e => by have := h.len.1; rw [e] at this; simp at this
def WF (ar r : List Int) (n : Nat) : Prop := endGo ar r n = some r.length
theorem WF_nil : WF ar [] 0 := rfl
theorem WF_cons {x : Int} {r : List Int} : WF ar (x :: r) (n + 1) ↔ x < ar.length ∧ WF ar r (n + (arity ar x).toNat) := by
 unfold WF
 simp only [endGo, List.length_cons]
 by_cases hx : x < ar.length
 ·rw [if_pos hx]
  cases hr : endGo ar r (n + (arity ar x).toNat) with
  | none => simp
  | some k => simp [hx]
 ·rw [if_neg hx]; simp [hx]
theorem WF_app {a b : List Int} {m : Nat} (h : WF ar a n) (k : WF ar b m) : WF ar (a ++ b) (n + m) := by
 have := endGo_join (endGo_more (b := b) h) (m := m) (e2 := b.length) (by rw [List.drop_left]; exact k)
 unfold WF
 rw [List.length_append]; exact this
theorem WF_same {a b s r : List Int} (h : WF ar a n) (k : WF ar b n) (e : a ++ s = b ++ r) : a = b ∧ s = r := by
 have h1 := endGo_more (b := s) h
 rw [e, endGo_more (b := r) k] at h1
 exact List.append_inj e (Option.some.inj h1).symm
theorem WF.zero {r : List Int} (h : WF ar r 0) : r = [] := by
 unfold WF at h
 simp only [endGo, Option.some.injEq] at h
 exact List.eq_nil_of_length_eq_zero h.symm
theorem WF.pos {r : List Int} (h : WF ar r (n + 1)) : r ≠ [] := fun e => by subst e; simp [WF, endGo] at h
theorem TermW.wf (h : TermW ar t) : WF ar t 1 := h.whole
theorem WF.var {x : Int} (hx : x < 0) : WF ar [x] 1 := WF_cons.2 ⟨by omega, by rw [show arity ar x = 0 from by unfold arity; rw [if_pos hx]]; exact WF_nil⟩
theorem WF.one {x : Int} {r : List Int} (h : WF ar (x :: r) 1) (hx : x < 0) : r = [] := by
 have := (WF_cons.1 h).2
 rw [show arity ar x = 0 from by unfold arity; rw [if_pos hx]] at this
 exact this.zero
theorem TermW.isvar (h : TermW ar t) (hx : t.getD 0 0 < 0) : t = [t.getD 0 0] := by
 cases t with
 | nil => exact absurd rfl h.ne
 | cons x r => simp only [List.getD_cons_zero] at hx ⊢; rw [h.wf.one hx]
theorem wf_sub (h : TermW ar t) (hp : p < t.length) : t.drop p = sub ar t p ++ t.drop (M.endN ar t p) := by
 have := h.endN hp
 unfold sub
 rw [show t.drop (M.endN ar t p) = (t.drop p).drop (M.endN ar t p - p) from by rw [List.drop_drop]; congr 1; omega, List.take_append_drop]
end
abbrev Sbs := Int → List Int
def ap (θ : Sbs) (t : List Int) : List Int := t.flatMap θ
structure GoodS (ar : List Int) (θ : Sbs) : Prop where
 sym : ∀ n, 0 ≤ n → θ n = [n]
 var : ∀ n, n < 0 → WF ar (θ n) 1
section
variable {ar t s r : List Int} {θ σ : Sbs} {n : Nat} {x : Int}
@[simp] theorem ap_nil : ap θ [] = [] := rfl
theorem ap_cons : ap θ (x :: t) = θ x ++ ap θ t := by simp [ap]
theorem ap_app : ap θ (t ++ s) = ap θ t ++ ap θ s := by simp [ap]
theorem ap_one : ap θ [x] = θ x := by simp [ap]
theorem ap_ap : ap θ (ap σ t) = ap (fun n => ap θ (σ n)) t := by
 induction t with
 | nil => rfl
 | cons x t ih => rw [ap_cons, ap_app, ih, ap_cons]
theorem ap_congr (h : ∀ x ∈ t, θ x = σ x) : ap θ t = ap σ t := by
 induction t with
 | nil => rfl
 | cons x t ih => rw [ap_cons, ap_cons, h x (by simp), ih (fun y hy => h y (by simp [hy]))]
theorem mem_ap {y : Int} : y ∈ ap θ t ↔ ∃ x ∈ t, y ∈ θ x := by simp [ap]
theorem GoodS.pos (h : GoodS ar θ) : 1 ≤ (θ x).length := by
 rcases Int.lt_or_le x 0 with hx | hx
 ·have := (h.var x hx).pos
  cases hl : θ x with
  | nil => exact absurd hl this
  | cons => simp
 ·rw [h.sym x hx]; simp
theorem GoodS.len (h : GoodS ar θ) : t.length ≤ (ap θ t).length := by
 induction t with
 | nil => simp
 | cons x t ih => rw [ap_cons, List.length_append, List.length_cons]; have := h.pos (x := x); omega
theorem GoodS.len_mem (h : GoodS ar θ) (hx : x ∈ t) : (θ x).length + t.length ≤ (ap θ t).length + 1 := by
 induction t with
 | nil => cases hx
 | cons y t ih =>
  rw [ap_cons, List.length_append, List.length_cons]
  rcases List.mem_cons.1 hx with rfl | hx
  ·have := h.len (t := t); omega
  ·have := ih hx; have := h.pos (x := y); omega
theorem ap_wf (h : GoodS ar θ) : ∀ {r : List Int} {n : Nat}, WF ar r n → WF ar (ap θ r) n
 | [], 0, _ => WF_nil
 | [], n + 1, k => absurd rfl k.pos
 | x :: r, 0, k => by have := k.zero; cases this
 | x :: r, n + 1, k => by
  obtain ⟨h1, h2⟩ := WF_cons.1 k
  rw [ap_cons]
  rcases Int.lt_or_le x 0 with hx | hx
  ·rw [show arity ar x = 0 from by unfold arity; rw [if_pos hx]] at h2
   rw [Nat.add_comm]
   exact WF_app (h.var x hx) (ap_wf h h2)
  ·rw [h.sym x hx]
   exact WF_cons.2 ⟨h1, ap_wf h h2⟩
theorem GoodS.id : GoodS ar (fun n => [n]) := ⟨fun _ _ => rfl, fun _ h => WF.var h⟩
theorem ap_id : ap (fun n => [n]) t = t := by simp [ap]
def partsL (ar t : List Int) : RowL := (argsL ar t 0).map fun q => sub ar t q.toNat
theorem parts_go (h : TermW ar t) : ∀ {n q e : Nat}, Stand ar t n q e → ((argsGo ar t n q).map fun q => sub ar t q.toNat).flatten = (t.drop q).take (e - q)
 | 0, q, e, hs => by
  have := hs.1
  simp only [endGo, Option.some.injEq] at this
  have := hs.2
  simp [argsGo, show e - q = 0 by omega]
 | n + 1, q, e, hs => by
  obtain ⟨h1, h2, h3, h4⟩ := h.stand hs
  rw [argsGo, List.map_cons, List.flatten_cons, parts_go h h2, Int.toNat_natCast]
  unfold sub
  rw [show e - q = (M.endN ar t q - q) + (e - M.endN ar t q) from by omega, List.take_add, List.drop_drop, show q + (M.endN ar t q - q) = M.endN ar t q from by omega]
theorem parts_flat (h : TermW ar t) : t = t.getD 0 0 :: (partsL ar t).flatten := by
 have hl := h.len
 unfold partsL argsL
 rw [parts_go h (h.stand0 (p := 0) (by omega)), h.end0, List.take_of_length_le (by rw [List.length_drop]; omega)]
 cases t with
 | nil => exact absurd rfl h.ne
 | cons x r => simp
theorem parts_wf (h : TermW ar t) : ∀ s ∈ partsL ar t, TermW ar s := by
 intro s hs
 unfold partsL at hs
 obtain ⟨q, hq, rfl⟩ := List.mem_map.1 hs
 obtain ⟨k, hk, rfl⟩ := List.getElem_of_mem hq
 have hl := h.len
 have := h.args_in (p := 0) (by omega) hk
 rw [h.end0] at this
 have e : (argsL ar t 0)[k] = (argsL ar t 0).getD k 0 := by simp [List.getD, hk]
 rw [e]
 exact h.sub (by omega)
theorem parts_len : (partsL ar t).length = (arity ar (t.getD 0 0)).toNat := by unfold partsL; rw [List.length_map, argsL_len]
theorem flat_same : ∀ {as bs : RowL}, as.length = bs.length → (∀ a ∈ as, WF ar a 1) → (∀ b ∈ bs, WF ar b 1) → as.flatten = bs.flatten → as = bs
 | [], [], _, _, _, _ => rfl
 | [], _ :: _, h, _, _, _ => by simp at h
 | _ :: _, [], h, _, _, _ => by simp at h
 | a :: as, b :: bs, h, ha, hb, e => by
  simp only [List.flatten_cons] at e
  obtain ⟨e1, e2⟩ := WF_same (ha a (by simp)) (hb b (by simp)) e
  rw [e1, flat_same (by simpa using h) (fun x hx => ha x (by simp [hx])) (fun x hx => hb x (by simp [hx])) e2]
theorem ap_flat {as : RowL} : ap θ as.flatten = (as.map (ap θ)).flatten := by
 induction as with
 | nil => rfl
 | cons a as ih => rw [List.flatten_cons, ap_app, ih, List.map_cons, List.flatten_cons]
theorem ap_parts {a c : List Int} (g : GoodS ar θ) (ha : TermW ar a) (hc : TermW ar c) (h0 : 0 ≤ a.getD 0 0) (he : a.getD 0 0 = c.getD 0 0) :
  ap θ a = ap θ c ↔ ∀ i, i < (partsL ar a).length → ap θ ((partsL ar a).getD i []) = ap θ ((partsL ar c).getD i []) := by
 have hl : (partsL ar a).length = (partsL ar c).length := by rw [parts_len, parts_len, he]
 have e1 : ap θ a = ap θ c ↔ (partsL ar a).map (ap θ) = (partsL ar c).map (ap θ) := by
  have ea : ap θ a = θ (a.getD 0 0) ++ ((partsL ar a).map (ap θ)).flatten := by
   have := congrArg (ap θ) (parts_flat ha); rwa [ap_cons, ap_flat] at this
  have ec : ap θ c = θ (a.getD 0 0) ++ ((partsL ar c).map (ap θ)).flatten := by
   have := congrArg (ap θ) (parts_flat hc); rwa [ap_cons, ap_flat, ← he] at this
  rw [ea, ec]
  constructor
  ·intro h
   exact flat_same (ar := ar) (by simp [hl]) (fun x hx => by obtain ⟨y, hy, rfl⟩ := List.mem_map.1 hx; exact ap_wf g (parts_wf ha y hy).wf) (fun x hx => by obtain ⟨y, hy, rfl⟩ := List.mem_map.1 hx; exact ap_wf g (parts_wf hc y hy).wf) (List.append_cancel_left h)
  ·intro h; rw [h]
 rw [e1]
 constructor
 ·intro h i hi
  have := congrArg (fun l : RowL => l.getD i []) h
  simpa [List.getD, hi, show i < (partsL ar c).length by omega] using this
 ·intro h
  refine List.ext_getElem (by simp [hl]) fun i h1 h2 => ?_
  have hi : i < (partsL ar a).length := by simpa using h1
  have := h i hi
  simpa [List.getD, hi, show i < (partsL ar c).length by omega] using this
theorem ap_heads {a c : List Int} (g : GoodS ar θ) (ha : TermW ar a) (hc : TermW ar c) (h0 : 0 ≤ a.getD 0 0) (h1 : 0 ≤ c.getD 0 0) (hn : a.getD 0 0 ≠ c.getD 0 0) : ap θ a ≠ ap θ c := by
 intro h
 have ea := congrArg (ap θ) (parts_flat ha)
 have ec := congrArg (ap θ) (parts_flat hc)
 rw [ap_cons, g.sym _ h0] at ea
 rw [ap_cons, g.sym _ h1] at ec
 rw [ea, ec] at h
 exact hn (List.cons.inj h).1
theorem part_lt (g : GoodS ar θ) (ha : TermW ar t) {i : Nat} (hi : i < (partsL ar t).length) : (ap θ ((partsL ar t).getD i [])).length < (ap θ t).length := by
 have e : ap θ t = θ (t.getD 0 0) ++ ap θ (partsL ar t).flatten := by
  have := congrArg (ap θ) (parts_flat ha); rwa [ap_cons] at this
 have hp := g.pos (x := t.getD 0 0)
 rw [e, List.length_append, ap_flat]
 have : ∀ (l : RowL) (j : Nat), j < l.length → (ap θ (l.getD j [])).length ≤ (l.map (ap θ)).flatten.length := by
  intro l
  induction l with
  | nil => intro j hj; simp at hj
  | cons x l ih =>
   intro j hj
   rw [List.map_cons, List.flatten_cons, List.length_append]
   cases j with
   | zero => simp
   | succ j => have := ih j (by simpa using hj); simp only [List.getD_cons_succ]; omega
 have := this _ i hi
 omega
end
def SatB (b : RowL) (θ : Sbs) : Prop := ∀ n, n < 0 → lkN b n ≠ [] → θ n = ap θ (lkN b n)
def Sol (b : RowL) (σ : Sbs) : Prop := ∀ n, σ n = if lkN b n = [] then [n] else ap σ (lkN b n)
def Acyc (b : RowL) (ρ : Int → Nat) : Prop := ∀ n, n < 0 → ∀ m ∈ lkN b n, m < 0 → ρ m < ρ n
structure BOk (ar : List Int) (b : RowL) : Prop where
 len : b.length = 48
 wt : ∀ n, n < 0 → lkN b n ≠ [] → TermW ar (lkN b n)
 acyc : ∃ ρ, Acyc b ρ
section
variable {ar t s : List Int} {b : RowL} {θ σ : Sbs} {ρ : Int → Nat} {x n : Int}
def solGo (b : RowL) : Nat → Sbs
 | 0, n => [n]
 | k + 1, n => if lkN b n = [] then [n] else ap (solGo b k) (lkN b n)
theorem solGo_sym (h : 0 ≤ n) : ∀ k, solGo b k n = [n]
 | 0 => rfl
 | k + 1 => by rw [solGo, if_pos (lkN_pos h)]
theorem solGo_stable (ha : Acyc b ρ) : ∀ (r : Nat) (n : Int), n < 0 → ρ n = r → ∀ k, r < k → solGo b k n = solGo b (r + 1) n := by
 intro r
 induction r using Nat.strongRecOn with
 | _ r ih =>
  intro n hn hr k hk
  obtain ⟨k, rfl⟩ : ∃ j, k = j + 1 := ⟨k - 1, by omega⟩
  rw [solGo, solGo]
  split
  ·rfl
  ·refine ap_congr fun m hm => ?_
   rcases Int.lt_or_le m 0 with h0 | h0
   ·have := ha n hn m hm h0
    rw [ih (ρ m) (by omega) m h0 rfl k (by omega), ih (ρ m) (by omega) m h0 rfl r (by omega)]
   ·rw [solGo_sym h0, solGo_sym h0]
theorem sol_exists (ha : Acyc b ρ) : ∃ σ, Sol b σ := by
 refine ⟨fun n => solGo b (ρ n + 1) n, fun n => ?_⟩
 dsimp only
 rw [solGo]
 split
 ·rfl
 ·refine ap_congr fun m hm => ?_
  rcases Int.lt_or_le m 0 with h0 | h0
  ·rcases Int.lt_or_le n 0 with hn | hn
   ·exact solGo_stable ha _ m h0 rfl _ (ha n hn m hm h0)
   ·rw [lkN_pos hn] at hm; cases hm
  ·rw [solGo_sym h0, solGo_sym h0]
theorem Sol.sym (h : Sol b σ) (hn : 0 ≤ n) : σ n = [n] := by rw [h n, if_pos (lkN_pos hn)]
theorem Sol.free (h : Sol b σ) (hn : lkN b n = []) : σ n = [n] := by rw [h n, if_pos hn]
theorem Sol.bound (h : Sol b σ) (hn : lkN b n ≠ []) : σ n = ap σ (lkN b n) := by rw [h n, if_neg hn]
theorem Sol.sat (h : Sol b σ) : SatB b σ := fun n _ hn => h.bound hn
theorem Sol.good (hb : BOk ar b) (h : Sol b σ) : GoodS ar σ := by
 obtain ⟨ρ, ha⟩ := hb.acyc
 refine ⟨fun n hn => h.sym hn, ?_⟩
 have key : ∀ (r : Nat) (n : Int), n < 0 → ρ n = r → WF ar (σ n) 1 := by
  intro r
  induction r using Nat.strongRecOn with
  | _ r ih =>
   intro n hn hr
   by_cases hl : lkN b n = []
   ·rw [h.free hl]; exact WF.var hn
   ·rw [h.bound hl]
    have g : GoodS ar (fun m => if m ∈ lkN b n then σ m else [m]) := by
     refine ⟨fun m hm => ?_, fun m hm => ?_⟩
     ·split
      ·exact h.sym hm
      ·rfl
     ·split
      ·rename_i hmem
       exact ih (ρ m) (by have := ha n hn m hmem hm; omega) m hm rfl
      ·exact WF.var hm
    rw [ap_congr (σ := fun m => if m ∈ lkN b n then σ m else [m]) (fun m hm => by simp [hm])]
    exact ap_wf g (hb.wt n hn hl).wf
 exact fun n hn => key _ n hn rfl
theorem Sol.most (ha : Acyc b ρ) (h : Sol b σ) (hs : ∀ n, 0 ≤ n → θ n = [n]) (hθ : SatB b θ) : ∀ n, ap θ (σ n) = θ n := by
 have key : ∀ (r : Nat) (n : Int), n < 0 → ρ n = r → ap θ (σ n) = θ n := by
  intro r
  induction r using Nat.strongRecOn with
  | _ r ih =>
   intro n hn hr
   by_cases hl : lkN b n = []
   ·rw [h.free hl, ap_one]
   ·rw [h.bound hl, ap_ap, hθ n hn hl]
    refine ap_congr fun m hm => ?_
    rcases Int.lt_or_le m 0 with h0 | h0
    ·exact ih (ρ m) (by have := ha n hn m hm h0; omega) m h0 rfl
    ·rw [h.sym h0, ap_one]
 intro n
 rcases Int.lt_or_le n 0 with h0 | h0
 ·exact key _ n h0 rfl
 ·rw [h.sym h0, ap_one]
theorem Sol.most_t (hb : BOk ar b) (h : Sol b σ) (g : GoodS ar θ) (hθ : SatB b θ) : ap θ (ap σ t) = ap θ t := by
 obtain ⟨ρ, ha⟩ := hb.acyc
 rw [ap_ap]
 exact ap_congr fun m _ => h.most ha g.sym hθ m
theorem BOk.sol (hb : BOk ar b) : ∃ σ, Sol b σ := let ⟨_, ha⟩ := hb.acyc; sol_exists ha
theorem lkN_nils : lkN (List.replicate 48 []) n = [] := by
 unfold lkN
 split
 ·rfl
 ·simp only [List.getD, List.getElem?_replicate]
  split <;> rfl
theorem BOk.nils : BOk ar (List.replicate 48 []) := ⟨by simp, fun n _ h => absurd lkN_nils h, ⟨fun _ => 0, fun n _ m hm => by rw [lkN_nils] at hm; cases hm⟩⟩
theorem SatB.nils : SatB (List.replicate 48 []) θ := fun n _ h => absurd lkN_nils h
theorem varIx_inj {x y : Int} (hx : x < 0) (hy : y < 0) (h : varIx x = varIx y) : x = y := by unfold varIx at h; omega
theorem lkN_set (hb : b.length = 48) (hx : x < 0) (hx48 : -48 ≤ x) : lkN (b.set (varIx x) t) n = if n = x then t else lkN b n := by
 unfold lkN
 by_cases hn : 0 ≤ n
 ·rw [if_pos hn, if_pos hn, if_neg (by omega)]
 ·rw [if_neg hn, if_neg hn]
  by_cases h : n = x
  ·subst h
   rw [if_pos rfl]
   simp only [List.getD, List.getElem?_set_self (show varIx n < b.length by rw [hb]; unfold varIx; omega), Option.getD_some]
  ·rw [if_neg h]
   simp only [List.getD]
   rw [List.getElem?_set_ne]
   intro e
   exact h (varIx_inj (by omega) hx e.symm)
theorem reach_mem {y : Int} (h : Sol b σ) (hm : n ∈ lkN b y) (hxn : x ∈ σ n) : x ∈ σ y := by
 rw [h.bound (fun e => by rw [e] at hm; cases hm)]
 exact mem_ap.2 ⟨n, hm, hxn⟩
theorem maxRank (l : List Int) (ρ : Int → Nat) : ∃ N, ∀ m ∈ l, ρ m < N := by
 induction l with
 | nil => exact ⟨0, fun _ h => by cases h⟩
 | cons x l ih =>
  obtain ⟨N, hN⟩ := ih
  refine ⟨N + ρ x + 1, fun m hm => ?_⟩
  rcases List.mem_cons.1 hm with rfl | hm
  ·omega
  ·have := hN m hm; omega
theorem BOk.bind (hb : BOk ar b) (h : Sol b σ) (hx : x < 0) (hx48 : -48 ≤ x) (hf : lkN b x = []) (ht : TermW ar t) (hno : x ∉ ap σ t) : BOk ar (b.set (varIx x) t) := by
 obtain ⟨ρ, ha⟩ := hb.acyc
 refine ⟨by rw [List.length_set]; exact hb.len, fun n hn hl => ?_, ?_⟩
 ·rw [lkN_set hb.len hx hx48] at hl ⊢
  split
  ·exact ht
  ·rename_i hne; rw [if_neg hne] at hl; exact hb.wt n hn hl
 ·obtain ⟨N, hN⟩ := maxRank t ρ
  refine ⟨fun y => if x ∈ σ y then ρ y + N else ρ y, fun n hn m hm h0 => ?_⟩
  dsimp only
  rw [lkN_set hb.len hx hx48] at hm
  split at hm
  ·rename_i he
   subst he
   have h1 : n ∉ σ m := fun hc => hno (mem_ap.2 ⟨m, hm, hc⟩)
   have h2 : n ∈ σ n := by rw [h.free hf]; simp
   rw [if_neg h1, if_pos h2]
   have := hN m hm; omega
  ·have := ha n hn m hm h0
   by_cases h1 : x ∈ σ m
   ·rw [if_pos h1, if_pos (reach_mem h hm h1)]; omega
   ·rw [if_neg h1]; split <;> omega
theorem SatB.bind (hb : b.length = 48) (hx : x < 0) (hx48 : -48 ≤ x) (hf : lkN b x = []) (ht : t ≠ []) : SatB (b.set (varIx x) t) θ ↔ SatB b θ ∧ θ x = ap θ t := by
 unfold SatB
 constructor
 ·intro h
  refine ⟨fun n hn hl => ?_, ?_⟩
  ·have := h n hn
   rw [lkN_set hb hx hx48, if_neg (fun e => by subst e; exact hl hf)] at this
   exact this hl
  ·have := h x hx
   rw [lkN_set hb hx hx48, if_pos rfl] at this
   exact this ht
 ·intro ⟨h1, h2⟩ n hn hl
  rw [lkN_set hb hx hx48] at hl ⊢
  split
  ·rename_i e; rw [e]; exact h2
  ·rename_i e; rw [if_neg e] at hl; exact h1 n hn hl
theorem no_occurs (hb : BOk ar b) (h : Sol b σ) (g : GoodS ar θ) (hθ : SatB b θ) (hx : x ∈ ap σ t) (h2 : 2 ≤ (ap σ t).length) : θ x ≠ ap θ t := by
 intro e
 rw [← h.most_t hb g hθ] at e
 have := g.len_mem hx
 have := congrArg List.length e
 omega
inductive RootOf (b : RowL) : List Int → List Int → Prop
 | here {t : List Int} (h : 0 ≤ t.getD 0 0 ∨ lkN b (t.getD 0 0) = []) : RootOf b t t
 | step {t u : List Int} (h0 : t.getD 0 0 < 0) (hl : lkN b (t.getD 0 0) ≠ []) (h : RootOf b (lkN b (t.getD 0 0)) u) : RootOf b t u
end
section
variable {ar t a c u w x y A C : List Int} {b b1 b2 : RowL} {θ σ : Sbs} {ρ : Int → Nat} {n m : Int} {k j N : Nat} {sn s1 s2 : List Bool} {E E1 E2 : Sbs → Prop}
def ClearM (σ : Sbs) (ρ : Int → Nat) (n : Int) (k : Nat) (sn : List Bool) : Prop := ∀ m : Int, m < 0 → sn.getD (varIx m) false = true → ρ m < k → n ∉ σ m
def MarkR (σ : Sbs) (n : Int) (sn s1 : List Bool) : Prop := ∀ m : Int, m < 0 → s1.getD (varIx m) false = true → sn.getD (varIx m) false = true ∨ n ∉ σ m
theorem MarkR.refl : MarkR σ n sn sn := fun _ _ h => .inl h
theorem set_mark (hl : s1.length = 48) (hm : m < 0) (hg : -48 ≤ m) (hy : n < 0) : (s1.set (varIx m) true).getD (varIx n) false = true ↔ n = m ∨ s1.getD (varIx n) false = true := by
 by_cases e : n = m
 ·subst e
  simp only [List.getD, List.getElem?_set_self (show varIx n < s1.length by rw [hl]; unfold varIx; omega), Option.getD_some, true_or]
 ·have : varIx m ≠ varIx n := fun h => e (varIx_inj hy hm h.symm)
  simp only [List.getD, List.getElem?_set_ne this, e, false_or]
theorem MarkR.step (h : MarkR σ n sn s1) (hl : s1.length = 48) (hm : m < 0) (hg : -48 ≤ m) (h2 : MarkR σ n (s1.set (varIx m) true) s2) (hno : n ∉ σ m) : MarkR σ n sn s2 := by
 intro y hy hs
 rcases h2 y hy hs with h3 | h3
 ·rcases (set_mark hl hm hg hy).1 h3 with rfl | h4
  ·exact .inr hno
  ·exact h y hy h4
 ·exact .inr h3
theorem MarkR.set (h : MarkR σ n sn s1) (hl : s1.length = 48) (hm : m < 0) (hg : -48 ≤ m) (hno : n ∉ σ m) : MarkR σ n sn (s1.set (varIx m) true) := h.step hl hm hg .refl hno
theorem ClearM.down (h : ClearM σ ρ n k sn) (h1 : MarkR σ n sn s1) (hl : s1.length = 48) (hm : m < 0) (hg : -48 ≤ m) (hk : ρ m < k) : ClearM σ ρ n (ρ m) (s1.set (varIx m) true) := by
 intro y hy hs hr
 rcases (set_mark hl hm hg hy).1 hs with rfl | h4
 ·omega
 ·rcases h1 y hy h4 with h5 | h5
  ·exact h y hy h5 (by omega)
  ·exact h5
theorem ClearM.seen (h : ClearM σ ρ n k sn) (h1 : MarkR σ n sn s1) (hm : m < 0) (hs : s1.getD (varIx m) false = true) (hk : ρ m < k) : n ∉ σ m := by
 rcases h1 m hm hs with h5 | h5
 ·exact h m hm h5 hk
 ·exact h5
theorem ClearM.nils : ClearM σ ρ n k (List.replicate N false) := by
 intro m hm h
 simp only [List.getD, List.getElem?_replicate] at h
 split at h <;> simp at h
theorem occ_here (hf : lkN b n = []) (h : Sol b σ) (hj : j < t.length) (he : t.getD j 0 = n) : n ∈ ap σ t := mem_ap.2 ⟨n, mem_of_getD hj he, by rw [h.free hf]; simp⟩
theorem occ_in (h : Sol b σ) (hj : j < t.length) (hm : t.getD j 0 = m) (hl : lkN b m ≠ []) (ho : n ∈ ap σ (lkN b m)) : n ∈ ap σ t := mem_ap.2 ⟨m, mem_of_getD hj hm, by rw [h.bound hl]; exact ho⟩
theorem occ_not (hall : ∀ i, i < t.length → n ∉ σ (t.getD i 0)) : n ∉ ap σ t := by
 intro h
 obtain ⟨x, hx, hn⟩ := mem_ap.1 h
 obtain ⟨i, hi, rfl⟩ := List.getElem_of_mem hx
 have := hall i hi
 simp only [List.getD, List.getElem?_eq_getElem hi, Option.getD_some] at this
 exact this hn
theorem sym_no (h : Sol b σ) (hn : n < 0) (hm : 0 ≤ m) : n ∉ σ m := by rw [h.sym hm]; simp; omega
theorem free_no (h : Sol b σ) (hne : m ≠ n) (hl : lkN b m = []) : n ∉ σ m := by rw [h.free hl]; simp; omega
theorem bound_no (h : Sol b σ) (hl : lkN b m ≠ []) (hno : n ∉ ap σ (lkN b m)) : n ∉ σ m := by rw [h.bound hl]; exact hno
theorem lkN_get (hm : m < 0) : lkN b m = b.getD (varIx m) [] := lkN_neg hm
structure Root (ar : List Int) (b : RowL) (t u : List Int) : Prop where
 w : TermW ar u
 top : 0 ≤ u.getD 0 0 ∨ lkN b (u.getD 0 0) = []
 same : ∀ θ : Sbs, SatB b θ → ap θ t = ap θ u
def RootTo (ar : List Int) (b : RowL) (t u : List Int) : Prop := TermW ar u ∧ ∀ θ : Sbs, SatB b θ → ap θ t = ap θ u
theorem RootTo.refl (h : TermW ar t) : RootTo ar b t t := ⟨h, fun _ _ => rfl⟩
theorem RootTo.next (hb : BOk ar b) (h : RootTo ar b t u) (h0 : u.getD 0 0 < 0) (hl : b.getD (varIx (u.getD 0 0)) [] ≠ []) : RootTo ar b t (b.getD (varIx (u.getD 0 0)) []) := by
 rw [← lkN_get h0] at hl ⊢
 refine ⟨hb.wt _ h0 hl, fun θ hθ => ?_⟩
 rw [h.2 θ hθ, h.1.isvar h0, ap_one, hθ _ h0 hl]
 rw [show [u.getD 0 0].getD 0 0 = u.getD 0 0 from rfl]
theorem RootTo.done (h : RootTo ar b t u) (ht : 0 ≤ u.getD 0 0 ∨ b.getD (varIx (u.getD 0 0)) [] = []) : Root ar b t u := by
 refine ⟨h.1, ?_, h.2⟩
 rcases Int.lt_or_le (u.getD 0 0) 0 with h0 | h0
 ·rw [lkN_get h0]; exact .inr (ht.resolve_left (by omega))
 ·exact .inl h0
def rootMu (ρ : Int → Nat) (u : List Int) : Nat := if u.getD 0 0 < 0 then ρ (u.getD 0 0) + 1 else 0
theorem rootMu_lt (ha : Acyc b ρ) (hb : BOk ar b) (h0 : u.getD 0 0 < 0) (hl : b.getD (varIx (u.getD 0 0)) [] ≠ []) : rootMu ρ (b.getD (varIx (u.getD 0 0)) []) < rootMu ρ u := by
 rw [← lkN_get h0] at hl ⊢
 unfold rootMu
 rw [if_pos h0]
 split
 ·rename_i h1
  have hw := (hb.wt _ h0 hl).len
  have := ha _ h0 ((lkN b (u.getD 0 0)).getD 0 0) (mem_of_getD (k := 0) (by omega) rfl) h1
  omega
 ·omega
def unb (b : RowL) : Nat := b.countP fun x => decide (x = [])
structure Solves (ar : List Int) (b b1 : RowL) (E : Sbs → Prop) : Prop where
 ok : BOk ar b1
 iff : ∀ θ, GoodS ar θ → (SatB b1 θ ↔ SatB b θ ∧ E θ)
 less : unb b1 < unb b ∨ b1 = b
theorem Solves.refl (hb : BOk ar b) (h : ∀ θ, GoodS ar θ → SatB b θ → E θ) : Solves ar b b E := ⟨hb, fun θ g => ⟨fun hs => ⟨hs, h θ g hs⟩, fun hs => hs.1⟩, .inr rfl⟩
theorem Solves.trans (h1 : Solves ar b b1 E1) (h2 : Solves ar b1 b2 E2) : Solves ar b b2 (fun θ => E1 θ ∧ E2 θ) := by
 refine ⟨h2.ok, fun θ g => ?_, ?_⟩
 ·rw [h2.iff θ g, h1.iff θ g, and_assoc]
 ·rcases h1.less with e1 | e1 <;> rcases h2.less with e2 | e2
  ·left; omega
  ·left; rw [e2]; exact e1
  ·left; rw [e1] at e2; exact e2
  ·right; rw [e2, e1]
theorem Solves.congr (h : Solves ar b b1 E) (hc : ∀ θ, GoodS ar θ → SatB b θ → (E θ ↔ E1 θ)) : Solves ar b b1 E1 := by
 refine ⟨h.ok, fun θ g => ?_, h.less⟩
 rw [h.iff θ g]
 exact ⟨fun ⟨p, q⟩ => ⟨p, (hc θ g p).1 q⟩, fun ⟨p, q⟩ => ⟨p, (hc θ g p).2 q⟩⟩
theorem unb_set : ∀ {b : RowL} {i : Nat} {t : List Int}, i < b.length → b.getD i [] = [] → t ≠ [] → unb (b.set i t) < unb b
 | [], i, t, h, _, _ => by simp at h
 | r :: b, 0, t, h, he, ht => by
  simp only [List.getD_cons_zero] at he
  subst he
  simp [unb, ht]
 | r :: b, i + 1, t, h, he, ht => by
  have := unb_set (b := b) (i := i) (t := t) (by simpa using h) (by simpa using he) ht
  simp only [unb, List.set_cons_succ, List.countP_cons] at this ⊢
  omega
theorem Solves.bind (hb : BOk ar b) (h : Sol b σ) (hn : n < 0) (hg : -48 ≤ n) (hf : lkN b n = []) (ht : TermW ar t) (hno : n ∉ ap σ t) : Solves ar b (b.set (varIx n) t) (fun θ => θ n = ap θ t) := by
 refine ⟨hb.bind h hn hg hf ht hno, fun θ _ => SatB.bind hb.len hn hg hf ht.ne, .inl ?_⟩
 rw [lkN_get hn] at hf
 exact unb_set (by rw [hb.len]; unfold varIx; omega) hf ht.ne
theorem bind_eq (hb : BOk ar b) (h : Sol b σ) (hx : Root ar b A x) (hy : Root ar b C y) (hn : x.getD 0 0 < 0) (hno : x.getD 0 0 ∉ ap σ y) : Solves ar b (b.set (varIx (x.getD 0 0)) y) (fun θ => ap θ A = ap θ C) := by
 have hl := hx.w.len
 refine (Solves.bind hb h hn (hx.w.geD (by omega)) (hx.top.resolve_left (by omega)) hy.w hno).congr fun θ g hs => ?_
 rw [hx.same θ hs, hy.same θ hs]
 have := congrArg (ap θ) (hx.w.isvar hn)
 rw [ap_one] at this
 rw [this]
theorem bind_var (h : Sol b σ) (hy : Root ar b C y) (hn : y.getD 0 0 < 0) (hne : x.getD 0 0 ≠ y.getD 0 0) : x.getD 0 0 ∉ ap σ y := by
 have := congrArg (ap σ) (hy.w.isvar hn)
 rw [ap_one, h.free (hy.top.resolve_left (by omega))] at this
 rw [this]
 exact fun h => hne (List.mem_singleton.1 h)
theorem occ_eq (hb : BOk ar b) (h : Sol b σ) (hx : Root ar b A x) (hy : Root ar b C y) (hn : x.getD 0 0 < 0) (h0 : 0 ≤ y.getD 0 0) (ho : x.getD 0 0 ∈ ap σ y) : ∀ θ, GoodS ar θ → SatB b θ → ap θ A ≠ ap θ C := by
 intro θ g hs
 rw [hx.same θ hs, hy.same θ hs]
 have e := congrArg (ap θ) (hx.w.isvar hn)
 rw [ap_one] at e
 rw [e]
 refine no_occurs hb h g hs ho ?_
 have gs := h.good hb
 have e2 : ap σ y = σ (y.getD 0 0) ++ ap σ (partsL ar y).flatten := by
  have := congrArg (ap σ) (parts_flat hy.w); rwa [ap_cons] at this
 rw [e2, h.sym h0] at ho ⊢
 rcases List.mem_append.1 ho with h1 | h1
 ·exact absurd (List.mem_singleton.1 h1) (by omega)
 ·cases hl : ap σ (partsL ar y).flatten with
  | nil => rw [hl] at h1; cases h1
  | cons => simp
theorem same_eq (hb : BOk ar b) (hx : Root ar b A x) (hy : Root ar b C y) (hn : x.getD 0 0 < 0) (he : x.getD 0 0 = y.getD 0 0) : Solves ar b b (fun θ => ap θ A = ap θ C) := by
 refine Solves.refl hb fun θ g hs => ?_
 rw [hx.same θ hs, hy.same θ hs, hx.w.isvar hn, hy.w.isvar (by omega), he]
theorem heads_ne (hx : Root ar b A x) (hy : Root ar b C y) (h0 : 0 ≤ x.getD 0 0) (h1 : 0 ≤ y.getD 0 0) (hn : x.getD 0 0 ≠ y.getD 0 0) : ∀ θ, GoodS ar θ → SatB b θ → ap θ A ≠ ap θ C := by
 intro θ g hs
 rw [hx.same θ hs, hy.same θ hs]
 exact ap_heads g hx.w hy.w h0 h1 hn
theorem Solves.swap (h : Solves ar b b1 (fun θ => ap θ A = ap θ C)) : Solves ar b b1 (fun θ => ap θ C = ap θ A) := h.congr fun _ _ _ => eq_comm
theorem no_swap (h : ∀ θ, GoodS ar θ → SatB b θ → ap θ A ≠ ap θ C) : ∀ θ, GoodS ar θ → SatB b θ → ap θ C ≠ ap θ A := fun θ g s e => h θ g s e.symm
def EqTo (ar x y : List Int) (j : Nat) (θ : Sbs) : Prop := ∀ i, i < j → ap θ ((partsL ar x).getD i []) = ap θ ((partsL ar y).getD i [])
theorem EqTo.start (hb : BOk ar b) : Solves ar b b (EqTo ar x y 0) := Solves.refl hb fun _ _ _ i hi => absurd hi (by omega)
theorem EqTo.next (h : Solves ar b b1 (EqTo ar x y j)) (h2 : Solves ar b1 b2 (fun θ => ap θ ((partsL ar x).getD j []) = ap θ ((partsL ar y).getD j []))) : Solves ar b b2 (EqTo ar x y (j + 1)) :=
 (h.trans h2).congr fun θ _ _ => ⟨fun ⟨p, q⟩ i hi => (Nat.lt_or_ge i j).elim (fun h => p i h) (fun h => by obtain rfl : i = j := (by omega); exact q), fun h => ⟨fun i hi => h i (by omega), h j (by omega)⟩⟩
theorem EqTo.stop (h : Solves ar b b1 (EqTo ar x y j)) (hx : Root ar b A x) (hy : Root ar b C y) (hj : j < (partsL ar x).length) (h0 : 0 ≤ x.getD 0 0) (he : x.getD 0 0 = y.getD 0 0)
  (h2 : ∀ θ, GoodS ar θ → SatB b1 θ → ap θ ((partsL ar x).getD j []) ≠ ap θ ((partsL ar y).getD j [])) : ∀ θ, GoodS ar θ → SatB b θ → ap θ A ≠ ap θ C := by
 intro θ g hs e
 rw [hx.same θ hs, hy.same θ hs] at e
 have hp := (ap_parts g hx.w hy.w h0 he).1 e
 exact h2 θ g ((h.iff θ g).2 ⟨hs, fun i hi => hp i (by omega)⟩) (hp j hj)
theorem EqTo.done (h : Solves ar b b1 (EqTo ar x y j)) (hx : Root ar b A x) (hy : Root ar b C y) (hj : j = (partsL ar x).length) (h0 : 0 ≤ x.getD 0 0) (he : x.getD 0 0 = y.getD 0 0) : Solves ar b b1 (fun θ => ap θ A = ap θ C) :=
 h.congr fun θ g hs => by
  rw [hx.same θ hs, hy.same θ hs, ap_parts g hx.w hy.w h0 he, ← hj]
  rfl
theorem EqTo.less (h : Solves ar b b1 (EqTo ar x y j)) (hb : BOk ar b) (hσ : Sol b σ) (hx : Root ar b A x) (hj : j < (partsL ar x).length) (hk : unb b ≤ k) (hN : (ap σ A).length ≤ N) :
  ∃ σ1 k1 N1, Sol b1 σ1 ∧ unb b1 ≤ k1 ∧ (ap σ1 ((partsL ar x).getD j [])).length ≤ N1 ∧ (k1 < k ∨ k1 = k ∧ N1 < N) := by
 rcases h.less with h1 | h1
 ·obtain ⟨σ1, h2⟩ := h.ok.sol
  exact ⟨σ1, unb b1, _, h2, Nat.le_refl _, Nat.le_refl _, .inl (by omega)⟩
 ·subst h1
  refine ⟨σ, k, _, hσ, hk, Nat.le_refl _, .inr ⟨rfl, ?_⟩⟩
  have := part_lt (hσ.good hb) hx.w hj
  rw [hx.same σ hσ.sat] at hN
  omega
theorem parts_get (hj : j < (argsL ar t 0).length) : (partsL ar t).getD j [] = sub ar t ((argsL ar t 0).getD j 0).toNat := by
 unfold partsL
 simp [List.getD, hj]
theorem parts_W (h : TermW ar t) (hj : j < (argsL ar t 0).length) : TermW ar ((partsL ar t).getD j []) := by
 have hl : j < (partsL ar t).length := by unfold partsL; simpa using hj
 refine parts_wf h _ ?_
 simp only [List.getD, List.getElem?_eq_getElem hl, Option.getD_some]
 exact List.getElem_mem hl
theorem args_same (he : x.getD 0 0 = y.getD 0 0) : (argsL ar x 0).length = (argsL ar y 0).length := by rw [argsL_len, argsL_len, he]
theorem parts_args : (partsL ar t).length = (argsL ar t 0).length := by unfold partsL; simp
end
theorem args_nextW {ar t : List Int} {p n q : Nat} {os : List Int} (hn : 1 ≤ n) (he : argsL ar t p = os ++ argsGo ar t n q) : argsL ar t p = (os ++ [(q : Int)]) ++ argsGo ar t (n - 1) (endN ar t q) := by
 obtain ⟨n, rfl⟩ : ∃ m, n = m + 1 := ⟨n - 1, by omega⟩
 rw [he, argsGo, Nat.add_sub_cancel, List.append_assoc]; rfl
section
variable {ar t os : List Int} {b : RowL} {σ : Sbs} {ρ : Int → Nat} {m : Int} {j : Nat}
def resOk (σ : Sbs) (os t : List Int) : Bool := decide (os.length + (ap σ t).length ≤ 60)
def resX (σ : Sbs) (os t : List Int) : List Int := if resOk σ os t = true then os ++ ap σ t else []
theorem ap_take (hj : j < t.length) : ap σ (t.take (j + 1)) = ap σ (t.take j) ++ σ (t.getD j 0) := by
 rw [take_succ_getD 0 hj, ap_app, ap_one]
theorem ap_len_take (hj : j < t.length) : (ap σ (t.take j)).length + (σ (t.getD j 0)).length ≤ (ap σ t).length := by
 have e : t = t.take (j + 1) ++ t.drop (j + 1) := (List.take_append_drop ..).symm
 have h : (ap σ t).length = (ap σ (t.take (j + 1))).length + (ap σ (t.drop (j + 1))).length := by
  have := congrArg (fun l => (ap σ l).length) e
  simpa only [ap_app, List.length_append] using this
 rw [h, ap_take hj, List.length_append]; omega
theorem res_no (hj : j < t.length) (h : 60 < os.length + (ap σ (t.take j)).length + (σ (t.getD j 0)).length) : resOk σ os t = false := by
 have := ap_len_take (σ := σ) hj
 exact decide_eq_false (by omega)
theorem res_end (hj : j = t.length) (h : os.length + (ap σ (t.take j)).length ≤ 60) : resOk σ os t = true ∧ resX σ os t = os ++ ap σ (t.take j) := by
 subst hj
 rw [List.take_length] at h ⊢
 have h1 : resOk σ os t = true := decide_eq_true h
 exact ⟨h1, by unfold resX; rw [if_pos h1]⟩
end
def awayL (t : List Int) : List Int := t.map fun n => if n < 0 then n - 24 else n
theorem away_at {t : List Int} {k : Nat} (h : k < t.length) : (awayL (t.take k) ++ t.drop k).getD k 0 = t.getD k 0 := by
 have hl : (awayL (t.take k)).length = k := by simp [awayL]; omega
 rw [List.getD_eq_getElem?_getD, List.getElem?_append_right (by omega), hl, Nat.sub_self, List.getElem?_drop, List.getD_eq_getElem?_getD, Nat.add_zero]
theorem away_next {t ws w2 : List Int} {k : Nat} (h : k < t.length) (hws : ws = awayL (t.take k) ++ t.drop k) (h2 : (w2 = ws.set k (ws.getD k 0 - 24) ∧ t.getD k 0 < 0) ∨ (w2 = ws ∧ 0 ≤ t.getD k 0)) : w2 = awayL (t.take (k + 1)) ++ t.drop (k + 1) := by
 have hl : (awayL (t.take k)).length = k := by simp [awayL]; omega
 have e : awayL (t.take (k + 1)) = awayL (t.take k) ++ [if t.getD k 0 < 0 then t.getD k 0 - 24 else t.getD k 0] := by
  unfold awayL; rw [take_succ_getD 0 h, List.map_append]; rfl
 rw [e, List.append_assoc]
 have hd := drop_cons h
 rcases h2 with ⟨rfl, h0⟩ | ⟨rfl, h0⟩
 ·rw [hws, away_at h, if_pos h0, List.set_append_right _ _ (by omega), hl, Nat.sub_self, hd]; rfl
 ·rw [hws, if_neg (by omega), hd]; rfl
end Go.Proofs.YtcdjpapjjoldeaaGreat.M
namespace Go.Proofs.YtcdjpapjjoldeaaGreat.X
open Go
def XA (P : Program) (n : Nat) (l : List Oper) (Q : QX) (ρ : Env) (F : FH) (L : List HP) : Prop :=
 opsOk n l = true → ∀ a w, Rep n a ρ → Holds F L w → wpAny P .any l.toArray (low n F Q) l.toArray.size (Array.replicate l.toArray.size false) a w
theorem XA.drawH {P : Program} {n : Nat} {Q : QX} {ρ : Env} {F : FH} {L : List HP} {l : List Oper} (Bs L0 : List HP) (m : Nat) (uses cls tk : List (List Nat)) (phi : Nat → FH → List Value → Value → Prop) (own : Nat → List Value → Value → List HP) (tb : Nat → List HP)
  (hL : L = (List.range m).flatMap tb ++ (Bs ++ L0)) (hm : Nat.ble m l.length = true) (hok : drawOk l m uses cls = true) (htk : takeOk l m tk = true)
  (hmono : ∀ i F F' us v, F ≤ F' → phi i F us v → phi i F' us v)
  (hstep : stepsT P l ρ F Bs phi own tb uses cls tk (l.take m) 0)
  (hend : ∀ (vals : Nat → Value) (F1 : FH), F ≤ F1 → (∀ i, i < m → phi i F1 ((uses.getD i []).map vals) (vals i)) → XL P n l.toArray (l.drop m) Q (canon vals (l.take m) 0 ρ) F1 (madeG own uses tk vals (List.range m) ++ (Bs ++ L0))) :
  XA P n l Q ρ F L := by
 subst hL
 have hm' : m ≤ l.length := Nat.le_of_ble_eq_true hm
 have ok := drawOk_spec hok
 obtain ⟨tk1, tk2, tk3⟩ := takeOk_spec htk
 intro cok' a w0 r H
 have H1 : Holds F (Bs ++ (restH tb m [] ++ L0)) w0 := by
  refine Sub.holds (Sub.perm ?_) H
  rw [restH_all, ← List.append_assoc, ← List.append_assoc]
  exact List.perm_append_comm.append_right L0
 -- the tail, in its text's order
 have tailP : ∀ (k : Nat) (fuel : Nat) (listed : Array Bool) (a : Act) (w : World), fuel + k = l.length → m ≤ k → listed.size = l.length → (∀ i, i < k → listed.getD i true = true) → (∀ i, k ≤ i → i < l.length → listed.getD i true = false) →
   wpList P l.toArray (low n F Q) (l.drop k) a w → wpAny P .any l.toArray (low n F Q) fuel listed a w := by
  intro k fuel
  induction fuel generalizing k with
  | zero =>
   intro listed a w hk hmk hsz hin hout h
   have hk' : k = l.length := by omega
   subst hk'
   rw [List.drop_length] at h
   refine ⟨?_, h⟩
   unfold Region.ready
   rw [List.filter_eq_nil_iff]
   intro i hi
   have hi' : i < l.length := by simpa using hi
   simp [hin i hi']
  | succ fuel ih =>
   intro listed a w hk hmk hsz hin hout h
   have hkl : k < l.length := by omega
   obtain ⟨o, ho⟩ : ∃ o, l[k]? = some o := ⟨l[k], List.getElem?_eq_getElem hkl⟩
   have hready : ∀ i, i ∈ Region.ready .any l.toArray listed → i = k := by
    intro i hi
    obtain ⟨hun, oi, hoi, hall⟩ := mem_ready.1 hi
    have hoi' : l[i]? = some oi := by simpa using hoi
    have hil : i < l.length := (List.getElem?_eq_some_iff.1 hoi').1
    have hki : k ≤ i := by
     rcases Nat.lt_or_ge i k with h' | h'
     ·have := hin i h'; rw [this] at hun; cases hun
     ·exact h'
    rcases Nat.lt_or_ge k i with h' | h'
    · -- k is ahead of i: so some edge of i's leads to k, which is not listed
     exfalso
     have hmem := ok.tail i (by omega) hil k h'
     have key : ∀ (t j : Nat), (∀ oj : Oper, l[j]? = some oj → ∀ e ∈ oj.after, Region.binds .any e = true → listed.getD e.on false = true) → j ≤ t → k ∈ clo l j → (j < l.length) → False := by
      intro t
      induction t with
      | zero =>
       intro j hj hjt hkj hjl
       obtain ⟨e, he, hb, hlt, _⟩ := mem_clo (List.getElem?_eq_getElem hjl) hkj
       omega
      | succ t iht =>
       intro j hj hjt hkj hjl
       obtain ⟨e, he, hb, hlt, hor⟩ := mem_clo (List.getElem?_eq_getElem hjl) hkj
       have hl := hj _ (List.getElem?_eq_getElem hjl) e (by simpa using he) hb
       rcases hor with rfl | hmem
       ·have := hout _ (Nat.le_refl _) hkl
        simp only [Array.getD_eq_getD_getElem?] at this hl
        rw [Array.getElem?_eq_getElem (by omega)] at this hl
        simp at this hl
        rw [this] at hl; cases hl
       ·have hon : e.on < k := by
         rcases Nat.lt_or_ge e.on k with h'' | h''
         ·exact h''
         ·have := hout e.on h'' (by omega)
          simp only [Array.getD_eq_getD_getElem?] at this hl
          rw [Array.getElem?_eq_getElem (by omega)] at this hl
          simp at this hl
          rw [this] at hl; cases hl
        -- below k everything in the closure is below k
        obtain ⟨e2, he2, hb2, hlt2, hor2⟩ := mem_clo (List.getElem?_eq_getElem (show e.on < l.length by omega)) hmem
        have low : ∀ (t j : Nat), j ≤ t → j < k → k ∈ clo l j → False := by
         intro t
         induction t with
         | zero => intro j hjt hjk hkj; obtain ⟨e, _, _, hlt, _⟩ := mem_clo (List.getElem?_eq_getElem (show j < l.length by omega)) hkj; omega
         | succ t iht2 =>
          intro j hjt hjk hkj
          obtain ⟨e, _, _, hlt, hor⟩ := mem_clo (List.getElem?_eq_getElem (show j < l.length by omega)) hkj
          rcases hor with rfl | hmem
          ·omega
          ·exact iht2 e.on (by omega) (by omega) hmem
        exact low _ _ (Nat.le_refl _) hon hmem
     refine key i i (fun oj hoj e he hb => ?_) (Nat.le_refl _) hmem hil
     rw [hoi'] at hoj; cases hoj
     exact hall e he hb
    ·omega
   have hkready : k ∈ Region.ready .any l.toArray listed := by
    refine mem_ready.2 ⟨hout k (Nat.le_refl _) hkl, o, by simpa using ho, fun e he hb => ?_⟩
    have hlt := ok.back k o ho e (by simpa using he) hb
    have := hin e.on hlt
    simp only [Array.getD_eq_getD_getElem?] at this ⊢
    rw [Array.getElem?_eq_getElem (by omega)] at this ⊢
    simpa using this
   refine ⟨fun h0 => (by rw [h0] at hkready; cases hkready), fun i hi => ?_⟩
   obtain rfl := hready i hi
   have hdrop : l.drop i = o :: l.drop (i + 1) := by
    rw [List.drop_eq_getElem_cons hkl]
    have := (List.getElem?_eq_some_iff.1 ho).2
    rw [this]
   rw [hdrop] at h
   unfold wpList at h
   unfold wpOp
   have hoA : l.toArray[i]? = some o := by simpa using ho
   rw [hoA]
   have nxt : ∀ a' w', wpList P l.toArray (low n F Q) (l.drop (i + 1)) a' w' → wpAny P .any l.toArray (low n F Q) fuel (listed.setIfInBounds i true) a' w' := by
    intro a' w' h'
    refine ih (i + 1) (listed.setIfInBounds i true) a' w' (by omega) (by omega) (by simp [hsz]) ?_ ?_ h'
    ·intro j hj
     simp only [Array.getD_eq_getD_getElem?, Array.getElem?_setIfInBounds]
     by_cases hij : i = j
     ·subst hij; simp [hsz, hkl]
     ·simp only [hij, if_false]
      have := hin j (by omega)
      simpa [Array.getD_eq_getD_getElem?] using this
    ·intro j hj hjl
     simp only [Array.getD_eq_getD_getElem?, Array.getElem?_setIfInBounds]
     have hij : ¬ i = j := by omega
     simp only [hij, if_false]
     have := hout j (by omega) hjl
     simpa [Array.getD_eq_getD_getElem?] using this
   show (if Region.wanted o (yielded l.toArray a.tmps) = true then _ else _)
   split
   ·rename_i hw
    rw [if_pos hw] at h
    exact h.imp (Oper.wp_mono nxt) (fun q => q)
   ·rename_i hw
    rw [if_neg hw] at h
    exact nxt _ _ h
 -- all of the head is done
 have finish : ∀ (fuel : Nat) (F1 : FH) (le1 : F ≤ F1) (listed : Array Bool) (ex : List Nat) (vals : Nat → Value) (a : Act) (w : World), fuel + ex.length = l.length → listed.size = l.length → ex.Nodup → (∀ i, i ∈ ex ↔ i < m) →
   (∀ i, i < l.length → (listed.getD i true = true ↔ i ∈ ex)) → (∀ i ∈ ex, phi i F1 ((uses.getD i []).map vals) (vals i)) →
   a.tmps.size = n → a.defers = [] → (∀ i ∈ ex, ∀ o : Oper, l[i]? = some o → ∀ s, o.dst = some s → a.tmps.getD s undef = vals i) → (∀ s, (∀ i ∈ ex, ∀ o : Oper, l[i]? = some o → o.dst ≠ some s) → a.tmps.getD s undef = ρ s) →
   Holds F1 (madeG own uses tk vals ex ++ (Bs ++ (restH tb m ex ++ L0))) w → wpAny P .any l.toArray (low n F Q) fuel listed a w := by
  intro fuel F1 le1 listed ex vals a w hf hsz hnd hmem hlist hphi hsize hdef hs1 hs2 HH
  have hperm : ex.Perm (List.range m) := perm_of_mem hnd List.nodup_range (fun i => by rw [hmem]; simp)
  have hlen : ex.length = m := by rw [hperm.length_eq]; simp
  rw [restH_nil (fun i hi => (hmem i).2 hi), List.nil_append] at HH
  have hX := hend vals F1 le1 (fun i hi => hphi i ((hmem i).2 hi))
  have hone : ∀ (i j : Nat) (o q : Oper), (l.take m)[i]? = some o → (l.take m)[j]? = some q → ∀ d, o.dst = some d → q.dst = some d → i = j := by
   intro i j o q ho hq d hd hqd
   rw [List.getElem?_take] at ho hq
   split at ho
   ·split at hq
    ·rename_i h1 h2
     exact ok.one i j o q h1 h2 ho hq d hd hqd
    ·cases hq
   ·cases ho
  have rep : Rep n a (canon vals (l.take m) 0 ρ) := by
   refine ⟨hsize, hdef, fun s => ?_⟩
   obtain ⟨c1, c2⟩ := canon_get vals (l.take m) 0 ρ s hone
   by_cases hw : ∃ i o, i < m ∧ l[i]? = some o ∧ o.dst = some s
   ·obtain ⟨i, o, hi, ho, hd⟩ := hw
    rw [hs1 i ((hmem i).2 hi) o ho s hd, c1 i o (by rw [List.getElem?_take, if_pos hi]; exact ho) hd, Nat.zero_add]
   ·rw [hs2 s (fun i hi o ho hd => hw ⟨i, o, (hmem i).1 hi, ho, hd⟩), c2 (fun i o ho hd => by
     rw [List.getElem?_take] at ho
     split at ho
     ·rename_i hi; exact hw ⟨i, o, hi, ho, hd⟩
     ·cases ho)]
  have hsub : Sub (madeG own uses tk vals ex ++ (Bs ++ L0)) (madeG own uses tk vals (List.range m) ++ (Bs ++ L0)) :=
   Sub.append (Sub.perm (madeG_perm hperm)) (Sub.refl _)
  have hwp := wpList_mono (fun _ _ _ => low_le le1) _ _ _ (hX (by
   simp only [opsOk, List.all_eq_true] at cok' ⊢
   exact fun o ho => cok' o (List.mem_of_mem_drop ho)) a w rep (hsub.holds HH))
  exact tailP m fuel listed a w (by omega) (Nat.le_refl _) hsz (fun i hi => (hlist i (by omega)).2 ((hmem i).2 hi)) (fun i hi hil => by
   cases hb : listed.getD i true with
   | false => rfl
   | true => have := (hmem i).1 ((hlist i hil).1 hb); omega) hwp
 -- the head, in any order
 have headP : ∀ (fuel : Nat) (F1 : FH) (le1 : F ≤ F1) (listed : Array Bool) (ex : List Nat) (vals : Nat → Value) (a : Act) (w : World), fuel + ex.length = l.length → listed.size = l.length → ex.Nodup → (∀ i, i ∈ ex → i < m) →
   (∀ i, i < l.length → (listed.getD i true = true ↔ i ∈ ex)) → (∀ i ∈ ex, ∀ j ∈ clo l i, j ∈ ex) → (∀ i ∈ ex, phi i F1 ((uses.getD i []).map vals) (vals i)) →
   a.tmps.size = n → a.defers = [] → (∀ i ∈ ex, ∀ o : Oper, l[i]? = some o → ∀ s, o.dst = some s → a.tmps.getD s undef = vals i) → (∀ s, (∀ i ∈ ex, ∀ o : Oper, l[i]? = some o → o.dst ≠ some s) → a.tmps.getD s undef = ρ s) →
   Holds F1 (madeG own uses tk vals ex ++ (Bs ++ (restH tb m ex ++ L0))) w → wpAny P .any l.toArray (low n F Q) fuel listed a w := by
  intro fuel
  induction fuel with
  | zero =>
   intro F1 le1 listed ex vals a w hf hsz hnd hlt hlist hdown hphi hsize hdef hs1 hs2 HH
   have hall : ∀ i, i ∈ ex ↔ i < m := by
    intro i
    refine ⟨hlt i, fun hi => ?_⟩
    rcases Classical.em (i ∈ ex) with h' | h'
    ·exact h'
    ·have := nodup_lt m (i :: ex) (List.nodup_cons.2 ⟨h', hnd⟩) (fun k hk => by
      rcases List.mem_cons.1 hk with rfl | hk
      ·exact hi
      ·exact hlt k hk)
     simp at this
     omega
   exact finish 0 F1 le1 listed ex vals a w hf hsz hnd hall hlist hphi hsize hdef hs1 hs2 HH
  | succ fuel ih =>
   intro F1 le1 listed ex vals a w hf hsz hnd hlt hlist hdown hphi hsize hdef hs1 hs2 HH
   by_cases hcov : ∀ i, i < m → i ∈ ex
   ·exact finish (fuel + 1) F1 le1 listed ex vals a w hf hsz hnd (fun i => ⟨hlt i, hcov i⟩) hlist hphi hsize hdef hs1 hs2 HH
   -- an operation that is ready: what stands ahead of it is done
   have ahead : ∀ i ∈ Region.ready .any l.toArray listed, i < l.length ∧ i ∉ ex ∧ ∀ j ∈ clo l i, j ∈ ex := by
    intro i hi
    obtain ⟨hun, o, ho, hall⟩ := mem_ready.1 hi
    have ho' : l[i]? = some o := by simpa using ho
    have hil : i < l.length := (List.getElem?_eq_some_iff.1 ho').1
    refine ⟨hil, fun hm => ?_, fun j hj => ?_⟩
    ·rw [(hlist i hil).2 hm] at hun; cases hun
    ·obtain ⟨e, he, hb, hlt', hor⟩ := mem_clo ho' hj
     have hl := hall e (by simpa using he) hb
     have hex : e.on ∈ ex := by
      refine (hlist e.on (by omega)).1 ?_
      simp only [Array.getD_eq_getD_getElem?] at hl ⊢
      rw [Array.getElem?_eq_getElem (by omega)] at hl ⊢
      simpa using hl
     rcases hor with rfl | hj'
     ·exact hex
     ·exact hdown _ hex _ hj'
   have small : ∀ i ∈ Region.ready .any l.toArray listed, i < m := by
    intro i hi
    obtain ⟨hil, _, hc⟩ := ahead i hi
    rcases Nat.lt_or_ge i m with h' | h'
    ·exact h'
    ·exact absurd (fun j hj => hc j (ok.tail i h' hil j (by omega))) hcov
   refine ⟨fun h0 => ?_, fun i hi => ?_⟩
   · -- not all is done, so something is ready: the least that is not listed
    exfalso
    apply hcov
    intro i
    induction i using Nat.strongRecOn with
    | _ i ihs =>
     intro him
     rcases Classical.em (i ∈ ex) with h' | h'
     ·exact h'
     ·exfalso
      have hil : i < l.length := by omega
      have : i ∈ Region.ready .any l.toArray listed := by
       refine mem_ready.2 ⟨?_, l[i], by simp [hil], fun e he hb => ?_⟩
       ·cases hb : listed.getD i true with
        | false => rfl
        | true => exact absurd ((hlist i hil).1 hb) h'
       ·have hlt' := ok.back i l[i] (List.getElem?_eq_getElem hil) e (by simpa using he) hb
        have := (hlist e.on (by omega)).2 (ihs e.on hlt' (by omega))
        simp only [Array.getD_eq_getD_getElem?] at this ⊢
        rw [Array.getElem?_eq_getElem (by omega)] at this ⊢
        simpa using this
      rw [h0] at this
      cases this
   ·obtain ⟨hil, hnex, hclo⟩ := ahead i hi
    have him := small i hi
    obtain ⟨o, ho⟩ : ∃ o, l[i]? = some o := ⟨l[i], List.getElem?_eq_getElem hil⟩
    have hG := stepsT_get (l.take m) 0 hstep i o (by rw [List.getElem?_take, if_pos him]; exact ho) vals F1 (madeW own uses tk vals i ex ++ (restH tb m (i :: ex) ++ L0)) le1 (fun j hj => hphi j (hclo j (ok.cls i hil j (by simpa using hj))))
    rw [Nat.zero_add] at hG
    have H2 : Holds F1 (takenBy own uses tk vals i ++ (tb i ++ (Bs ++ (madeW own uses tk vals i ex ++ (restH tb m (i :: ex) ++ L0))))) w :=
     Sub.holds (Sub.perm (permH (madeG_split (own := own) (uses := uses) (vals := vals) hnd (tk3 i him) (fun j hj => hclo j (tk1 i him j hj)) (fun j hj k hk e => hnex (by rw [← tk2 k i (hlt k hk) him j e hj]; exact hk))) (restH_split him hnex))) HH
    have hone : ∀ (k j : Nat) (o q : Oper), (l.take i)[k]? = some o → (l.take i)[j]? = some q → ∀ d, o.dst = some d → q.dst = some d → k = j := by
     intro k j o q ho hq d hd hqd
     rw [List.getElem?_take] at ho hq
     split at ho
     ·split at hq
      ·rename_i h1 h2
       exact ok.one k j o q (by omega) (by omega) ho hq d hd hqd
      ·cases hq
     ·cases ho
    have slot : ∀ s ∈ o.looksAt l.toArray, a.tmps.getD s undef = canon vals (l.take i) 0 ρ s := by
     intro s hs
     obtain ⟨c1, c2⟩ := canon_get vals (l.take i) 0 ρ s hone
     by_cases hw : ∃ j q, j < m ∧ l[j]? = some q ∧ q.dst = some s
     ·obtain ⟨j, q, hj, hq, hd⟩ := hw
      rcases ok.read i j o q him hj ho hq s hs hd with ⟨hjc, hji⟩ | ⟨hic, hij⟩
      ·rw [hs1 j (hclo j hjc) q hq s hd, c1 j q (by rw [List.getElem?_take, if_pos hji]; exact hq) hd, Nat.zero_add]
      ·rw [hs2 s (fun k hk q2 hq2 hd2 => by
        obtain rfl := ok.one k j q2 q (hlt k hk) hj hq2 hq s hd2 hd
        exact hnex (hdown k hk i hic)), c2 (fun k q2 hq2 hd2 => by
        rw [List.getElem?_take] at hq2
        split at hq2
        ·rename_i hk
         have := ok.one k j q2 q (by omega) hj hq2 hq s hd2 hd
         omega
        ·cases hq2)]
     ·rw [hs2 s (fun j hj q hq hd => hw ⟨j, q, hlt j hj, hq, hd⟩), c2 (fun j q hq hd => by
       rw [List.getElem?_take] at hq
       split at hq
       ·rename_i hj; exact hw ⟨j, q, by omega, hq, hd⟩
       ·cases hq)]
    have hev : execOp a.eval o = execOp (evO (canon vals (l.take i) 0 ρ)) o := by
     refine execOp_congr o (ok.sel i o ho) fun x hx => ?_
     cases x with
     | tmp t => exact slot t (List.mem_append_left _ (List.mem_filterMap.2 ⟨.tmp t, by simpa using hx, rfl⟩))
     | _ => rfl
    have hus : ∀ j ∈ uses.getD i [], j ≠ i := fun j hj e => hnex (hclo i (e ▸ ok.uses i hil j hj))
    have husx : ∀ k ∈ ex, i ∉ uses.getD k [] := fun k hk hm => hnex (hdown k hk i (ok.uses k (by have := hlt k hk; omega) i hm))
    have hdo : dOk n o.dst = true := by
     simp only [opsOk, List.all_eq_true] at cok'
     exact cok' o (List.mem_of_getElem? ho)
    have next : ∀ v F2 w', F1 ≤ F2 → Holds F2 (own i ((uses.getD i []).map vals) v ++ (Bs ++ (madeW own uses tk vals i ex ++ (restH tb m (i :: ex) ++ L0)))) w' → phi i F2 ((uses.getD i []).map vals) v → wpAny P .any l.toArray (low n F Q) fuel (listed.setIfInBounds i true) (a.put o.dst v) w' := by
     intro v F2 w' le2 H3 hp
     have hi' : (uses.getD i []).map (fun j => if j = i then v else vals j) = (uses.getD i []).map vals := map_upd (fun h => hus i h rfl)
     have hx' : ∀ k ∈ ex, (uses.getD k []).map (fun j => if j = i then v else vals j) = (uses.getD k []).map vals := fun k hk => map_upd (husx k hk)
     have hki : ∀ k ∈ ex, k ≠ i := fun k hk e => hnex (e ▸ hk)
     have hself : (i :: ex).any (fun k => (tk.getD k []).contains i) = false := by
      rw [List.any_eq_false]
      intro k hk hc
      have hc' : i ∈ tk.getD k [] := by simpa using hc
      rcases List.mem_cons.1 hk with rfl | hk
      ·exact clo_irrefl ok (by omega) (tk1 k him k hc')
      ·exact hnex (hdown k hk i (tk1 k (hlt k hk) i hc'))
     have hmade : madeG own uses tk (fun j => if j = i then v else vals j) (i :: ex) = own i ((uses.getD i []).map vals) v ++ madeW own uses tk vals i ex := by
      simp only [madeG, madeW, List.flatMap_cons, hi', if_true]
      rw [hself]
      simp only [Bool.false_eq_true, if_false]
      congr 1
      rw [List.flatMap_def, List.flatMap_def]
      congr 1
      apply List.map_congr_left
      intro k hk
      rw [hx' k hk, if_neg (hki k hk), List.any_cons]
     refine ih F2 (FLe.trans le1 le2) (listed.setIfInBounds i true) (i :: ex) (fun j => if j = i then v else vals j) _ w' (by simp; omega) (by simp [hsz]) (List.nodup_cons.2 ⟨hnex, hnd⟩) ?_ ?_ ?_ ?_ ?_ ?_ ?_ ?_ ?_
     ·intro k hk; rcases List.mem_cons.1 hk with rfl | hk
      ·exact him
      ·exact hlt k hk
     ·intro k hk
      simp only [Array.getD_eq_getD_getElem?, Array.getElem?_setIfInBounds, List.mem_cons]
      by_cases hik : i = k
      ·subst hik; simp [hsz, hil]
      ·have := hlist k hk
       simp only [Array.getD_eq_getD_getElem?] at this
       simp only [hik, if_false, this]
       constructor
       ·exact fun h => .inr h
       ·rintro (rfl | h)
        ·exact absurd rfl hik
        ·exact h
     ·intro k hk j hj
      rcases List.mem_cons.1 hk with rfl | hk
      ·exact List.mem_cons_of_mem _ (hclo j hj)
      ·exact List.mem_cons_of_mem _ (hdown k hk j hj)
     ·intro k hk
      rcases List.mem_cons.1 hk with rfl | hk
      ·rw [hi', if_pos rfl]; exact hp
      ·rw [hx' k hk, if_neg (hki k hk)]; exact hmono _ _ _ _ _ le2 (hphi k hk)
     ·cases o.dst <;> simp [Act.put, hsize]
     ·cases o.dst <;> simp [Act.put, hdef]
     ·intro k hk q hq s hd
      rcases List.mem_cons.1 hk with rfl | hk
      ·rw [ho] at hq; cases hq
       rw [if_pos rfl, hd]
       have hsn : s < n := by rw [hd] at hdo; exact Nat.le_of_ble_eq_true hdo
       simp [Act.put, Array.getD_eq_getD_getElem?, Array.getElem?_setIfInBounds, hsize, hsn]
      ·rw [if_neg (hki k hk)]
       have hne : o.dst ≠ some s := fun e => hki k hk (ok.one k i q o (hlt k hk) him hq ho s hd e)
       have := hs1 k hk q hq s hd
       cases hod : o.dst with
       | none => simpa [Act.put] using this
       | some d =>
        have hds : d ≠ s := fun e => hne (by rw [hod, e])
        simp only [Act.put, Array.getD_eq_getD_getElem?, Array.getElem?_setIfInBounds_ne hds] at this ⊢
        exact this
     ·intro s hno
      have hne : o.dst ≠ some s := hno i List.mem_cons_self o ho
      have := hs2 s (fun k hk q hq => hno k (List.mem_cons_of_mem _ hk) q hq)
      cases hod : o.dst with
      | none => simpa [Act.put] using this
      | some d =>
       have hds : d ≠ s := fun e => hne (by rw [hod, e])
       simp only [Act.put, Array.getD_eq_getD_getElem?, Array.getElem?_setIfInBounds_ne hds] at this ⊢
       exact this
     ·rw [hmade]
      refine Sub.holds (Sub.perm ?_) H3
      rw [List.append_assoc]
      exact List.Perm.append_left _ perm3
    have opwp : XOp P o (canon vals (l.take i) 0 ρ) F1 (takenBy own uses tk vals i ++ (tb i ++ (Bs ++ (madeW own uses tk vals i ex ++ (restH tb m (i :: ex) ++ L0))))) (fun v F' L' => phi i F' ((uses.getD i []).map vals) v ∧ L' = own i ((uses.getD i []).map vals) v ++ (Bs ++ (madeW own uses tk vals i ex ++ (restH tb m (i :: ex) ++ L0)))) →
      o.wp P a w (wpAny P .any l.toArray (low n F Q) fuel (listed.setIfInBounds i true)) (low n F Q) := by
     intro hop
     unfold Oper.wp
     rw [hev]
     rcases hop w H2 with ⟨v, w', F', L', h1, h4, h3, hp, rfl⟩ | ⟨w', F', L', h1, h4, h3, hp, rfl⟩ | ⟨f, args, w', h1, h2⟩
     ·rw [h1]; exact next v F' w' h4 h3 hp
     ·rw [h1]; exact next undef F' w' h4 h3 hp
     ·rw [h1]
      refine h2.mono fun e w'' ⟨v, F', L', he, h4, hH, hk⟩ => ?_
      obtain ⟨hp, rfl⟩ := hk
      subst he
      exact next v F' w'' h4 hH hp
    unfold wpOp
    have hoA : l.toArray[i]? = some o := by simpa using ho
    rw [hoA]
    show (if Region.wanted o (yielded l.toArray a.tmps) = true then _ else _)
    unfold XG at hG
    cases hg : o.guard with
    | none =>
     rw [hg] at hG
     rw [if_pos (by simp [Region.wanted, hg])]
     exact .inl (opwp hG)
    | some gw =>
     obtain ⟨j, want⟩ := gw
     rw [hg] at hG
     obtain ⟨t, ht, ⟨b, hv, hif⟩ | ⟨hv, hif⟩⟩ := hG
     ·have hy : yielded l.toArray a.tmps j = some b := by
       unfold yielded
       rw [ht]
       have hts := slot t (List.mem_append_right _ (by simp only [hg]; simpa using ht))
       rw [hv, Array.getD_eq_getD_getElem?] at hts
       cases hx : a.tmps[t]? with
       | none => rw [hx] at hts; simp [undef] at hts
       | some x => rw [hx] at hts; simp at hts; subst hts; simp [hx]
      by_cases hb : b = want
      ·rw [if_pos hb] at hif
       rw [if_pos (by simp [Region.wanted, hg, hy, hb])]
       exact .inl (opwp hif)
      ·rw [if_neg hb] at hif
       rw [if_neg (by simp [Region.wanted, hg, hy, hb])]
       obtain ⟨hp, hL'⟩ := hif
       exact next undef F1 w (FLe.refl _) (by rw [← hL']; exact H2) hp
     ·have hy : yielded l.toArray a.tmps j = none := by
       unfold yielded
       rw [ht]
       have hts := slot t (List.mem_append_right _ (by simp only [hg]; simpa using ht))
       rw [hv, Array.getD_eq_getD_getElem?] at hts
       cases hx : a.tmps[t]? with
       | none => simp [hx]
       | some x => rw [hx] at hts; simp at hts; subst hts; simp [hx, undef]
      rw [if_neg (by simp [Region.wanted, hg, hy])]
      obtain ⟨hp, hL'⟩ := hif
      exact next undef F1 w (FLe.refl _) (by rw [← hL']; exact H2) hp
 refine headP l.toArray.size F (FLe.refl F) (Array.replicate l.toArray.size false) [] (fun _ => undef) a w0 (by simp) (by simp) List.nodup_nil (by simp) ?_ (by simp) (by simp) r.size r.defers (by simp) (fun s _ => r.get s) H1
 intro i hi
 simp only [Array.getD_eq_getD_getElem?, Array.getElem?_replicate]
 simp [hi]
theorem XA.drawG {P : Program} {n : Nat} {Q : QX} {ρ : Env} {F : FH} {L : List HP} {l : List Oper} (Bs L0 : List HP) (m : Nat) (uses cls tk : List (List Nat)) (phi : Nat → FH → List Value → Value → Prop) (own : Nat → List Value → Value → List HP)
  (hL : L = Bs ++ L0) (hm : Nat.ble m l.length = true) (hok : drawOk l m uses cls = true) (htk : takeOk l m tk = true)
  (hmono : ∀ i F F' us v, F ≤ F' → phi i F us v → phi i F' us v)
  (hstep : stepsG P l ρ F Bs phi own uses cls tk (l.take m) 0)
  (hend : ∀ (vals : Nat → Value) (F1 : FH), F ≤ F1 → (∀ i, i < m → phi i F1 ((uses.getD i []).map vals) (vals i)) → XL P n l.toArray (l.drop m) Q (canon vals (l.take m) 0 ρ) F1 (madeG own uses tk vals (List.range m) ++ (Bs ++ L0))) :
  XA P n l Q ρ F L := by
 refine XA.drawH Bs L0 m uses cls tk phi own (fun _ => []) ?_ hm hok htk hmono (stepsG.toT _ _ hstep) hend
 rw [hL]
 have h : ∀ l : List Nat, l.flatMap (fun _ => ([] : List HP)) = [] := by
  intro l
  induction l with
  | nil => rfl
  | cons a l ih => simp
 rw [h, List.nil_append]
def addE (o : Oper) : Oper := { o with after := o.after.push { on := 0, ground := .data } }
def edge0 : List Oper → List Oper
 | [] => []
 | o :: r => o :: r.map addE
theorem edge0_get (o : Oper) (r : List Oper) (i : Nat) : (edge0 (o :: r))[i]? = ((o :: r)[i]?).map fun x => if i = 0 then x else addE x := by
 cases i with
 | zero => simp [edge0]
 | succ i => simp [edge0]
theorem edge0_ready {o : Oper} {r : List Oper} {listed : Array Bool} (h0 : listed.getD 0 false = true) : Region.ready .any (edge0 (o :: r)).toArray listed = Region.ready .any (o :: r).toArray listed := by
 have hs : (edge0 (o :: r)).toArray.size = (o :: r).toArray.size := by simp [edge0]
 unfold Region.ready
 rw [hs]
 refine List.filter_congr fun i _ => ?_
 have e : (edge0 (o :: r)).toArray[i]? = ((o :: r).toArray[i]?).map fun x => if i = 0 then x else addE x := by simpa using edge0_get o r i
 rw [e]
 cases hx : (o :: r).toArray[i]? with
 | none => rfl
 | some x =>
  simp only [Option.map_some, Option.getD_some]
  split
  ·rfl
  ·congr 1
   simp only [addE, Array.all_push]
   have : (!Region.binds .any { on := 0, ground := .data } || listed.getD 0 false) = true := by rw [h0]; simp
   rw [this, Bool.and_true]
theorem edge0_yielded {o : Oper} {r : List Oper} {t : Array Value} : yielded (edge0 (o :: r)).toArray t = yielded (o :: r).toArray t := by
 funext j
 unfold yielded
 have e : (edge0 (o :: r)).toArray[j]? = ((o :: r).toArray[j]?).map fun x => if j = 0 then x else addE x := by simpa using edge0_get o r j
 rw [e]
 cases hx : (o :: r).toArray[j]? with
 | none => rfl
 | some x =>
  have hd : (if j = 0 then x else addE x).dst = x.dst := by split <;> rfl
  simp only [Option.map_some, Option.bind_some, hd]
theorem edge0_wpOp {P : Program} {Q : Exit → Act → World → Prop} {o : Oper} {r : List Oper} {i : Nat} {K K' : Act → World → Prop} {a : Act} {w : World} (hK : ∀ a w, K a w → K' a w) (h : wpOp P (edge0 (o :: r)).toArray Q i K a w) : wpOp P (o :: r).toArray Q i K' a w := by
 unfold wpOp at *
 have e : (edge0 (o :: r)).toArray[i]? = ((o :: r).toArray[i]?).map fun x => if i = 0 then x else addE x := by simpa using edge0_get o r i
 rw [e, edge0_yielded] at h
 cases hx : (o :: r).toArray[i]? with
 | none => rw [hx] at h; exact hK _ _ h
 | some x =>
  rw [hx] at h
  simp only [Option.map_some] at h ⊢
  have key : ∀ y : Oper, y = x ∨ y = addE x → ((if Region.wanted y (yielded (o :: r).toArray a.tmps) then y.wp P a w K Q ∨ (y.asks P a w ∧ LetsOut Q) else K (a.put y.dst undef) w) → if Region.wanted x (yielded (o :: r).toArray a.tmps) then x.wp P a w K' Q ∨ (x.asks P a w ∧ LetsOut Q) else K' (a.put x.dst undef) w) := by
   rintro y (rfl | rfl) h
   ·split
    ·rename_i hw
     rw [if_pos hw] at h
     exact h.imp (Oper.wp_mono hK) id
    ·rename_i hw
     rw [if_neg hw] at h
     exact hK _ _ h
   ·have hw : Region.wanted (addE x) (yielded (o :: r).toArray a.tmps) = Region.wanted x (yielded (o :: r).toArray a.tmps) := rfl
    rw [hw] at h
    split
    ·rename_i hw
     rw [if_pos hw] at h
     have h' : x.wp P a w K Q ∨ (x.asks P a w ∧ LetsOut Q) := h
     exact h'.imp (Oper.wp_mono hK) id
    ·rename_i hw
     rw [if_neg hw] at h
     exact hK _ _ h
  exact key _ (by split <;> simp) h
theorem edge0_any {P : Program} {Q : Exit → Act → World → Prop} {o : Oper} {r : List Oper} : ∀ (fuel : Nat) (listed : Array Bool) (a : Act) (w : World), listed.getD 0 false = true → wpAny P .any (edge0 (o :: r)).toArray Q fuel listed a w → wpAny P .any (o :: r).toArray Q fuel listed a w
 | 0, listed, a, w, h0, h => by
  unfold wpAny at *
  rwa [edge0_ready h0] at h
 | fuel + 1, listed, a, w, h0, h => by
  unfold wpAny at *
  rw [edge0_ready h0] at h
  exact ⟨h.1, fun i hi => edge0_wpOp (fun a w => edge0_any fuel _ a w (getD_set_true h0)) (h.2 i hi)⟩
theorem X.free0 {P : Program} {n id : Nat} {Q : QX} {ρ : Env} {F : FH} {L : List HP} {d : Tmp} {x : Operand} {ty : TypeId} {pos : String} {r : List Oper}
  (hmix : P.follows .mixedOrders = true) (hsel : Region.noSelect ((⟨some d, .move x, ty, pos, #[], none⟩ : Oper) :: r).toArray = true)
  (hf : Region.free .any ((⟨some d, .move x, ty, pos, #[], none⟩ : Oper) :: r).toArray (Array.replicate (r.length + 1) false) 0 = true)
  (hQ : ∀ ch ρ ρ' F L, Q (.panic ch) ρ F L → Q (.panic ch) ρ' F L) (hO : ∀ ρ F L, ¬ Q .outgrown ρ F L)
  (h : XA P n (edge0 ((⟨some d, .move x, ty, pos, #[], none⟩ : Oper) :: r)) Q ρ F L) : X P n (.region id ((⟨some d, .move x, ty, pos, #[], none⟩ : Oper) :: r).toArray true) Q ρ F L := by
 intro cok a w rp H
 have ok : opsOk n ((⟨some d, .move x, ty, pos, #[], none⟩ : Oper) :: r) = true := by simpa [cOk] using cok
 refine wp_region_any hmix ?_
 have ok2 : opsOk n (edge0 ((⟨some d, .move x, ty, pos, #[], none⟩ : Oper) :: r)) = true := by
  simp only [opsOk, edge0, List.all_cons, List.all_map, Bool.and_eq_true] at ok ⊢
  exact ok
 have hA := h ok2 a _ rp H.drew
 have hs : (edge0 ((⟨some d, .move x, ty, pos, #[], none⟩ : Oper) :: r)).toArray.size = r.length + 1 := by simp [edge0]
 have hs2 : ((⟨some d, .move x, ty, pos, #[], none⟩ : Oper) :: r).toArray.size = r.length + 1 := by simp
 rw [hs] at hA
 rw [hs2]
 have hev : ∀ w, (execOp a.eval ⟨some d, .move x, ty, pos, #[], none⟩).run P w = .ok (.value (a.eval x)) w := by
  intro w; simp [execOp]
 have hready : 0 ∈ Region.ready .any ((⟨some d, .move x, ty, pos, #[], none⟩ : Oper) :: r).toArray (Array.replicate (r.length + 1) false) :=
  mem_ready.2 ⟨by simp, _, rfl, fun e he => by simp at he⟩
 have hready2 : 0 ∈ Region.ready .any (edge0 ((⟨some d, .move x, ty, pos, #[], none⟩ : Oper) :: r)).toArray (Array.replicate (r.length + 1) false) :=
  mem_ready.2 ⟨by simp, ⟨some d, .move x, ty, pos, #[], none⟩, rfl, fun e he => by cases he with | mk h => simp at h⟩
 refine wpAny_take (i := 0) rfl hsel hf (by simpa using hready) ?_ (.inl ⟨by simp [Region.wanted], hev⟩) ?_
 ·rintro c a w ⟨ρ', F', L', r', le, H', q⟩
  refine ⟨fun i => a.tmps.getD i undef, F', L', ⟨?_, ?_, fun _ => rfl⟩, le, H', hQ _ _ _ _ _ q⟩
  ·have := r'.size; simpa [Act.put] using this
  ·have := r'.defers; simpa [Act.put] using this
 ·have h1 := hA.2 0 hready2
  refine edge0_any _ _ _ _ (by simp) ?_
  unfold wpOp at h1
  have e0 : (edge0 ((⟨some d, .move x, ty, pos, #[], none⟩ : Oper) :: r)).toArray[0]? = some ⟨some d, .move x, ty, pos, #[], none⟩ := rfl
  rw [e0] at h1
  simp only [Region.wanted, if_true] at h1
  rcases h1 with h1 | ⟨_, a0, w0, ρ', F', L', _, _, _, q⟩
  ·unfold Oper.wp at h1
   rw [hev] at h1
   exact h1
  ·exact absurd q (hO _ _ _)
end Go.Proofs.YtcdjpapjjoldeaaGreat.X
namespace Go.Proofs.YtcdjpapjjoldeaaGreat.M
structure Mgu (ar A C : List Int) (b : RowL) : Prop where
 ok : BOk ar b
 iff : ∀ θ, GoodS ar θ → (SatB b θ ↔ ap θ A = ap θ C)
theorem Mgu.of {ar A C : List Int} {b : RowL} (h : Solves ar (List.replicate 48 []) b (fun θ => ap θ A = ap θ C)) : Mgu ar A C b :=
 ⟨h.ok, fun θ g => by rw [h.iff θ g]; exact ⟨fun x => x.2, fun x => ⟨SatB.nils, x⟩⟩⟩
section
variable {ar A C t s : List Int} {b1 b2 : RowL} {σ1 σ2 : Sbs} {n m : Int}
theorem Mgu.into (h1 : Mgu ar A C b1) (s1 : Sol b1 σ1) (h2 : Mgu ar A C b2) (s2 : Sol b2 σ2) : ap σ2 (ap σ1 t) = ap σ2 t := by
 have g2 := s2.good h2.ok
 exact s1.most_t h1.ok g2 ((h1.iff σ2 g2).2 ((h2.iff σ2 g2).1 s2.sat))
def hd1 (σ : Sbs) (n : Int) : Int := (σ n).getD 0 0
theorem Mgu.one (h1 : Mgu ar A C b1) (s1 : Sol b1 σ1) (h2 : Mgu ar A C b2) (s2 : Sol b2 σ2) (hn : n ∈ ap σ1 t) : σ2 n = [hd1 σ2 n] := by
 have g1 := s1.good h1.ok
 have g2 := s2.good h2.ok
 have e1 : (ap σ2 (ap σ1 t)).length = (ap σ2 t).length := congrArg _ (h1.into s1 h2 s2)
 have e2 : (ap σ1 (ap σ2 t)).length = (ap σ1 t).length := congrArg _ (h2.into s2 h1 s1)
 have l1 := g1.len (t := ap σ2 t)
 have l2 := g2.len_mem hn
 have l3 := g2.pos (x := n)
 have h : (σ2 n).length = 1 := by omega
 unfold hd1
 match hs : σ2 n, h with
 | [y], _ => rfl
theorem ap_map (h : ∀ n ∈ t, σ1 n = [hd1 σ1 n]) : ap σ1 t = t.map (hd1 σ1) := by
 induction t with
 | nil => rfl
 | cons x t ih => rw [ap_cons, h x (by simp), ih (fun n hn => h n (by simp [hn]))]; rfl
theorem Mgu.map (h1 : Mgu ar A C b1) (s1 : Sol b1 σ1) (h2 : Mgu ar A C b2) (s2 : Sol b2 σ2) : ap σ2 t = (ap σ1 t).map (hd1 σ2) := by
 rw [← h1.into s1 h2 s2, ap_map fun n hn => h1.one s1 h2 s2 hn]
theorem map_back {f g : Int → Int} : ∀ {l : List Int}, (l.map f).map g = l → ∀ n ∈ l, g (f n) = n
 | [], _, n, hn => by cases hn
 | x :: l, h, n, hn => by
  simp only [List.map_cons, List.cons.injEq] at h
  rcases List.mem_cons.1 hn with rfl | hn
  ·exact h.1
  ·exact map_back h.2 n hn
theorem Mgu.back (h1 : Mgu ar A C b1) (s1 : Sol b1 σ1) (h2 : Mgu ar A C b2) (s2 : Sol b2 σ2) (hn : n ∈ ap σ1 t) : hd1 σ1 (hd1 σ2 n) = n := by
 have e : ((ap σ1 t).map (hd1 σ2)).map (hd1 σ1) = ap σ1 t := by rw [← h1.map s1 h2 s2, ← h2.map s2 h1 s1]
 exact map_back e n hn
theorem hd1_sym (s : Sol b1 σ1) (hn : 0 ≤ n) : hd1 σ1 n = n := by unfold hd1; rw [s.sym hn]; rfl
theorem Mgu.neg (h1 : Mgu ar A C b1) (s1 : Sol b1 σ1) (h2 : Mgu ar A C b2) (s2 : Sol b2 σ2) (hn : n ∈ ap σ1 t) : hd1 σ2 n < 0 ↔ n < 0 := by
 constructor
 ·intro h
  rcases Int.lt_or_le n 0 with h0 | h0
  ·exact h0
  ·rw [hd1_sym s2 h0] at h; omega
 ·intro h
  rcases Int.lt_or_le (hd1 σ2 n) 0 with h0 | h0
  ·exact h0
  ·have := h1.back s1 h2 s2 hn
   rw [hd1_sym s1 h0] at this; omega
end
def orderGo : List Int → List Int → List Int
 | s, [] => s
 | s, n :: t => orderGo (if n < 0 ∧ n ∉ s then s ++ [n] else s) t
def orderL (t : List Int) : List Int := orderGo [] t
def byL (o t : List Int) : List Int := t.map fun n => if n < 0 ∧ n ∈ o then -1 - indexZ o n else n
section
variable {o s t : List Int} {f g : Int → Int} {n : Int} {k : Nat}
theorem mem_orderGo : ∀ {t s : List Int} {n : Int}, n ∈ orderGo s t ↔ n ∈ s ∨ (n < 0 ∧ n ∈ t)
 | [], s, n => by simp [orderGo]
 | x :: t, s, n => by
  rw [orderGo, mem_orderGo]
  by_cases h : x < 0 ∧ x ∉ s
  ·rw [if_pos h]
   constructor
   ·rintro (h1 | h1)
    ·rcases List.mem_append.1 h1 with h1 | h1
     ·exact .inl h1
     ·rw [List.mem_singleton.1 h1]; exact .inr ⟨h.1, by simp⟩
    ·exact .inr ⟨h1.1, by simp [h1.2]⟩
   ·rintro (h1 | ⟨h0, h1⟩)
    ·exact .inl (by simp [h1])
    ·rcases List.mem_cons.1 h1 with rfl | h1
     ·exact .inl (by simp)
     ·exact .inr ⟨h0, h1⟩
  ·rw [if_neg h]
   constructor
   ·rintro (h1 | h1)
    ·exact .inl h1
    ·exact .inr ⟨h1.1, by simp [h1.2]⟩
   ·rintro (h1 | ⟨h0, h1⟩)
    ·exact .inl h1
    ·rcases List.mem_cons.1 h1 with rfl | h1
     ·exact .inl (Classical.not_not.1 fun hc => h ⟨h0, hc⟩)
     ·exact .inr ⟨h0, h1⟩
theorem mem_orderL : n ∈ orderL t ↔ n < 0 ∧ n ∈ t := by unfold orderL; rw [mem_orderGo]; simp
theorem orderGo_sub : ∀ {t s : List Int}, (∀ n ∈ t, n < 0 → n ∈ s) → orderGo s t = s
 | [], s, _ => rfl
 | x :: t, s, h => by
  rw [orderGo, if_neg (fun hx => hx.2 (h x (by simp) hx.1))]
  exact orderGo_sub fun n hn h0 => h n (by simp [hn]) h0
theorem orderGo_map : ∀ {t s : List Int}, (∀ n ∈ t, f n < 0 ↔ n < 0) → (∀ n ∈ t, g (f n) = n) → (∀ n ∈ s, g (f n) = n) → orderGo (s.map f) (t.map f) = (orderGo s t).map f
 | [], s, _, _, _ => rfl
 | x :: t, s, h1, h2, h3 => by
  rw [List.map_cons, orderGo, orderGo]
  have hm : f x ∈ s.map f ↔ x ∈ s := by
   constructor
   ·intro h
    obtain ⟨y, hy, e⟩ := List.mem_map.1 h
    have := congrArg g e
    rw [h3 y hy, h2 x (by simp)] at this
    exact this ▸ hy
   ·exact List.mem_map_of_mem
  have hc : (f x < 0 ∧ f x ∉ s.map f) ↔ (x < 0 ∧ x ∉ s) := by rw [h1 x (by simp), hm]
  by_cases h : x < 0 ∧ x ∉ s
  ·rw [if_pos h, if_pos (hc.2 h), show s.map f ++ [f x] = (s ++ [x]).map f from by simp]
   refine orderGo_map (fun n hn => h1 n (by simp [hn])) (fun n hn => h2 n (by simp [hn])) fun n hn => ?_
   rcases List.mem_append.1 hn with hn | hn
   ·exact h3 n hn
   ·rw [List.mem_singleton.1 hn]; exact h2 x (by simp)
  ·rw [if_neg h, if_neg (fun k => h (hc.1 k))]
   exact orderGo_map (fun n hn => h1 n (by simp [hn])) (fun n hn => h2 n (by simp [hn])) h3
theorem index_map {n : Int} : ∀ {s : List Int}, (∀ m ∈ s, g (f m) = m) → g (f n) = n → (s.map f).findIdx? (fun x => decide (x = f n)) = s.findIdx? (fun x => decide (x = n))
 | [], _, _ => rfl
 | x :: s, h, h2 => by
  simp only [List.map_cons, List.findIdx?_cons]
  have : (f x = f n) ↔ x = n := ⟨fun e => by have := congrArg g e; rwa [h x (by simp), h2] at this, fun e => by rw [e]⟩
  rw [show (decide (f x = f n)) = decide (x = n) from decide_eq_decide.2 this, index_map (fun m hm => h m (by simp [hm])) h2]
theorem byL_map (h1 : ∀ n ∈ t, f n < 0 ↔ n < 0) (h0 : ∀ n, 0 ≤ n → f n = n) (h2 : ∀ n ∈ t, g (f n) = n) (h3 : ∀ n ∈ o, g (f n) = n) (ho : ∀ n ∈ t, n < 0 → n ∈ o) : byL (o.map f) (t.map f) = byL o t := by
 unfold byL
 rw [List.map_map]
 refine List.map_congr_left fun n hn => ?_
 simp only [Function.comp]
 rcases Int.lt_or_le n 0 with hneg | hpos
 ·have hm := ho n hn hneg
  rw [if_pos ⟨(h1 n hn).2 hneg, List.mem_map_of_mem hm⟩, if_pos ⟨hneg, hm⟩]
  unfold indexZ
  rw [index_map h3 (h2 n hn)]
 ·rw [h0 n hpos, if_neg (by omega), if_neg (by omega)]
end
abbrev PkT := List Int × List Int × List Int × Int × Int × Int
def P0 : PkT := ([], [], [], 0, 0, 0)
abbrev RulesT := List (List Int × List Int)
abbrev Lr (rs : RulesT) (o : Nat) : List Int := (rs.getD o ([], [])).1
abbrev Rr (rs : RulesT) (o : Nat) : List Int := (rs.getD o ([], [])).2
def leftT (ar : List Int) (rs : RulesT) (o p u : Nat) : List Int := (Lr rs o).take p ++ awayL (Rr rs u) ++ (Lr rs o).drop (endN ar (Lr rs o) p)
open Classical in
noncomputable def meetB (ar : List Int) (rs : RulesT) (o p u : Nat) : Bool := decide (¬ (o = u ∧ p = 0) ∧ ∃ θ, GoodS ar θ ∧ ap θ (sub ar (Lr rs o) p) = ap θ (awayL (Lr rs u)))
def peakOf (ar : List Int) (rs : RulesT) (o p u : Nat) (σ : Sbs) : Option PkT :=
 let top := ap σ (Lr rs o); let left := ap σ (leftT ar rs o p u); let right := ap σ (Rr rs o); let od := orderL top
 if top.length ≤ 60 ∧ left.length ≤ 60 ∧ right.length ≤ 60 ∧ od.length ≤ 24 then some (byL od top, byL od left, byL od right, (p : Int), (u : Int), (o : Int)) else none
abbrev MguP (ar : List Int) (rs : RulesT) (o p u : Nat) (b : RowL) : Prop := Mgu ar (sub ar (Lr rs o) p) (awayL (Lr rs u)) b
open Classical in
noncomputable def peakF (ar : List Int) (rs : RulesT) (o p u : Nat) : Option PkT :=
 if h : ∃ σ b, MguP ar rs o p u b ∧ Sol b σ then peakOf ar rs o p u (Classical.choose h) else none
section
variable {ar : List Int} {rs : RulesT} {o p u : Nat} {b b1 b2 : RowL} {σ σ1 σ2 : Sbs} {n : Int}
theorem away_W {l : List Int} (h : termOk ar l = true) : TermW ar (awayL l) := by
 have h1 := termOk_iff.1 h
 have hl : (awayL l).length = l.length := by simp [awayL]
 have hw : ∀ (r : List Int) (n : Nat), endGo ar (awayL r) n = endGo ar r n := by
  intro r
  induction r with
  | nil => intro n; rfl
  | cons x r ih =>
   intro n
   cases n with
   | zero => simp [endGo]
   | succ n =>
    show endGo ar ((if x < 0 then x - 24 else x) :: awayL r) (n + 1) = _
    simp only [endGo]
    by_cases hx : x < 0
    ·rw [if_pos hx, if_pos (by omega), if_pos (by omega), ih]
     unfold arity; rw [if_pos (by omega), if_pos hx]
    ·rw [if_neg hx, ih]
 refine ⟨h1.sig, by rw [hl]; exact ⟨h1.pos, h1.len⟩, by rw [hl, hw]; exact h1.whole, fun x hx => ?_⟩
 obtain ⟨y, hy, rfl⟩ := List.mem_map.1 hx
 have := h1.ge y hy
 split <;> omega
theorem rule_vars (hs : sysOk ar rs = true) (ho : o < rs.length) : ∀ n ∈ Rr rs o, n < 0 → n ∈ Lr rs o := by
 intro n hn h0
 have h := ruleOk_iff.1 ((sysOk_iff.1 hs).2.2 o ho)
 exact h.vars n hn h0
theorem mem_away {l : List Int} : n ∈ awayL l ↔ ∃ y ∈ l, (if y < 0 then y - 24 else y) = n := by unfold awayL; exact List.mem_map
theorem ap_mono {s t : List Int} (hs : Sol b σ) (h : ∀ n ∈ s, n < 0 → n ∈ t) : ∀ n ∈ ap σ s, n < 0 → n ∈ ap σ t := by
 intro n hn h0
 obtain ⟨x, hx, hxn⟩ := mem_ap.1 hn
 rcases Int.lt_or_le x 0 with hx0 | hx0
 ·exact mem_ap.2 ⟨x, h x hx hx0, hxn⟩
 ·rw [hs.sym hx0] at hxn; have := List.mem_singleton.1 hxn; omega
theorem left_vars (hs : sysOk ar rs = true) (ho : o < rs.length) (hu : u < rs.length) (hm : MguP ar rs o p u b) (hσ : Sol b σ) : ∀ n ∈ ap σ (leftT ar rs o p u), n < 0 → n ∈ ap σ (Lr rs o) := by
 have g := hσ.good hm.ok
 have e := (hm.iff σ g).1 hσ.sat
 intro n hn h0
 unfold leftT at hn
 rw [ap_app, ap_app, List.mem_append, List.mem_append] at hn
 rcases hn with (hn | hn) | hn
 ·exact ap_mono hσ (fun n hn _ => List.mem_of_mem_take hn) n hn h0
 ·have h1 : n ∈ ap σ (awayL (Lr rs u)) := by
   refine ap_mono hσ (fun m hm hm0 => ?_) n hn h0
   obtain ⟨y, hy, rfl⟩ := mem_away.1 hm
   by_cases hy0 : y < 0
   ·exact mem_away.2 ⟨y, rule_vars hs hu y hy hy0, rfl⟩
   ·rw [if_neg hy0] at hm0; omega
  rw [← e] at h1
  exact ap_mono hσ (fun n hn _ => mem_sub hn) n h1 h0
 ·exact ap_mono hσ (fun n hn _ => List.mem_of_mem_drop hn) n hn h0
theorem peak_same (hs : sysOk ar rs = true) (ho : o < rs.length) (hu : u < rs.length) (h1 : MguP ar rs o p u b1) (s1 : Sol b1 σ1) (h2 : MguP ar rs o p u b2) (s2 : Sol b2 σ2) : peakOf ar rs o p u σ2 = peakOf ar rs o p u σ1 := by
 have hmap : ∀ t, ap σ2 t = (ap σ1 t).map (hd1 σ2) := fun t => h1.map s1 h2 s2
 have hb : ∀ t, ∀ n ∈ ap σ1 t, hd1 σ1 (hd1 σ2 n) = n := fun t n hn => h1.back s1 h2 s2 hn
 have hneg : ∀ t, ∀ n ∈ ap σ1 t, (hd1 σ2 n < 0 ↔ n < 0) := fun t n hn => h1.neg s1 h2 s2 hn
 have hord : orderL (ap σ2 (Lr rs o)) = (orderL (ap σ1 (Lr rs o))).map (hd1 σ2) := by
  rw [hmap]
  exact orderGo_map (s := []) (g := hd1 σ1) (hneg _) (hb _) (fun n hn => by cases hn)
 have hob : ∀ n ∈ orderL (ap σ1 (Lr rs o)), hd1 σ1 (hd1 σ2 n) = n := fun n hn => hb _ n (mem_orderL.1 hn).2
 have key : ∀ t, (∀ n ∈ ap σ1 t, n < 0 → n ∈ ap σ1 (Lr rs o)) → byL (orderL (ap σ2 (Lr rs o))) (ap σ2 t) = byL (orderL (ap σ1 (Lr rs o))) (ap σ1 t) := by
  intro t ht
  rw [hord, hmap t]
  exact byL_map (hneg t) (fun n hn => hd1_sym s2 hn) (hb t) hob fun n hn h0 => mem_orderL.2 ⟨h0, ht n hn h0⟩
 have hlen : ∀ t, (ap σ2 t).length = (ap σ1 t).length := fun t => by rw [hmap, List.length_map]
 have k1 := key (Lr rs o) fun n hn _ => hn
 have k2 := key (leftT ar rs o p u) (left_vars hs ho hu h1 s1)
 have k3 := key (Rr rs o) (ap_mono s1 (rule_vars hs ho))
 unfold peakOf
 simp only
 rw [k1, k2, k3, hlen, hlen, hlen, hord, List.length_map]
theorem peakF_eq (hs : sysOk ar rs = true) (ho : o < rs.length) (hu : u < rs.length) (hm : MguP ar rs o p u b) (hσ : Sol b σ) : peakF ar rs o p u = peakOf ar rs o p u σ := by
 have h : ∃ σ b, MguP ar rs o p u b ∧ Sol b σ := ⟨σ, b, hm, hσ⟩
 unfold peakF
 rw [dif_pos h]
 obtain ⟨b2, h2, s2⟩ := Classical.choose_spec h
 exact peak_same hs ho hu hm hσ h2 s2
theorem meet_yes (hne : ¬ (o = u ∧ p = 0)) (hm : MguP ar rs o p u b) : meetB ar rs o p u = true := by
 obtain ⟨σ, hσ⟩ := hm.ok.sol
 have g := hσ.good hm.ok
 classical
 unfold meetB
 exact decide_eq_true ⟨hne, σ, g, (hm.iff σ g).1 hσ.sat⟩
theorem meet_no (h : ∀ θ, GoodS ar θ → ap θ (sub ar (Lr rs o) p) ≠ ap θ (awayL (Lr rs u))) : meetB ar rs o p u = false := by
 classical
 unfold meetB
 exact decide_eq_false fun ⟨_, θ, g, e⟩ => h θ g e
theorem meet_self (h : o = u ∧ p = 0) : meetB ar rs o p u = false := by
 classical
 unfold meetB
 exact decide_eq_false fun ⟨hne, _⟩ => hne h
theorem sol_ge (hb : BOk ar b) (hσ : Sol b σ) : ∀ n, -48 ≤ n → ∀ m ∈ σ n, -48 ≤ m := by
 obtain ⟨ρ, ha⟩ := hb.acyc
 have key : ∀ (r : Nat) (n : Int), n < 0 → ρ n = r → -48 ≤ n → ∀ m ∈ σ n, -48 ≤ m := by
  intro r
  induction r using Nat.strongRecOn with
  | _ r ih =>
   intro n hn hr hg m hm
   by_cases hl : lkN b n = []
   ·rw [hσ.free hl] at hm; rw [List.mem_singleton.1 hm]; exact hg
   ·rw [hσ.bound hl] at hm
    obtain ⟨x, hx, hxm⟩ := mem_ap.1 hm
    have hxg := (hb.wt n hn hl).ge x hx
    rcases Int.lt_or_le x 0 with h0 | h0
    ·exact ih (ρ x) (by have := ha n hn x hx h0; omega) x h0 rfl hxg m hxm
    ·rw [hσ.sym h0] at hxm; have := List.mem_singleton.1 hxm; omega
 intro n hg m hm
 rcases Int.lt_or_le n 0 with h0 | h0
 ·exact key _ n h0 rfl hg m hm
 ·rw [hσ.sym h0] at hm; have := List.mem_singleton.1 hm; omega
theorem ap_W {t : List Int} (hb : BOk ar b) (hσ : Sol b σ) (ht : TermW ar t) (hl : (ap σ t).length ≤ 60) : TermW ar (ap σ t) := by
 have g := hσ.good hb
 refine ⟨ht.sig, ⟨?_, hl⟩, ap_wf g ht.wf, fun m hm => ?_⟩
 ·have := g.len (t := t); have := ht.len; omega
 ·obtain ⟨x, hx, hxm⟩ := mem_ap.1 hm
  exact sol_ge hb hσ x (ht.ge x hx) m hxm
theorem three_parts {l : List Int} (hl : TermW ar l) (hp : p < l.length) : l = l.take p ++ sub ar l p ++ l.drop (endN ar l p) := by
 have := wf_sub hl hp
 rw [List.append_assoc, ← this, List.take_append_drop]
theorem end_ap {l : List Int} (g : GoodS ar σ) (hl : TermW ar l) (hp : p < l.length) : endN ar (ap σ l) (ap σ (l.take p)).length = (ap σ (l.take p)).length + (ap σ (sub ar l p)).length := by
 have e : ap σ l = ap σ (l.take p) ++ (ap σ (sub ar l p) ++ ap σ (l.drop (endN ar l p))) := by
  have := congrArg (ap σ) (three_parts hl hp)
  rwa [ap_app, ap_app, List.append_assoc] at this
 unfold endN endAt
 rw [e, List.drop_left, endGo_more (ap_wf g (hl.sub hp).wf)]
 rfl
theorem put_ap {l u' : List Int} (g : GoodS ar σ) (hl : TermW ar l) (hp : p < l.length) : (ap σ l).take (ap σ (l.take p)).length ++ u' ++ (ap σ l).drop (endN ar (ap σ l) (ap σ (l.take p)).length) = ap σ (l.take p) ++ u' ++ ap σ (l.drop (endN ar l p)) := by
 rw [end_ap g hl hp]
 have e : ap σ l = ap σ (l.take p) ++ (ap σ (sub ar l p) ++ ap σ (l.drop (endN ar l p))) := by
  have := congrArg (ap σ) (three_parts hl hp)
  rwa [ap_app, ap_app, List.append_assoc] at this
 rw [e, List.take_left]
 congr 1
 rw [← List.append_assoc, ← List.length_append, List.drop_left]
theorem away_len {l : List Int} : (awayL l).length = l.length := by simp [awayL]
theorem rule_L (hs : sysOk ar rs = true) (ho : o < rs.length) : termOk ar (Lr rs o) = true := (ruleOk_iff.1 ((sysOk_iff.1 hs).2.2 o ho)).left
theorem rule_R (hs : sysOk ar rs = true) (ho : o < rs.length) : termOk ar (Rr rs o) = true := (ruleOk_iff.1 ((sysOk_iff.1 hs).2.2 o ho)).right
theorem nils_no {A C : List Int} (h : ∀ θ, GoodS ar θ → SatB (List.replicate 48 []) θ → ap θ A ≠ ap θ C) : ∀ θ, GoodS ar θ → ap θ A ≠ ap θ C := fun θ g => h θ g SatB.nils
end
def rnL : List Int → RowL → RowL
 | _, [] => []
 | s, t :: r => byL (orderGo s t) t :: rnL (orderGo s t) r
section
variable {s t w ss S : List Int} {ts os : RowL} {n : Int} {j k : Nat}
theorem orderGo_app : ∀ {a b s : List Int}, orderGo s (a ++ b) = orderGo (orderGo s a) b
 | [], b, s => rfl
 | x :: a, b, s => by rw [List.cons_append, orderGo, orderGo_app, orderGo]
theorem orderGo_pre : ∀ (t s : List Int), ∃ r, orderGo s t = s ++ r
 | [], s => ⟨[], by simp [orderGo]⟩
 | x :: t, s => by
  rw [orderGo]
  obtain ⟨r, h⟩ := orderGo_pre t (if x < 0 ∧ x ∉ s then s ++ [x] else s)
  split at h
  ·rename_i hx
   rw [if_pos hx]
   exact ⟨x :: r, by rw [h]; simp⟩
  ·rename_i hx
   rw [if_neg hx]
   exact ⟨r, h⟩
theorem index_pre {r : List Int} (h : n ∈ s) : indexZ (s ++ r) n = indexZ s n := by
 unfold indexZ
 rw [List.findIdx?_append]
 cases hf : s.findIdx? (fun x => decide (x = n)) with
 | some i => rfl
 | none =>
  rw [List.findIdx?_eq_none_iff] at hf
  have := hf n h
  simp at this
theorem index_new {r : List Int} (h : n ∉ s) : indexZ (s ++ n :: r) n = (s.length : Int) := by
 refine indexZ_some (k := s.length) (by simp) (by simp [List.getD]) fun i hi e => h ?_
 rw [List.getD_eq_getElem?_getD, List.getElem?_append_left hi] at e
 exact mem_of_getD hi (by rw [List.getD_eq_getElem?_getD]; exact e)
theorem orderGo_take (hj : j < t.length) : orderGo s (t.take (j + 1)) = if t.getD j 0 < 0 ∧ t.getD j 0 ∉ orderGo s (t.take j) then orderGo s (t.take j) ++ [t.getD j 0] else orderGo s (t.take j) := by
 rw [take_succ_getD 0 hj, orderGo_app]
 simp only [orderGo]
theorem orderGo_len (t s : List Int) : (orderGo s t).length ≤ s.length + t.length := by
 induction t generalizing s with
 | nil => simp [orderGo]
 | cons x t ih =>
  rw [orderGo]
  have := ih (if x < 0 ∧ x ∉ s then s ++ [x] else s)
  split at this
  ·rw [List.length_append, List.length_singleton] at this; rw [List.length_cons]; rename_i h; rw [if_pos h]; omega
  ·rw [List.length_cons]; rename_i h; rw [if_neg h]; omega
def RnAt (s t ss w : List Int) (j : Nat) : Prop := ss = orderGo s (t.take j) ∧ w = byL (orderGo s t) (t.take j) ++ t.drop j
theorem RnAt.start : RnAt s t s t 0 := ⟨rfl, by simp [byL]⟩
theorem RnAt.len (h : RnAt s t ss w j) : w.length = t.length := by rw [h.2]; simp [byL]; omega
theorem RnAt.at (h : RnAt s t ss w j) (hj : j < t.length) : w.getD j 0 = t.getD j 0 := by
 have hl : (byL (orderGo s t) (t.take j)).length = j := by simp [byL]; omega
 rw [h.2, List.getD_eq_getElem?_getD, List.getElem?_append_right (by omega), hl, Nat.sub_self, List.getElem?_drop, List.getD_eq_getElem?_getD, Nat.add_zero]
theorem RnAt.put (h : RnAt s t ss w j) (hj : j < t.length) (x : Int) (hx : x = if t.getD j 0 < 0 ∧ t.getD j 0 ∈ orderGo s t then -1 - indexZ (orderGo s t) (t.getD j 0) else t.getD j 0) : w.set j x = byL (orderGo s t) (t.take (j + 1)) ++ t.drop (j + 1) := by
 have hl : (byL (orderGo s t) (t.take j)).length = j := by simp [byL]; omega
 have e : byL (orderGo s t) (t.take (j + 1)) = byL (orderGo s t) (t.take j) ++ [x] := by
  unfold byL; rw [take_succ_getD 0 hj, List.map_append, hx]; rfl
 rw [e, List.append_assoc, h.2, List.set_append_right _ _ (by omega), hl, Nat.sub_self, drop_cons hj]; rfl
theorem set_self {w : List Int} {x : Int} (hj : j < w.length) (h : w.getD j 0 = x) : w.set j x = w := by
 subst h
 refine List.ext_getElem (by simp) fun i h1 h2 => ?_
 rw [List.getElem_set]
 split
 ·rename_i e; subst e; simp [List.getD, hj]
 ·rfl
theorem RnAt.sym (h : RnAt s t ss w j) (hj : j < t.length) (h0 : 0 ≤ t.getD j 0) : RnAt s t ss w (j + 1) := by
 refine ⟨by rw [orderGo_take hj, if_neg (by omega)]; exact h.1, ?_⟩
 rw [← h.put hj (t.getD j 0) (by rw [if_neg (by omega)]), set_self (by rw [h.len]; exact hj) (h.at hj)]
theorem RnAt.old (h : RnAt s t ss w j) (hj : j < t.length) (h0 : t.getD j 0 < 0) (hi : t.getD j 0 ∈ ss) : RnAt s t ss (w.set j (-1 - indexZ ss (t.getD j 0))) (j + 1) := by
 have hi2 : t.getD j 0 ∈ orderGo s (t.take j) := h.1 ▸ hi
 refine ⟨by rw [orderGo_take hj, if_neg (fun hc => hc.2 hi2)]; exact h.1, h.put hj _ ?_⟩
 obtain ⟨r, hr⟩ := orderGo_pre (t.drop j) (orderGo s (t.take j))
 have e : orderGo s t = ss ++ r := by
  have := congrArg (orderGo s) (List.take_append_drop j t)
  rw [orderGo_app] at this
  rw [← this, hr, h.1]
 rw [if_pos ⟨h0, by rw [e]; exact List.mem_append.2 (.inl hi)⟩, e, index_pre hi]
theorem RnAt.new (h : RnAt s t ss w j) (hj : j < t.length) (h0 : t.getD j 0 < 0) (hi : t.getD j 0 ∉ ss) : RnAt s t (ss ++ [t.getD j 0]) (w.set j (-1 - (ss.length : Int))) (j + 1) := by
 have hi2 : t.getD j 0 ∉ orderGo s (t.take j) := h.1 ▸ hi
 refine ⟨by rw [orderGo_take hj, if_pos ⟨h0, hi2⟩, h.1], h.put hj _ ?_⟩
 obtain ⟨r, hr⟩ := orderGo_pre (t.drop (j + 1)) (orderGo s (t.take (j + 1)))
 have e : orderGo s t = ss ++ t.getD j 0 :: r := by
  have := congrArg (orderGo s) (List.take_append_drop (j + 1) t)
  rw [orderGo_app] at this
  rw [← this, hr, orderGo_take hj, if_pos ⟨h0, hi2⟩, ← h.1]; simp
 rw [if_pos ⟨h0, by rw [e]; simp⟩, e, index_new hi]
theorem RnAt.done (h : RnAt s t ss w j) (hj : j = t.length) : ss = orderGo s t ∧ w = byL (orderGo s t) t := by
 subst hj
 obtain ⟨h1, h2⟩ := h
 rw [List.take_length] at h1 h2
 exact ⟨h1, by rw [h2]; simp⟩
theorem rn_next (hk : k < ts.length) (h : rnL [] ts = os ++ rnL s (ts.drop k)) (h1 : ss = orderGo s (ts.getD k []) ∧ w = byL (orderGo s (ts.getD k [])) (ts.getD k [])) : rnL [] ts = (os ++ [w]) ++ rnL ss (ts.drop (k + 1)) := by
 rw [h, drop_get [] hk, rnL, h1.1, h1.2]; simp
theorem rn_done (hk : k = ts.length) (h : rnL [] ts = os ++ rnL s (ts.drop k)) : rnL [] ts = os := by
 rw [h, hk, List.drop_length]; simp [rnL]
theorem rnL_len : ∀ (ts : RowL) (s : List Int), (rnL s ts).length = ts.length
 | [], _ => rfl
 | t :: r, s => by simp [rnL, rnL_len r]
theorem byL_len : (byL s t).length = t.length := by simp [byL]
theorem rn_three {a b c : List Int} (hb : ∀ n ∈ b, n < 0 → n ∈ a) (hc : ∀ n ∈ c, n < 0 → n ∈ a) : rnL [] [a, b, c] = [byL (orderL a) a, byL (orderL a) b, byL (orderL a) c] := by
 have e1 : orderGo (orderGo [] a) b = orderGo [] a := orderGo_sub fun n hn h0 => mem_orderL.2 ⟨h0, hb n hn h0⟩
 have e2 : orderGo (orderGo [] a) c = orderGo [] a := orderGo_sub fun n hn h0 => mem_orderL.2 ⟨h0, hc n hn h0⟩
 simp only [rnL, e1, e2]
 rfl
theorem indexZ_lt : ∀ {s : List Int} {n : Int}, n ∈ s → 0 ≤ indexZ s n ∧ indexZ s n < (s.length : Int) := by
 intro s n h
 unfold indexZ
 cases hf : s.findIdx? (fun x => decide (x = n)) with
 | some i =>
  have := List.findIdx?_eq_some_iff_getElem.1 hf
  obtain ⟨hi, _⟩ := this
  dsimp only; omega
 | none =>
  rw [List.findIdx?_eq_none_iff] at hf
  have := hf n h
  simp at this
theorem indexZ_le (s : List Int) (n : Int) : -1 ≤ indexZ s n ∧ indexZ s n ≤ (s.length : Int) := by
 by_cases h : n ∈ s
 ·have := indexZ_lt h; omega
 ·have := mt indexZ_mem.1 h
  unfold indexZ at *
  cases hf : s.findIdx? (fun x => decide (x = n)) with
  | none => dsimp only; omega
  | some i => rw [hf] at this; dsimp only at this; omega
theorem orderGo_nodup : ∀ (t s : List Int), s.Nodup → (orderGo s t).Nodup
 | [], s, h => h
 | x :: t, s, h => by
  rw [orderGo]
  refine orderGo_nodup t _ ?_
  split
  ·rename_i hx
   rw [List.nodup_append]
   refine ⟨h, by simp, fun a ha b hb e => hx.2 ?_⟩
   rw [List.mem_singleton.1 hb] at e; exact e ▸ ha
  ·exact h
theorem index_getElem {s : List Int} (h : s.Nodup) {i : Nat} (hi : i < s.length) : indexZ s s[i] = (i : Int) := by
 refine indexZ_some hi (by simp [List.getD, hi]) fun j hj e => ?_
 have hjl : j < s.length := by omega
 have e2 : s[j] = s[i] := by simpa [List.getD, hjl] using e
 exact absurd e2 (List.pairwise_iff_getElem.1 h j i hjl hi hj)
theorem order_last {t : List Int} {i : Nat} (hi : i < (orderL t).length) : ∃ x, x ∈ orderL t ∧ indexZ (orderL t) x = (i : Int) :=
 ⟨(orderL t)[i], List.getElem_mem hi, index_getElem (orderGo_nodup t [] List.nodup_nil) hi⟩
theorem order_len (t : List Int) (h : 1 ≤ t.length) : minL (byL (orderL t) t) < -24 ↔ 24 < (orderL t).length := by
 have hmin := minL_ge (xs := byL (orderL t) t) (by rw [byL_len]; exact h) (-24)
 constructor
 ·intro hlt
  refine Nat.lt_of_not_le fun hle => ?_
  have : ∀ x ∈ byL (orderL t) t, -24 ≤ x := by
   intro x hx
   unfold byL at hx
   obtain ⟨n, hn, rfl⟩ := List.mem_map.1 hx
   rcases Int.lt_or_le n 0 with h0 | h0
   ·have hm : n ∈ orderL t := mem_orderL.2 ⟨h0, hn⟩
    rw [if_pos ⟨h0, hm⟩]
    have := indexZ_lt hm
    omega
   ·rw [if_neg (by omega)]; omega
  have := hmin.2 this
  omega
 ·intro hgt
  refine Int.lt_of_not_ge fun hge => ?_
  have hall := hmin.1 hge
  have hl : (orderL t).length - 1 < (orderL t).length := by omega
  obtain ⟨x, hx, hxi⟩ := order_last (t := t) hl
  have hm := mem_orderL.1 hx
  have := hall _ (List.mem_map.2 ⟨x, hm.2, rfl⟩)
  rw [if_pos ⟨hm.1, hx⟩, hxi] at this
  omega
end
section
variable {ar t : List Int} {σ : Sbs} {p : Nat}
theorem res_take (h : (ap σ t).length ≤ 60) (hp : p < t.length) : resOk σ [] (t.take p) = true := by
 have := ap_len_take (σ := σ) hp
 exact decide_eq_true (by simp only [List.length_nil]; omega)
theorem take_ge (ho : TermW ar t) : (∀ i, i < (t.take p).length → -48 ≤ (t.take p).getD i 0) ∧ (t.take p).length ≤ 60 := by
 have := ho.len
 refine ⟨fun i hi => ?_, by rw [List.length_take]; omega⟩
 exact getD_all (fun x hx => ho.ge x (List.mem_of_mem_take hx)) hi
theorem W_ge (ho : TermW ar t) : (∀ i, i < t.length → -48 ≤ t.getD i 0) ∧ t.length ≤ 60 := ⟨fun i hi => ho.geD hi, ho.len.2⟩
end
noncomputable def pkF (ar : List Int) (rs : RulesT) (o p u : Nat) : Option PkT := if meetB ar rs o p u = true then peakF ar rs o p u else none
section
variable {ar : List Int} {rs : RulesT} {o p u : Nat} {b : RowL} {σ : Sbs}
theorem resX_eq {t : List Int} (h : resOk σ [] t = true) : resX σ [] t = ap σ t ∧ (ap σ t).length ≤ 60 := by
 refine ⟨by unfold resX; rw [if_pos h]; rfl, ?_⟩
 have := of_decide_eq_true h
 simpa using this
theorem resOk_false {t : List Int} (h : resOk σ [] t = false) : 60 < (ap σ t).length := by
 have := of_decide_eq_false h
 simpa using this
theorem pk_nomeet (h : meetB ar rs o p u = false) : pkF ar rs o p u = none := by unfold pkF; rw [if_neg (by rw [h]; simp)]
theorem pk_eq (hs : sysOk ar rs = true) (ho : o < rs.length) (hu : u < rs.length) (hmt : meetB ar rs o p u = true) (hm : MguP ar rs o p u b) (hσ : Sol b σ) : pkF ar rs o p u = peakOf ar rs o p u σ := by
 unfold pkF
 rw [if_pos hmt, peakF_eq hs ho hu hm hσ]
theorem left_len (hs : sysOk ar rs = true) (ho : o < rs.length) (hm : BOk ar b) (hσ : Sol b σ) : (ap σ (awayL (Rr rs u))).length ≤ (ap σ (leftT ar rs o p u)).length := by
 unfold leftT
 rw [ap_app, ap_app, List.length_append, List.length_append]; omega
theorem pk_long (hs : sysOk ar rs = true) (ho : o < rs.length) (hu : u < rs.length) (hmt : meetB ar rs o p u = true) (hm : MguP ar rs o p u b) (hσ : Sol b σ)
  (h : resOk σ [] (Lr rs o) = false ∨ resOk σ [] (Rr rs o) = false ∨ resOk σ [] (awayL (Rr rs u)) = false) : pkF ar rs o p u = none := by
 rw [pk_eq hs ho hu hmt hm hσ]
 unfold peakOf
 simp only
 rw [if_neg]
 rintro ⟨h1, h2, h3, _⟩
 rcases h with h | h | h
 ·have := resOk_false h; omega
 ·have := resOk_false h; omega
 ·have := resOk_false h; have := left_len (p := p) (u := u) hs ho hm.ok hσ; omega
theorem put_left (hs : sysOk ar rs = true) (ho : o < rs.length) (hp : p < (Lr rs o).length) (hm : BOk ar b) (hσ : Sol b σ) (h1 : resOk σ [] (Lr rs o) = true) (h3 : resOk σ [] (awayL (Rr rs u)) = true) :
  (resX σ [] (Lr rs o)).take (ap σ ((Lr rs o).take p)).length ++ resX σ [] (awayL (Rr rs u)) ++ (resX σ [] (Lr rs o)).drop (endN ar (resX σ [] (Lr rs o)) (ap σ ((Lr rs o).take p)).length) = ap σ (leftT ar rs o p u) := by
 rw [(resX_eq h1).1, (resX_eq h3).1, put_ap (hσ.good hm) (termW_of (rule_L hs ho)) hp]
 unfold leftT
 rw [ap_app, ap_app]
theorem pk_left (hs : sysOk ar rs = true) (ho : o < rs.length) (hu : u < rs.length) (hp : p < (Lr rs o).length) (hmt : meetB ar rs o p u = true) (hm : MguP ar rs o p u b) (hσ : Sol b σ) (h1 : resOk σ [] (Lr rs o) = true) (h3 : resOk σ [] (awayL (Rr rs u)) = true)
  (h4 : (putL ar (resX σ [] (Lr rs o)) (ap σ ((Lr rs o).take p)).length (resX σ [] (awayL (Rr rs u)))).isSome = false) : pkF ar rs o p u = none := by
 rw [pk_eq hs ho hu hmt hm hσ]
 unfold peakOf
 simp only
 rw [if_neg]
 rintro ⟨_, h2, _⟩
 unfold putL at h4
 rw [put_left hs ho hp hm.ok hσ h1 h3, if_neg (by omega)] at h4
 cases h4
theorem put_some (hs : sysOk ar rs = true) (ho : o < rs.length) (hp : p < (Lr rs o).length) (hm : BOk ar b) (hσ : Sol b σ) (h1 : resOk σ [] (Lr rs o) = true) (h3 : resOk σ [] (awayL (Rr rs u)) = true)
  (h4 : (putL ar (resX σ [] (Lr rs o)) (ap σ ((Lr rs o).take p)).length (resX σ [] (awayL (Rr rs u)))).isSome = true) :
  (putL ar (resX σ [] (Lr rs o)) (ap σ ((Lr rs o).take p)).length (resX σ [] (awayL (Rr rs u)))).getD [] = ap σ (leftT ar rs o p u) ∧ (ap σ (leftT ar rs o p u)).length ≤ 60 := by
 unfold putL at *
 rw [put_left hs ho hp hm hσ h1 h3] at *
 split at h4
 ·cases h4
 ·rename_i hl
  rw [if_neg hl]
  exact ⟨rfl, by omega⟩
theorem pk_rn (hs : sysOk ar rs = true) (ho : o < rs.length) (hu : u < rs.length) (hm : MguP ar rs o p u b) (hσ : Sol b σ) : rnL [] [ap σ (Lr rs o), ap σ (leftT ar rs o p u), ap σ (Rr rs o)] = [byL (orderL (ap σ (Lr rs o))) (ap σ (Lr rs o)), byL (orderL (ap σ (Lr rs o))) (ap σ (leftT ar rs o p u)), byL (orderL (ap σ (Lr rs o))) (ap σ (Rr rs o))] :=
 rn_three (left_vars hs ho hu hm hσ) (ap_mono hσ (rule_vars hs ho))
theorem pk_order (hs : sysOk ar rs = true) (ho : o < rs.length) (hu : u < rs.length) (hmt : meetB ar rs o p u = true) (hm : MguP ar rs o p u b) (hσ : Sol b σ) (h : 24 < (orderL (ap σ (Lr rs o))).length) : pkF ar rs o p u = none := by
 rw [pk_eq hs ho hu hmt hm hσ]
 unfold peakOf
 simp only
 rw [if_neg]
 rintro ⟨_, _, _, h4⟩
 omega
theorem pk_yes (hs : sysOk ar rs = true) (ho : o < rs.length) (hu : u < rs.length) (hmt : meetB ar rs o p u = true) (hm : MguP ar rs o p u b) (hσ : Sol b σ) (h1 : (ap σ (Lr rs o)).length ≤ 60) (h2 : (ap σ (leftT ar rs o p u)).length ≤ 60) (h3 : (ap σ (Rr rs o)).length ≤ 60) (h : (orderL (ap σ (Lr rs o))).length ≤ 24) :
  pkF ar rs o p u = some (byL (orderL (ap σ (Lr rs o))) (ap σ (Lr rs o)), byL (orderL (ap σ (Lr rs o))) (ap σ (leftT ar rs o p u)), byL (orderL (ap σ (Lr rs o))) (ap σ (Rr rs o)), (p : Int), (u : Int), (o : Int)) := by
 rw [pk_eq hs ho hu hmt hm hσ]
 unfold peakOf
 simp only
 rw [if_pos ⟨h1, h2, h3, h⟩]
theorem take_lt {l : List Int} (g : GoodS ar σ) (hp : p < l.length) : (ap σ (l.take p)).length < (ap σ l).length := by
 have h := ap_len_take (σ := σ) hp
 have := g.pos (x := l.getD p 0)
 omega
end
end Go.Proofs.YtcdjpapjjoldeaaGreat.M
namespace Go.Proofs.YtcdjpapjjoldeaaGreat.X
open Go
theorem DeepL.unsnoc {α : Type} {s : Nat} {R : List Value → α → List HP → Prop} {cs : List Value} {xs : List α} {x : α} {L : List HP} (h : DeepL s R cs (xs ++ [x]) L) : ∃ cs' es K L', cs = cs' ++ es ∧ L = L' ++ K ∧ DeepL s R cs' xs L' ∧ R es x K := by
 generalize e : xs ++ [x] = ys at h
 cases h with
 | nil => simp at e
 | snoc h hl hr =>
  obtain ⟨rfl, e2⟩ := List.append_inj' e rfl
  obtain rfl := (List.cons.inj e2).1
  exact ⟨_, _, _, _, rfl, rfl, h, hr⟩
theorem DeepL.unnil {α : Type} {s : Nat} {R : List Value → α → List HP → Prop} {cs : List Value} {L : List HP} (h : DeepL s R cs [] L) : cs = [] ∧ L = [] := by
 generalize e : ([] : List α) = ys at h
 cases h with
 | nil => exact ⟨rfl, rfl⟩
 | snoc h hl hr => simp at e
theorem DeepL.three {e : TypeId} {cs : List Value} {x y z : List Int} {L : List HP} (h : DeepL 1 (RowO e) cs [x, y, z] L) : ∃ a b c, cs = [a, b, c] ∧ L = [intsH e a x, intsH e b y, intsH e c z] := by
 obtain ⟨c1, e1, k1, l1, rfl, rfl, h1, c, rfl, rfl⟩ := DeepL.unsnoc (xs := [x, y]) (x := z) h
 obtain ⟨c2, e2, k2, l2, rfl, rfl, h2, b, rfl, rfl⟩ := DeepL.unsnoc (xs := [x]) (x := y) h1
 obtain ⟨c3, e3, k3, l3, rfl, rfl, h3, a, rfl, rfl⟩ := DeepL.unsnoc (xs := []) (x := x) h2
 obtain ⟨rfl, rfl⟩ := h3.unnil
 exact ⟨a, b, c, rfl, rfl⟩
theorem nil3 {e : TypeId} : star [intsH e (.slice none 0 0) [], intsH e (.slice none 0 0) [], intsH e (.slice none 0 0) []] [] := ⟨[], [], nilLeaf, ⟨[], [], nilLeaf, ⟨[], [], nilLeaf, rfl, rfl⟩, rfl⟩, rfl⟩
theorem RowsC.three {F : FH} {a b c : Value} {x y z : List Int} (h : RowsC F [a, b, c] [x, y, z]) : IntsF F a x ∧ IntsF F b y ∧ IntsF F c z := by
 obtain ⟨a1, h1, e1⟩ := h.get (i := 0) (by simp)
 obtain ⟨b1, h2, e2⟩ := h.get (i := 1) (by simp)
 obtain ⟨c1, h3, e3⟩ := h.get (i := 2) (by simp)
 simp only [List.getElem?_cons_zero, List.getElem?_cons_succ, Option.some.injEq] at e1 e2 e3
 subst e1 e2 e3
 exact ⟨h1, h2, h3⟩
end Go.Proofs.YtcdjpapjjoldeaaGreat.X
namespace Go.Proofs.YtcdjpapjjoldeaaGreat.M
abbrev Tr := Nat × Nat × Nat
section
variable (ar : List Int) (rs : RulesT)
noncomputable def mU (o p : Nat) : Nat → List Tr
 | 0 => []
 | u + 1 => mU o p u ++ if 0 ≤ (Lr rs o).getD p 0 ∧ meetB ar rs o p u = true then [(o, p, u)] else []
noncomputable def mP (o : Nat) : Nat → List Tr
 | 0 => []
 | p + 1 => mP o p ++ mU ar rs o p rs.length
noncomputable def mO : Nat → List Tr
 | 0 => []
 | o + 1 => mO o ++ mP ar rs o (Lr rs o).length
noncomputable def meetsL : List Tr := mO ar rs rs.length
noncomputable def pkD (m : Tr) : PkT := (pkF ar rs m.1 m.2.1 m.2.2).getD P0
open Classical in
noncomputable def peaksF : Option (List PkT) := if (∀ m ∈ meetsL ar rs, (pkF ar rs m.1 m.2.1 m.2.2).isSome = true) ∧ (meetsL ar rs).length ≤ 64 then some ((meetsL ar rs).map (pkD ar rs)) else none
end
section
variable {ar : List Int} {rs : RulesT} {o p u k n : Nat} {ms : List Tr} {os : List PkT} {m : Tr}
theorem pre_U (h : k ≤ n) : mU ar rs o p k <+: mU ar rs o p n := by
 induction n with
 | zero =>
  obtain rfl : k = 0 := by omega
  exact List.prefix_refl _
 | succ n ih =>
  rcases Nat.lt_or_ge n k with hk | hk
  ·obtain rfl : k = n + 1 := by omega
   exact List.prefix_refl _
  ·exact (ih hk).trans (List.prefix_append _ _)
theorem pre_P (h : k ≤ n) : mP ar rs o k <+: mP ar rs o n := by
 induction n with
 | zero =>
  obtain rfl : k = 0 := by omega
  exact List.prefix_refl _
 | succ n ih =>
  rcases Nat.lt_or_ge n k with hk | hk
  ·obtain rfl : k = n + 1 := by omega
   exact List.prefix_refl _
  ·exact (ih hk).trans (List.prefix_append _ _)
theorem pre_O (h : k ≤ n) : mO ar rs k <+: mO ar rs n := by
 induction n with
 | zero =>
  obtain rfl : k = 0 := by omega
  exact List.prefix_refl _
 | succ n ih =>
  rcases Nat.lt_or_ge n k with hk | hk
  ·obtain rfl : k = n + 1 := by omega
   exact List.prefix_refl _
  ·exact (ih hk).trans (List.prefix_append _ _)
theorem meets_pre (ho : o < rs.length) (hp : p < (Lr rs o).length) (hu : u < rs.length) : mO ar rs o ++ mP ar rs o p ++ mU ar rs o p (u + 1) <+: meetsL ar rs := by
 have h1 : mO ar rs o ++ mP ar rs o p ++ mU ar rs o p (u + 1) <+: mO ar rs o ++ mP ar rs o (p + 1) := by
  rw [List.append_assoc, mP]
  exact (List.prefix_append_right_inj _).2 ((List.prefix_append_right_inj _).2 (pre_U (by omega)))
 have h2 : mO ar rs o ++ mP ar rs o (p + 1) <+: mO ar rs (o + 1) := by
  rw [mO]
  exact (List.prefix_append_right_inj _).2 (pre_P (by omega))
 exact h1.trans (h2.trans (pre_O (by omega)))
theorem mU_yes (h0 : 0 ≤ (Lr rs o).getD p 0) (h : meetB ar rs o p u = true) : mU ar rs o p (u + 1) = mU ar rs o p u ++ [(o, p, u)] := by rw [mU, if_pos ⟨h0, h⟩]
theorem mU_no (h : ¬ (0 ≤ (Lr rs o).getD p 0 ∧ meetB ar rs o p u = true)) : mU ar rs o p (u + 1) = mU ar rs o p u := by rw [mU, if_neg h, List.append_nil]
def PkI (ar : List Int) (rs : RulesT) (ms : List Tr) (os : List PkT) : Prop := (∀ m ∈ ms, (pkF ar rs m.1 m.2.1 m.2.2).isSome = true) ∧ ms.length ≤ 64 ∧ os = ms.map (pkD ar rs)
theorem PkI.start : PkI ar rs [] [] := ⟨fun _ h => (by cases h), by simp, rfl⟩
theorem PkI.len (h : PkI ar rs ms os) : os.length = ms.length ∧ os.length ≤ 64 := by
 have := h.2.1
 rw [h.2.2, List.length_map]; omega
theorem PkI.next (h : PkI ar rs ms os) (h1 : (pkF ar rs o p u).isSome = true) (h2 : os.length ≠ 64) : PkI ar rs (ms ++ [(o, p, u)]) (os ++ [(pkF ar rs o p u).getD P0]) := by
 obtain ⟨a, b, c⟩ := h
 have hl : os.length = ms.length := by rw [c, List.length_map]
 refine ⟨fun m hm => ?_, by rw [List.length_append, List.length_singleton]; omega, by rw [List.map_append, c]; rfl⟩
 rcases List.mem_append.1 hm with hm | hm
 ·exact a m hm
 ·rw [List.mem_singleton.1 hm]; exact h1
theorem peaks_yes (h : PkI ar rs (meetsL ar rs) os) : peaksF ar rs = some os := by
 classical
 unfold peaksF
 rw [if_pos ⟨h.1, h.2.1⟩, h.2.2]
theorem peaks_no (hp : ms ++ [(o, p, u)] <+: meetsL ar rs) (h : PkI ar rs ms os) (hf : (pkF ar rs o p u).isSome = false ∨ os.length = 64) : peaksF ar rs = none := by
 classical
 unfold peaksF
 rw [if_neg]
 rintro ⟨h1, h2⟩
 rcases hf with hf | hf
 ·have := h1 (o, p, u) (hp.subset (by simp))
  rw [hf] at this; cases this
 ·have := hp.length_le
  have hl := h.len.1
  rw [List.length_append, List.length_singleton] at this; omega
theorem peaks_len (h : peaksF ar rs = some os) : os.length ≤ 64 := by
 classical
 unfold peaksF at h
 split at h
 ·rename_i hc
  simp only [Option.some.injEq] at h
  rw [← h, List.length_map]; exact hc.2
 ·cases h
end
end Go.Proofs.YtcdjpapjjoldeaaGreat.M
namespace Go.Proofs.YtcdjpapjjoldeaaGreat.X
open Go
abbrev PeakT := List Int × List Int × List Int × Int × Int × Int
def PeakF (F : FH) (es : List Value) (x : PeakT) : Prop := ∃ a0 a1 a2, es = [a0, a1, a2, .int .i64 x.2.2.2.1, .int .i64 x.2.2.2.2.1, .int .i64 x.2.2.2.2.2] ∧ IntsF F a0 x.1 ∧ IntsF F a1 x.2.1 ∧ IntsF F a2 x.2.2.1
theorem PeakF.mono {F F' : FH} (le : F ≤ F') (es : List Value) (x : PeakT) (h : PeakF F es x) : PeakF F' es x := by
 obtain ⟨a0, a1, a2, e, h0, h1, h2⟩ := h
 exact ⟨a0, a1, a2, e, h0.mono le, h1.mono le, h2.mono le⟩
def PeaksF : FH → Value → List PeakT → Prop := SlOf 6 PeakF ([], [], [], 0, 0, 0)
theorem PeaksF.mono {F F' : FH} {v : Value} {xs : List PeakT} (h : PeaksF F v xs) (le : F ≤ F') : PeaksF F' v xs := SlOf.mono (PeakF.mono le) h le
theorem PeaksF.slv {F : FH} {L : List HP} {v : Value} {xs : List PeakT} (h : PeaksF F v xs) : SlV F L v xs.length := SlOf.slv h
theorem PeaksF.isSl {F : FH} {v : Value} {xs : List PeakT} (h : PeaksF F v xs) : IsSl v := by obtain ⟨_, h, _⟩ := h; exact h.isSl
theorem PeaksF.rd {F : FH} {v : Value} {xs : List PeakT} (h : PeaksF F v xs) {i : Nat} (hi : i < xs.length) : ∃ a0 a1 a2, IntsF F a0 (xs.getD i ([], [], [], 0, 0, 0)).1 ∧ IntsF F a1 (xs.getD i ([], [], [], 0, 0, 0)).2.1 ∧ IntsF F a2 (xs.getD i ([], [], [], 0, 0, 0)).2.2.1 ∧ (∀ L j u, ([a0, a1, a2, .int .i64 (xs.getD i ([], [], [], 0, 0, 0)).2.2.2.1, .int .i64 (xs.getD i ([], [], [], 0, 0, 0)).2.2.2.2.1, .int .i64 (xs.getD i ([], [], [], 0, 0, 0)).2.2.2.2.2] : List Value)[j]? = some u → Rd F L (elemA v (i * 6 + j)) u) ∧ True := by
 obtain ⟨es, hl, ⟨a0, a1, a2, rfl, h0, h1, h2⟩, hr⟩ := SlOf.get h hi
 exact ⟨a0, a1, a2, h0, h1, h2, hr, trivial⟩
def PeaksC (F : FH) (cs : List Value) (xs : List PeakT) : Prop := CO 6 PeakF ([], [], [], 0, 0, 0) F cs xs
theorem PeaksC.mono {F F' : FH} {cs : List Value} {xs : List PeakT} (h : PeaksC F cs xs) (le : F ≤ F') : PeaksC F' cs xs := CO.mono (PeakF.mono le) h
theorem PeaksC.snoc {F : FH} {cs : List Value} {xs : List PeakT} {a0 a1 a2 : Value} {y0 : List Int} {y1 : List Int} {y2 : List Int} {y3 : Int} {y4 : Int} {y5 : Int} (h : PeaksC F cs xs) (h0 : IntsF F a0 y0) (h1 : IntsF F a1 y1) (h2 : IntsF F a2 y2) : PeaksC F (cs ++ [a0, a1, a2, .int .i64 y3, .int .i64 y4, .int .i64 y5]) (xs ++ [(y0, y1, y2, y3, y4, y5)]) := CO.snoc h rfl ⟨a0, a1, a2, rfl, h0, h1, h2⟩
theorem PeaksC.get {F : FH} {cs : List Value} {xs : List PeakT} (h : PeaksC F cs xs) {i : Nat} (hi : i < xs.length) : ∃ a0 a1 a2, IntsF F a0 (xs.getD i ([], [], [], 0, 0, 0)).1 ∧ IntsF F a1 (xs.getD i ([], [], [], 0, 0, 0)).2.1 ∧ IntsF F a2 (xs.getD i ([], [], [], 0, 0, 0)).2.2.1 ∧ (∀ j u, ([a0, a1, a2, .int .i64 (xs.getD i ([], [], [], 0, 0, 0)).2.2.2.1, .int .i64 (xs.getD i ([], [], [], 0, 0, 0)).2.2.2.2.1, .int .i64 (xs.getD i ([], [], [], 0, 0, 0)).2.2.2.2.2] : List Value)[j]? = some u → cs[i * 6 + j]? = some u) := by
 obtain ⟨es, hl, ⟨a0, a1, a2, rfl, h0, h1, h2⟩, hr⟩ := CO.get h hi
 exact ⟨a0, a1, a2, h0, h1, h2, hr⟩
def PeakO (e : TypeId) (es : List Value) (x : PeakT) (K : List HP) : Prop := ∃ a b c, es = [a, b, c, .int .i64 x.2.2.2.1, .int .i64 x.2.2.2.2.1, .int .i64 x.2.2.2.2.2] ∧ K = [intsH e a x.1, intsH e b x.2.1, intsH e c x.2.2.1]
abbrev peaksD (e E : TypeId) (v : Value) (xs : List PeakT) : HP := deepH 6 (PeakO e) E v xs
section
variable {e E : TypeId} {F G : FH} {v : Value} {cs : List Value} {xs : List PeakT} {L : List HP}
theorem PeakO.fz (es : List Value) (x : PeakT) (K : List HP) (h : PeakO e es x K) (hz : ∃ l, star K l ∧ ∀ p ∈ l, F.cells p.1 = some p.2) : PeakF F es x := by
 obtain ⟨a, b, c, rfl, rfl⟩ := h
 exact ⟨a, b, c, rfl, intsH.fz (E := e) (frozen_star hz _ (by simp)), intsH.fz (E := e) (frozen_star hz _ (by simp)), intsH.fz (E := e) (frozen_star hz _ (by simp))⟩
theorem peaksD.fz (h : Fz (peaksD e E v xs) F) : PeaksF F v xs := deepH.fz PeakO.fz h
theorem DeepL.peaks (h : DeepL 6 (PeakO e) cs xs L) (hz : Fresh G F (star L)) : PeaksC F cs xs := h.co PeakO.fz (let ⟨m, h1, _, h3⟩ := hz; ⟨m, h1, fun p hp => (h3 p hp).2⟩)
theorem nilPeaksD : peaksD e E (.slice none 0 0) [] [] := ⟨[], [], DeepL.nil, [], [], slH_nil E 6 none, rfl, rfl⟩
end
def PKJ {ι : Type} (F0 : FH) (e ES T : TypeId) (bw : Nat) (tl : List HP) (I : List ι → List PeakT → Prop) (ms : List ι) (Fy : FH) (Ly : List HP) : Prop :=
 ∃ (sv : Value) (os : List PeakT) (cs : List Value) (Ls : List HP) (m : Nat), IsSl sv ∧ PeaksC Fy cs os ∧ m = os.length ∧ DeepL 6 (PeakO e) cs os Ls ∧ Fresh F0 Fy (star Ls) ∧ I ms os ∧ Ly = cellsH bw [sv] T :: slH ES 6 sv m cs :: tl
theorem PKJ.start {ι : Type} {F0 F : FH} {e ES T : TypeId} {bw : Nat} {tl : List HP} {I : List ι → List PeakT → Prop} {b : Option Addr} (h : I [] []) : PKJ F0 e ES T bw tl I [] F (cellsH bw [.slice b 0 0] T :: slH ES 6 (.slice b 0 0) 0 [] :: tl) :=
 ⟨_, [], [], [], 0, ⟨_, _, _, rfl⟩, CO.nil, rfl, .nil, .nilL, h, rfl⟩
theorem PKJ.mono {ι : Type} {F0 F F' : FH} {e ES T : TypeId} {bw : Nat} {tl L : List HP} {I : List ι → List PeakT → Prop} {ms : List ι} (h : PKJ F0 e ES T bw tl I ms F L) (le : F ≤ F') : PKJ F0 e ES T bw tl I ms F' L :=
 let ⟨sv, ss, cs, Ls, m, h1, h2, h3, h4, h5, h6, h7⟩ := h
 ⟨sv, ss, cs, Ls, m, h1, h2.mono le, h3, h4, h5.mono le, h6, h7⟩
section
variable {P : Program} {n : Nat} {r0 : Option Nat} {d0 : List Deferred} {ops : Array Oper} {l : List Oper} {Q : QX} {ρ : Env} {F : FH} {L : List HP}
theorem XIL.yieldY {k : Nat} {d : Option Tmp} {c : Operand} {as : List Operand} {ts : Array TypeId} {ty : TypeId} {pos : String} {af : Array Edge} {args : List Value} {g : Nat} {t : Tmp} {b : Bool} (ht : (ops[g]?).bind (·.dst) = some t) (hv : ρ t = .bool b)
  (hc : evO ρ c = .func (.yield k) #[] #[]) (ha : as.map (evO ρ) = args)
  (h : Yld P k args F L fun v F' L' => XIL P n r0 d0 ops l Q (putE ρ d v) F' L') :
  XIL P n r0 d0 ops (⟨d, .call { callee := .value c, args := as.toArray, argTypes := ts }, ty, pos, af, some (g, b)⟩ :: l) Q ρ F L := by
 intro ok a w r H
 simp only [opsOkI, List.all_cons, Bool.and_eq_true] at ok
 unfold wpListIn
 rw [if_pos (by simp [Region.wanted, yielded_of_repD r ht hv])]
 refine ⟨fun _ _ => trivial, ?_⟩
 rw [Oper.semAt_eq _ _ _ (by simp), r.eval]
 obtain ⟨fn, tmps, assign, body, hy, hr⟩ := h w H
 have e : (execOp (evO ρ) ⟨d, .call { callee := .value c, args := as.toArray, argTypes := ts }, ty, pos, af, some (g, b)⟩).run P w = .ok (.round k fn tmps assign body) w := by
  subst ha
  simp [execOp, resolve, hc, Deferred.ofValue, invoke, hy, Sem.run_bind, Sem.run_pure, Result.andThen]
 rw [e]
 refine ⟨fun _ => by decide, (roundIn_FR hr).mono ?_⟩
 rintro e w'' ⟨v, F', L', rfl, le, H', hk⟩
 exact wpListIn_mono (fun _ _ _ q => lowI_le le q) _ _ _ (hk ok.2 _ _ (r.put ok.1.1 v) H')
end
end Go.Proofs.YtcdjpapjjoldeaaGreat.X
namespace Go.Proofs.YtcdjpapjjoldeaaGreat.M
section
variable {t u x : List Int} {b : RowL} {σ : Sbs} {ρ : Int → Nat} {n m : Int} {i : Nat} {sn : List Bool} {td : RowL}
def Mk (sn : List Bool) (m : Int) : Prop := sn.getD (varIx m) false = true
def Hd1 (b : RowL) (n : Int) (sn : List Bool) (y : Int) : Prop := y ≠ n ∧ (y < 0 → lkN b y ≠ [] → Mk sn y)
def Hd (b : RowL) (n : Int) (sn : List Bool) (x : List Int) : Prop := ∀ y ∈ x, Hd1 b n sn y
structure OccI (b : RowL) (σ : Sbs) (n : Int) (t : List Int) (sn : List Bool) (td : RowL) : Prop where
 len : sn.length = 48
 sound : ∀ x ∈ td, n ∈ ap σ x → n ∈ ap σ t
 all : ∀ x, (x = t ∨ ∃ m, m < 0 ∧ Mk sn m ∧ lkN b m ≠ [] ∧ x = lkN b m) → x ∈ td ∨ Hd b n sn x
structure OccJ (b : RowL) (σ : Sbs) (n : Int) (t u : List Int) (i : Nat) (sn : List Bool) (td : RowL) : Prop where
 len : sn.length = 48
 sound : ∀ x ∈ td, n ∈ ap σ x → n ∈ ap σ t
 us : n ∈ ap σ u → n ∈ ap σ t
 all : ∀ x, (x = t ∨ ∃ m, m < 0 ∧ Mk sn m ∧ lkN b m ≠ [] ∧ x = lkN b m) → x ∈ td ∨ Hd b n sn x ∨ x = u
 done : ∀ k, k < i → Hd1 b n sn (u.getD k 0)
theorem Mk.set (hl : sn.length = 48) (hm : m < 0) (hg : -48 ≤ m) (hy : n < 0) : Mk (sn.set (varIx m) true) n ↔ n = m ∨ Mk sn n := set_mark hl hm hg hy
theorem Hd1.mono (h : Hd1 b n sn m) (hl : sn.length = 48) {k : Int} (hk : k < 0) (hg : -48 ≤ k) : Hd1 b n (sn.set (varIx k) true) m := ⟨h.1, fun h0 hb => (Mk.set hl hk hg h0).2 (.inr (h.2 h0 hb))⟩
theorem OccI.start : OccI b σ n t (List.replicate 48 false) [t] :=
 ⟨by simp, fun x hx h => by rw [List.mem_singleton.1 hx] at h; exact h, fun x hx => by
  rcases hx with rfl | ⟨m, h0, hm, _⟩
  ·exact .inl (by simp)
  ·exfalso
   unfold Mk at hm
   simp only [List.getD, List.getElem?_replicate] at hm
   split at hm <;> simp at hm⟩
theorem OccI.pop (h : OccI b σ n t sn td) (hp : 0 < td.length) : OccJ b σ n t (td.getD (td.length - 1) []) 0 sn (td.take (td.length - 1)) := by
 have e : td = td.take (td.length - 1) ++ [td.getD (td.length - 1) []] := by
  have := take_succ_getD (l := td) (k := td.length - 1) ([] : List Int) (by omega)
  rw [Nat.sub_add_cancel hp, List.take_length] at this
  exact this
 have hmem : td.getD (td.length - 1) [] ∈ td := by
  have hlt : td.length - 1 < td.length := by omega
  simp only [List.getD, List.getElem?_eq_getElem hlt, Option.getD_some]
  exact List.getElem_mem hlt
 refine ⟨h.len, fun x hx => h.sound x (List.mem_of_mem_take hx), h.sound _ hmem, fun x hx => ?_, fun k hk => absurd hk (by omega)⟩
 rcases h.all x hx with h1 | h1
 ·rw [e] at h1
  rcases List.mem_append.1 h1 with h1 | h1
  ·exact .inl h1
  ·exact .inr (.inr (List.mem_singleton.1 h1))
 ·exact .inr (.inl h1)
theorem OccJ.found (h : OccJ b σ n t u i sn td) (hσ : Sol b σ) (hf : lkN b n = []) (hi : i < u.length) (he : u.getD i 0 = n) : n ∈ ap σ t := h.us (occ_here hf hσ hi he)
theorem OccJ.skip (h : OccJ b σ n t u i sn td) (hne : u.getD i 0 ≠ n) (hs : 0 ≤ u.getD i 0 ∨ Mk sn (u.getD i 0) ∨ lkN b (u.getD i 0) = []) : OccJ b σ n t u (i + 1) sn td :=
 ⟨h.len, h.sound, h.us, h.all, fun k hk => (Nat.lt_or_ge k i).elim (fun hlt => h.done k hlt) (fun hge => by
  obtain rfl : k = i := by omega
  exact ⟨hne, fun h0 hb => by
   rcases hs with h1 | h1 | h1
   ·omega
   ·exact h1
   ·exact absurd h1 hb⟩)⟩
theorem OccJ.push (h : OccJ b σ n t u i sn td) (hσ : Sol b σ) (hi : i < u.length) (hne : u.getD i 0 ≠ n) (h0 : u.getD i 0 < 0) (hg : -48 ≤ u.getD i 0) (hb : lkN b (u.getD i 0) ≠ []) :
  OccJ b σ n t u (i + 1) (sn.set (varIx (u.getD i 0)) true) (td ++ [lkN b (u.getD i 0)]) := by
 refine ⟨by rw [List.length_set]; exact h.len, fun x hx hn => ?_, h.us, fun x hx => ?_, fun k hk => ?_⟩
 ·rcases List.mem_append.1 hx with hx | hx
  ·exact h.sound x hx hn
  ·rw [List.mem_singleton.1 hx] at hn; exact h.us (occ_in hσ hi rfl hb hn)
 ·have old : (x = t ∨ ∃ m, m < 0 ∧ Mk sn m ∧ lkN b m ≠ [] ∧ x = lkN b m) → x ∈ td ++ [lkN b (u.getD i 0)] ∨ Hd b n (sn.set (varIx (u.getD i 0)) true) x ∨ x = u := fun hx => by
   rcases h.all x hx with h1 | h1 | h1
   ·exact .inl (by simp [h1])
   ·exact .inr (.inl fun y hy => (h1 y hy).mono h.len h0 hg)
   ·exact .inr (.inr h1)
  rcases hx with hx | ⟨m, hm0, hm, hmb, hx⟩
  ·exact old (.inl hx)
  ·rcases (Mk.set h.len h0 hg hm0).1 hm with rfl | hm
   ·exact .inl (by rw [hx]; simp)
   ·exact old (.inr ⟨m, hm0, hm, hmb, hx⟩)
 ·rcases Nat.lt_or_ge k i with hlt | hge
  ·exact (h.done k hlt).mono h.len h0 hg
  ·obtain rfl : k = i := by omega
   exact ⟨hne, fun _ _ => (Mk.set h.len h0 hg h0).2 (.inl rfl)⟩
theorem OccJ.stop (h : OccJ b σ n t u i sn td) (hi : i = u.length) : OccI b σ n t sn td := by
 refine ⟨h.len, h.sound, fun x hx => ?_⟩
 rcases h.all x hx with h1 | h1 | rfl
 ·exact .inl h1
 ·exact .inr h1
 ·refine .inr fun y hy => ?_
  obtain ⟨k, hk, rfl⟩ := List.getElem_of_mem hy
  have := h.done k (by omega)
  simpa [List.getD, hk] using this
theorem OccI.none (h : OccI b σ n t sn []) (hσ : Sol b σ) (ha : Acyc b ρ) (hn : n < 0) : n ∉ ap σ t := by
 have hall : ∀ x, (x = t ∨ ∃ m, m < 0 ∧ Mk sn m ∧ lkN b m ≠ [] ∧ x = lkN b m) → Hd b n sn x := fun x hx => (h.all x hx).resolve_left (by simp)
 have key : ∀ (r : Nat) (y : Int), y < 0 → ρ y = r → Hd1 b n sn y → n ∉ σ y := by
  intro r
  induction r using Nat.strongRecOn with
  | _ r ih =>
   intro y hy hr h1 hc
   by_cases hb : lkN b y = []
   ·rw [hσ.free hb] at hc; exact h1.1 (List.mem_singleton.1 hc).symm
   ·rw [hσ.bound hb] at hc
    obtain ⟨z, hz, hnz⟩ := mem_ap.1 hc
    have hz1 := hall _ (.inr ⟨y, hy, h1.2 hy hb, hb, rfl⟩) z hz
    rcases Int.lt_or_le z 0 with h0 | h0
    ·exact ih (ρ z) (by have := ha y hy z hz h0; omega) z h0 rfl hz1 hnz
    ·exact sym_no hσ hn h0 hnz
 intro hc
 obtain ⟨y, hy, hny⟩ := mem_ap.1 hc
 have hy1 := hall t (.inl rfl) y hy
 rcases Int.lt_or_le y 0 with h0 | h0
 ·exact key _ y h0 rfl hy1 hny
 ·exact sym_no hσ hn h0 hny
def unm (sn : List Bool) : Nat := sn.countP fun x => !x
theorem unm_set : ∀ {sn : List Bool} {i : Nat}, i < sn.length → sn.getD i false = false → unm (sn.set i true) + 1 = unm sn
 | [], i, h, _ => by simp at h
 | x :: sn, 0, h, he => by
  simp only [List.getD_cons_zero] at he
  subst he
  simp [unm]
 | x :: sn, i + 1, h, he => by
  have := unm_set (sn := sn) (i := i) (by simpa using h) (by simpa using he)
  simp only [unm, List.set_cons_succ, List.countP_cons] at this ⊢
  omega
theorem unm_start : unm (List.replicate 48 false) = 48 := by decide
end
def gM : Nat → Nat → Nat
 | 0, s => s
 | u + 1, s => s + 1 + gM u (s * s)
theorem gM_mono : ∀ (u : Nat) {s r : Nat}, s ≤ r → gM u s ≤ gM u r
 | 0, s, r, h => h
 | u + 1, s, r, h => by
  have := gM_mono u (Nat.mul_le_mul h h)
  simp only [gM]; omega
theorem gM_lt (u : Nat) {s r : Nat} (h : s < r) : gM u s < gM u r := by
 cases u with
 | zero => exact h
 | succ u =>
  have := gM_mono u (Nat.mul_le_mul (Nat.le_of_lt h) (Nat.le_of_lt h))
  simp only [gM]; omega
theorem gM_fewer : ∀ {k u s r : Nat}, k < u → r ≤ s * s → 1 ≤ s → gM k r < gM u s
 | k, 0, s, r, h, _, _ => absurd h (by omega)
 | k, u + 1, s, r, h, hr, hs => by
  rcases Nat.lt_or_ge k u with hk | hk
  ·have := gM_fewer (k := k) (u := u) (s := s * s) (r := r) hk (Nat.le_trans hr (Nat.le_mul_of_pos_left _ (Nat.mul_pos hs hs))) (Nat.mul_pos hs hs)
   simp only [gM]; omega
  ·obtain rfl : k = u := by omega
   have := gM_mono k hr
   simp only [gM]; omega
def szL (σ : Sbs) (l : RowL) : Nat := (l.map fun x => (ap σ x).length).sum
section
variable {ar A C t w : List Int} {b b1 : RowL} {σ σ1 θ : Sbs} {n z : Int} {l r : RowL}
theorem sol_free (hb : BOk ar b) (hσ : Sol b σ) : ∀ n, ∀ z ∈ σ n, z < 0 → lkN b z = [] := by
 obtain ⟨ρ, ha⟩ := hb.acyc
 have key : ∀ (r : Nat) (n : Int), n < 0 → ρ n = r → ∀ z ∈ σ n, z < 0 → lkN b z = [] := by
  intro r
  induction r using Nat.strongRecOn with
  | _ r ih =>
   intro n hn hr z hz h0
   by_cases hl : lkN b n = []
   ·rw [hσ.free hl] at hz; rw [List.mem_singleton.1 hz]; exact hl
   ·rw [hσ.bound hl] at hz
    obtain ⟨y, hy, hyz⟩ := mem_ap.1 hz
    rcases Int.lt_or_le y 0 with hy0 | hy0
    ·exact ih (ρ y) (by have := ha n hn y hy hy0; omega) y hy0 rfl z hyz h0
    ·rw [hσ.sym hy0] at hyz; have := List.mem_singleton.1 hyz; omega
 intro n z hz h0
 rcases Int.lt_or_le n 0 with hn | hn
 ·exact key _ n hn rfl z hz h0
 ·rw [hσ.sym hn] at hz; have := List.mem_singleton.1 hz; omega
theorem ap_len_le {N : Nat} (h : ∀ z ∈ t, (θ z).length ≤ N) : (ap θ t).length ≤ t.length * N := by
 induction t with
 | nil => simp
 | cons x t ih =>
  have h1 := h x (by simp)
  have h2 := ih fun z hz => h z (by simp [hz])
  rw [ap_cons, List.length_append, List.length_cons, Nat.succ_mul]
  omega
theorem ap_self (h : ∀ z ∈ t, θ z = [z]) : ap θ t = t := by
 induction t with
 | nil => rfl
 | cons x t ih => rw [ap_cons, h x (by simp), ih fun z hz => h z (by simp [hz])]; rfl
theorem bind_len (hb : BOk ar b) (hσ : Sol b σ) (hn : n < 0) (hg : -48 ≤ n) (hf : lkN b n = []) (ht : TermW ar t) (hno : n ∉ ap σ t) (h1 : Sol (b.set (varIx n) t) σ1) : (ap σ1 w).length ≤ (ap σ w).length * (ap σ t).length := by
 have hb1 := hb.bind hσ hn hg hf ht hno
 have g := hσ.good hb
 have g1 := h1.good hb1
 have hs := ((SatB.bind (θ := σ1) hb.len hn hg hf ht.ne).1 h1.sat).1
 have hst := ((SatB.bind (θ := σ1) hb.len hn hg hf ht.ne).1 h1.sat).2
 have hfr : ∀ z, z ≠ n → (z < 0 → lkN b z = []) → σ1 z = [z] := by
  intro z hz h0
  rcases Int.lt_or_le z 0 with hz0 | hz0
  ·exact h1.free (by rw [lkN_set hb.len hn hg, if_neg hz]; exact h0 hz0)
  ·exact h1.sym hz0
 have e1 : ap σ1 t = ap σ t := by
  rw [← hσ.most_t hb g1 hs]
  refine ap_self fun z hz => hfr z (fun e => hno (e ▸ hz)) fun h0 => ?_
  obtain ⟨y, _, hy⟩ := mem_ap.1 hz
  exact sol_free hb hσ y z hy h0
 have hpos : 1 ≤ (ap σ t).length := by have := g.len (t := t); have := ht.len; omega
 rw [← hσ.most_t hb g1 hs]
 refine ap_len_le fun z hz => ?_
 by_cases e : z = n
 ·rw [e, hst, e1]; exact Nat.le_refl _
 ·rw [hfr z e fun h0 => by obtain ⟨y, _, hy⟩ := mem_ap.1 hz; exact sol_free hb hσ y z hy h0]; exact hpos
theorem szL_app : szL σ (l ++ r) = szL σ l + szL σ r := by simp [szL]
theorem szL_one : szL σ [w] = (ap σ w).length := by simp [szL]
theorem szL_mul {N : Nat} (h : ∀ x ∈ l, (ap σ1 x).length ≤ (ap σ x).length * N) : szL σ1 l ≤ szL σ l * N := by
 induction l with
 | nil => simp [szL]
 | cons x l ih =>
  have h1 := h x (by simp)
  have h2 := ih fun y hy => h y (by simp [hy])
  simp only [szL, List.map_cons, List.sum_cons, Nat.add_mul] at h2 ⊢
  omega
theorem szL_flat : szL σ l = (ap σ l.flatten).length := by
 induction l with
 | nil => rfl
 | cons x l ih => simp only [szL, List.map_cons, List.sum_cons, List.flatten_cons, ap_app, List.length_append] at ih ⊢; rw [ih]
structure MeetI (ar A C : List Int) (b l r : RowL) : Prop where
 ok : BOk ar b
 same : l.length = r.length
 lw : ∀ x ∈ l, TermW ar x
 rw' : ∀ x ∈ r, TermW ar x
 iff : ∀ θ, GoodS ar θ → (ap θ A = ap θ C ↔ SatB b θ ∧ ∀ i, i < l.length → ap θ (l.getD i []) = ap θ (r.getD i []))
theorem MeetI.start (hA : TermW ar A) (hC : TermW ar C) : MeetI ar A C (List.replicate 48 []) [A] [C] :=
  ⟨BOk.nils, rfl, fun x hx => by rw [List.mem_singleton.1 hx]; exact hA, fun x hx => by rw [List.mem_singleton.1 hx]; exact hC,
   fun θ g => ⟨fun h => ⟨SatB.nils, fun i hi => (by
      have h0 : i = 0 := by have : i < 1 := hi; omega
      rw [h0]; exact h)⟩, fun h => h.2 0 (by simp)⟩⟩
theorem MeetI.done (h : MeetI ar A C b [] r) : Mgu ar A C b := ⟨h.ok, fun θ g => by rw [h.iff θ g]; simp⟩
theorem MeetI.last (h : MeetI ar A C b l r) (hp : 0 < l.length) : TermW ar (l.getD (l.length - 1) []) ∧ TermW ar (r.getD (l.length - 1) []) ∧
  ∀ θ, GoodS ar θ → (ap θ A = ap θ C ↔ (SatB b θ ∧ ∀ i, i < (l.take (l.length - 1)).length → ap θ ((l.take (l.length - 1)).getD i []) = ap θ ((r.take (l.length - 1)).getD i [])) ∧ ap θ (l.getD (l.length - 1) []) = ap θ (r.getD (l.length - 1) [])) := by
 have hlt : l.length - 1 < l.length := by omega
 have hrt : l.length - 1 < r.length := by have := h.same; omega
 have hg : ∀ {x : RowL} {k : Nat}, k < l.length - 1 → (x.take (l.length - 1)).getD k [] = x.getD k [] := fun {x k} hk => by
  rw [List.getD_eq_getElem?_getD, List.getD_eq_getElem?_getD, List.getElem?_take, if_pos hk]
 refine ⟨h.lw _ ?_, h.rw' _ ?_, fun θ g => ?_⟩
 ·simp only [List.getD, List.getElem?_eq_getElem hlt, Option.getD_some]; exact List.getElem_mem hlt
 ·simp only [List.getD, List.getElem?_eq_getElem hrt, Option.getD_some]; exact List.getElem_mem hrt
 ·rw [h.iff θ g, List.length_take, Nat.min_eq_left (by omega)]
  constructor
  ·rintro ⟨h1, h2⟩
   exact ⟨⟨h1, fun i hi => by rw [hg hi, hg hi]; exact h2 i (by omega)⟩, h2 _ hlt⟩
  ·rintro ⟨⟨h1, h2⟩, h3⟩
   refine ⟨h1, fun i hi => ?_⟩
   rcases Nat.lt_or_ge i (l.length - 1) with hk | hk
   ·have := h2 i hk; rwa [hg hk, hg hk] at this
   ·obtain rfl : i = l.length - 1 := by omega
    exact h3
abbrev lst (l : RowL) : List Int := l.getD (l.length - 1) []
abbrev cut1 (l : RowL) : RowL := l.take (l.length - 1)
def muM (b l r : RowL) (σ : Sbs) : Nat := gM (unb b) (szL σ l + szL σ r)
section
variable {u v : List Int} {k : Nat}
theorem lst_cut {l : RowL} (hp : 0 < l.length) : l = cut1 l ++ [lst l] := by
 have := take_succ_getD (l := l) (k := l.length - 1) ([] : List Int) (by omega)
 rw [Nat.sub_add_cancel hp, List.take_length] at this
 exact this
theorem mem_cut {l : RowL} {x : List Int} (h : x ∈ cut1 l) : x ∈ l := List.mem_of_mem_take h
theorem cut_len {l : RowL} : (cut1 l).length = l.length - 1 := by simp [cut1]
theorem MeetI.rlast (h : MeetI ar A C b l r) : r.getD (l.length - 1) [] = lst r ∧ r.take (l.length - 1) = cut1 r := by rw [h.same]; exact ⟨rfl, rfl⟩
theorem MeetI.rest (h : MeetI ar A C b l r) (hp : 0 < l.length) {b1 : RowL} (hok : BOk ar b1) (hiff : ∀ θ, GoodS ar θ → ((SatB b θ ∧ ap θ (lst l) = ap θ (lst r)) ↔ SatB b1 θ)) : MeetI ar A C b1 (cut1 l) (cut1 r) := by
 obtain ⟨_, _, h3⟩ := h.last hp
 refine ⟨hok, by rw [cut_len, cut_len, h.same], fun x hx => h.lw x (mem_cut hx), fun x hx => h.rw' x (mem_cut hx), fun θ g => ?_⟩
 rw [h3 θ g, h.rlast.1, h.rlast.2, ← hiff θ g]
 constructor
 ·rintro ⟨⟨a1, a2⟩, a3⟩; exact ⟨⟨a1, a3⟩, a2⟩
 ·rintro ⟨⟨a1, a3⟩, a2⟩; exact ⟨⟨a1, a2⟩, a3⟩
theorem MeetI.keep (h : MeetI ar A C b l r) (hp : 0 < l.length) (hu : Root ar b (lst l) u) (hv : Root ar b (lst r) v) (h0 : u.getD 0 0 < 0) (he : u.getD 0 0 = v.getD 0 0) : MeetI ar A C b (cut1 l) (cut1 r) :=
 h.rest hp h.ok fun θ g => ⟨fun x => x.1, fun x => ⟨x, ((same_eq h.ok hu hv h0 he).iff θ g).1 x |>.2⟩⟩
theorem MeetI.bindL (h : MeetI ar A C b l r) (hp : 0 < l.length) (hσ : Sol b σ) (hu : Root ar b (lst l) u) (hv : Root ar b (lst r) v) (h0 : u.getD 0 0 < 0) (hno : u.getD 0 0 ∉ ap σ v) : MeetI ar A C (b.set (varIx (u.getD 0 0)) v) (cut1 l) (cut1 r) := by
 have hs := bind_eq h.ok hσ hu hv h0 hno
 exact h.rest hp hs.ok fun θ g => (hs.iff θ g).symm
theorem MeetI.bindR (h : MeetI ar A C b l r) (hp : 0 < l.length) (hσ : Sol b σ) (hu : Root ar b (lst l) u) (hv : Root ar b (lst r) v) (h0 : v.getD 0 0 < 0) (hno : v.getD 0 0 ∉ ap σ u) : MeetI ar A C (b.set (varIx (v.getD 0 0)) u) (cut1 l) (cut1 r) := by
 have hs := (bind_eq h.ok hσ hv hu h0 hno).swap
 exact h.rest hp hs.ok fun θ g => (hs.iff θ g).symm
theorem MeetI.fail (h : MeetI ar A C b l r) (hp : 0 < l.length) (hf : ∀ θ, GoodS ar θ → SatB b θ → ap θ (lst l) ≠ ap θ (lst r)) : ∀ θ, GoodS ar θ → ap θ A ≠ ap θ C := by
 intro θ g e
 obtain ⟨_, _, h3⟩ := h.last hp
 have := (h3 θ g).1 e
 rw [h.rlast.1] at this
 exact hf θ g this.1.1 this.2
theorem occ_sym (hσ : Sol b σ) (hu : Root ar b A u) (hv : Root ar b C v) (hn : u.getD 0 0 < 0) (hne : ¬ (u.getD 0 0 = v.getD 0 0)) (ho : u.getD 0 0 ∈ ap σ v) : 0 ≤ v.getD 0 0 := by
 refine Int.not_lt.1 fun h => ?_
 exact bind_var hσ hv h hne ho
theorem MeetI.occL (h : MeetI ar A C b l r) (hp : 0 < l.length) (hσ : Sol b σ) (hu : Root ar b (lst l) u) (hv : Root ar b (lst r) v) (h0 : u.getD 0 0 < 0) (hne : ¬ (u.getD 0 0 = v.getD 0 0)) (ho : u.getD 0 0 ∈ ap σ v) : ∀ θ, GoodS ar θ → ap θ A ≠ ap θ C :=
 h.fail hp (occ_eq h.ok hσ hu hv h0 (occ_sym hσ hu hv h0 hne ho) ho)
theorem MeetI.occR (h : MeetI ar A C b l r) (hp : 0 < l.length) (hσ : Sol b σ) (hu : Root ar b (lst l) u) (hv : Root ar b (lst r) v) (h0 : v.getD 0 0 < 0) (hne : ¬ (u.getD 0 0 = v.getD 0 0)) (ho : v.getD 0 0 ∈ ap σ u) : ∀ θ, GoodS ar θ → ap θ A ≠ ap θ C :=
 h.fail hp (no_swap (occ_eq h.ok hσ hv hu h0 (occ_sym hσ hv hu h0 (fun e => hne e.symm) ho) ho))
theorem MeetI.heads (h : MeetI ar A C b l r) (hp : 0 < l.length) (hu : Root ar b (lst l) u) (hv : Root ar b (lst r) v) (h0 : 0 ≤ u.getD 0 0) (h1 : 0 ≤ v.getD 0 0) (hne : u.getD 0 0 ≠ v.getD 0 0) : ∀ θ, GoodS ar θ → ap θ A ≠ ap θ C := h.fail hp (heads_ne hu hv h0 h1 hne)
theorem getD_app {x y : RowL} {i : Nat} : (x ++ y).getD i [] = if i < x.length then x.getD i [] else y.getD (i - x.length) [] := by
 simp only [List.getD_eq_getElem?_getD]
 split
 ·rename_i h; rw [List.getElem?_append_left h]
 ·rename_i h; rw [List.getElem?_append_right (by omega)]
theorem MeetI.parts (h : MeetI ar A C b l r) (hp : 0 < l.length) (hu : Root ar b (lst l) u) (hv : Root ar b (lst r) v) (h0 : 0 ≤ u.getD 0 0) (he : u.getD 0 0 = v.getD 0 0) : MeetI ar A C b (cut1 l ++ partsL ar u) (cut1 r ++ partsL ar v) := by
 obtain ⟨_, _, h3⟩ := h.last hp
 have hl : (partsL ar u).length = (partsL ar v).length := by rw [parts_len, parts_len, he]
 have hcl : (cut1 l).length = (cut1 r).length := by rw [cut_len, cut_len, h.same]
 refine ⟨h.ok, by rw [List.length_append, List.length_append, hcl, hl], fun x hx => ?_, fun x hx => ?_, fun θ g => ?_⟩
 ·rcases List.mem_append.1 hx with hx | hx
  ·exact h.lw x (mem_cut hx)
  ·exact parts_wf hu.w x hx
 ·rcases List.mem_append.1 hx with hx | hx
  ·exact h.rw' x (mem_cut hx)
  ·exact parts_wf hv.w x hx
 ·rw [h3 θ g, h.rlast.1, h.rlast.2]
  constructor
  ·rintro ⟨⟨a1, a2⟩, a3⟩
   refine ⟨a1, fun i hi => ?_⟩
   rw [hu.same θ a1, hv.same θ a1] at a3
   have ap3 := (ap_parts g hu.w hv.w h0 he).1 a3
   rw [List.length_append] at hi
   rw [getD_app, getD_app, hcl]
   split
   ·rename_i hlt; exact a2 i (by rw [← hcl] at hlt; exact hlt)
   ·exact ap3 _ (by omega)
  ·rintro ⟨a1, a2⟩
   refine ⟨⟨a1, fun i hi => ?_⟩, ?_⟩
   ·have hi2 : i < (cut1 l).length := hi
    have := a2 i (by rw [List.length_append]; omega)
    rw [getD_app, getD_app, hcl, if_pos (by omega)] at this
    rw [if_pos (by omega)] at this
    exact this
   ·rw [hu.same θ a1, hv.same θ a1]
    refine (ap_parts g hu.w hv.w h0 he).2 fun i hi => ?_
    have := a2 ((cut1 l).length + i) (by rw [List.length_append]; omega)
    rw [getD_app, getD_app, if_neg (by omega), if_neg (by omega), hcl, Nat.add_sub_cancel_left] at this
    exact this
theorem sz_cut {l : RowL} (hp : 0 < l.length) : szL σ l = szL σ (cut1 l) + (ap σ (lst l)).length := by
 have := congrArg (szL σ) (lst_cut hp)
 rwa [szL_app, szL_one] at this
theorem MeetI.mu_keep (h : MeetI ar A C b l r) (hp : 0 < l.length) (hσ : Sol b σ) : muM b (cut1 l) (cut1 r) σ < muM b l r σ := by
 have g := hσ.good h.ok
 have hr : 0 < r.length := by rw [← h.same]; exact hp
 have h1 := sz_cut (σ := σ) hp
 have h2 := sz_cut (σ := σ) hr
 have h3 := g.len (t := lst l)
 have h4 := (h.last hp).1.len
 refine gM_lt _ ?_
 change 1 ≤ (lst l).length ∧ _ at h4
 omega
theorem MeetI.mu_parts (h : MeetI ar A C b l r) (hp : 0 < l.length) (hσ : Sol b σ) (hu : Root ar b (lst l) u) (hv : Root ar b (lst r) v) (h0 : 0 ≤ u.getD 0 0) (he : u.getD 0 0 = v.getD 0 0) : muM b (cut1 l ++ partsL ar u) (cut1 r ++ partsL ar v) σ < muM b l r σ := by
 have hr : 0 < r.length := by rw [← h.same]; exact hp
 have h1 := sz_cut (σ := σ) hp
 have h2 := sz_cut (σ := σ) hr
 have part : ∀ {w : List Int}, TermW ar w → 0 ≤ w.getD 0 0 → szL σ (partsL ar w) + 1 = (ap σ w).length := fun {w} hw h0 => by
  rw [szL_flat]
  have := congrArg (fun x => (ap σ x).length) (parts_flat hw)
  simp only [ap_cons, hσ.sym h0, List.length_append, List.length_singleton] at this
  omega
 have p1 := part hu.w h0
 have p2 := part hv.w (by omega)
 rw [hu.same σ hσ.sat] at h1
 rw [hv.same σ hσ.sat] at h2
 refine gM_lt _ ?_
 rw [szL_app, szL_app]
 omega
theorem MeetI.mu_bind {n : Int} {w : List Int} (h : MeetI ar A C b l r) (hp : 0 < l.length) (hσ : Sol b σ) (hn : n < 0) (hg : -48 ≤ n) (hf : lkN b n = []) (hw : TermW ar w) (hno : n ∉ ap σ w) (hs : Sol (b.set (varIx n) w) σ1) (hwl : (ap σ w).length = (ap σ (lst l)).length ∨ (ap σ w).length = (ap σ (lst r)).length) :
  muM (b.set (varIx n) w) (cut1 l) (cut1 r) σ1 < muM b l r σ := by
 have g := hσ.good h.ok
 have hr : 0 < r.length := by rw [← h.same]; exact hp
 have h1 := sz_cut (σ := σ) hp
 have h2 := sz_cut (σ := σ) hr
 have hl : ∀ x, (ap σ1 x).length ≤ (ap σ x).length * (ap σ w).length := fun x => bind_len h.ok hσ hn hg hf hw hno hs
 have m1 := szL_mul (σ := σ) (σ1 := σ1) (l := cut1 l) (N := (ap σ w).length) fun x _ => hl x
 have m2 := szL_mul (σ := σ) (σ1 := σ1) (l := cut1 r) (N := (ap σ w).length) fun x _ => hl x
 have hwp : 1 ≤ (ap σ w).length := by have := g.len (t := w); have := hw.len; omega
 have hun : unb (b.set (varIx n) w) < unb b := by
  rw [lkN_get hn] at hf
  exact unb_set (by rw [h.ok.len]; unfold varIx; omega) hf hw.ne
 refine gM_fewer hun ?_ ?_
 ·have hle : (ap σ w).length ≤ szL σ l + szL σ r := by rcases hwl with e | e <;> omega
  have h5 : szL σ (cut1 l) + szL σ (cut1 r) ≤ szL σ l + szL σ r := by omega
  have := Nat.mul_le_mul h5 hle
  rw [Nat.add_mul] at this
  omega
 ·rcases hwl with e | e <;> omega
end
end
section
variable {ar t : List Int} {p k e m q : Nat} {os : RowL}
theorem endW_step (ho : TermW ar t) (hi : endGo ar (t.drop p) k = some (e - p)) (hpe : p ≤ e) (he : e ≤ t.length) (hk : 1 ≤ k) : p < e ∧ endGo ar (t.drop (p + 1)) (k - 1 + (arity ar (t.getD p 0)).toNat) = some (e - (p + 1)) := by
 obtain ⟨k, rfl⟩ : ∃ j, k = j + 1 := ⟨k - 1, by omega⟩
 have := endGo_pos hi
 have hp : p < t.length := by omega
 refine ⟨by omega, ?_⟩
 rw [endGo_step (by omega) hp (ho.lt hp)] at hi
 rw [Nat.add_sub_cancel] at hi ⊢
 cases hg : endGo ar (t.drop (p + 1)) (k + (arity ar (t.getD p 0)).toNat) with
 | none => rw [hg] at hi; cases hi
 | some r => rw [hg] at hi; simp only [Option.map_some, Option.some.injEq] at hi; rw [Option.some.injEq]; omega
theorem endW_start (ho : TermW ar t) (hp : p < t.length) : endGo ar (t.drop p) 1 = some (endN ar t p - p) := by
 obtain ⟨r, hr⟩ : ∃ r, endGo ar (t.drop p) 1 = some r := by
  obtain ⟨j, hj⟩ := endGo_at ho.whole p hp
  rw [show j + 1 = 1 + j from by omega] at hj
  obtain ⟨e1, _, h1, _⟩ := endGo_split hj
  exact ⟨e1, h1⟩
 have : endN ar t p = p + r := by simp [endN, endAt, hr]
 rw [hr, this]; congr 1; omega
theorem endW_stop (hi : endGo ar (t.drop p) k = some (e - p)) (hpe : p ≤ e) (hk : k = 0) : p = e := by
 subst hk
 simp only [endGo, Option.some.injEq] at hi
 omega
def PartI (ar t : List Int) (os : RowL) (m q : Nat) : Prop := partsL ar t = os ++ (argsGo ar t m q).map (fun q => sub ar t q.toNat) ∧ Stand ar t m q t.length
theorem PartI.start (ho : TermW ar t) : PartI ar t [] (partsL ar t).length 1 := by
 have hl := ho.len
 have hs := ho.stand0 (p := 0) (by omega)
 rw [ho.end0] at hs
 rw [parts_len]
 exact ⟨rfl, hs⟩
theorem PartI.next (ho : TermW ar t) (h : PartI ar t os m q) (hm : 1 ≤ m) : q < t.length ∧ PartI ar t (os ++ [(t.drop q).take (endN ar t q - q)]) (m - 1) (endN ar t q) ∧ q < endN ar t q ∧ endN ar t q ≤ t.length := by
 obtain ⟨m, rfl⟩ : ∃ j, m = j + 1 := ⟨m - 1, by omega⟩
 obtain ⟨h1, h2, h3, h4⟩ := ho.stand h.2
 refine ⟨h1, ⟨?_, h2⟩, h3, h4⟩
 have e := h.1
 rw [argsGo, List.map_cons, Int.toNat_natCast] at e
 rw [e, Nat.add_sub_cancel, List.append_assoc]
 rfl
theorem PartI.len (h : PartI ar t os m q) : (partsL ar t).length = os.length + m := by
 have := congrArg List.length h.1
 rwa [List.length_append, List.length_map, argsGo_len] at this
theorem PartI.done (h : PartI ar t os m q) (hm : m = 0) : partsL ar t = os := by
 rw [h.1, hm]; simp [argsGo]
theorem sArity_parts (ho : TermW ar t) (h0 : 0 ≤ t.getD 0 0) : ar.getD (t.getD 0 0).toNat 0 = ((partsL ar t).length : Int) ∧ (partsL ar t).length ≤ 3 ∧ (t.getD 0 0).toNat < ar.length := by
 have hl := ho.len
 have hlt := ho.lt (p := 0) (by omega)
 have hA := arity_le ho.sig hlt
 have e : arity ar (t.getD 0 0) = ar.getD (t.getD 0 0).toNat 0 := by unfold arity; rw [if_neg (by omega)]
 rw [parts_len]
 omega
end
theorem mem_rows {x : RowL} {i : Nat} (h : i < x.length) : x.getD i [] ∈ x := by
 simp only [List.getD, List.getElem?_eq_getElem h, Option.getD_some]; exact List.getElem_mem h
section
variable {ar : List Int} {rs : RulesT} {o p u : Nat} {b : RowL} {σ : Sbs} {t : List Int}
def fullX (σ : Sbs) (t : List Int) : List Int := if (ap σ t).length ≤ 60 then ap σ t else []
theorem fullX_nil (h2 : 1 ≤ t.length) (g : GoodS ar σ) : fullX σ t = [] ↔ 60 < (ap σ t).length := by
 have h1 := g.len (t := t)
 unfold fullX
 split
 ·rename_i hle
  constructor
  ·intro h; rw [h] at h1; simp only [List.length_nil] at h1; omega
  ·intro h; omega
 ·exact ⟨fun _ => by omega, fun _ => rfl⟩
theorem fullX_len : (fullX σ t).length ≤ 60 := by
 unfold fullX; split
 ·assumption
 ·simp
theorem fullX_yes (h : fullX σ t ≠ []) : fullX σ t = ap σ t := by
 unfold fullX at h ⊢; split
 ·rfl
 ·rename_i h1; rw [if_neg h1] at h; exact absurd rfl h
theorem full_no {j : Nat} (hj : j < t.length) (h : 60 < (ap σ (t.take j)).length + (σ (t.getD j 0)).length) : fullX σ t = [] := by
 have := resOk_false (res_no (os := []) hj (by simpa using h))
 unfold fullX; rw [if_neg (by omega)]
theorem full_end {j : Nat} (hj : j = t.length) (h : (ap σ (t.take j)).length ≤ 60) : fullX σ t = ap σ (t.take j) := by
 rw [hj, List.take_length] at h ⊢
 unfold fullX; rw [if_pos h]
theorem away_take {j : Nat} {x : Int} (hj : j < t.length) (h : (t.getD j 0 < 0 ∧ x = t.getD j 0 - 24) ∨ (0 ≤ t.getD j 0 ∧ x = t.getD j 0)) : awayL (t.take (j + 1)) = awayL (t.take j) ++ [x] := by
 have e : x = if t.getD j 0 < 0 then t.getD j 0 - 24 else t.getD j 0 := by
  rcases h with ⟨h1, h2⟩ | ⟨h1, h2⟩
  ·rw [if_pos h1, h2]
  ·rw [if_neg (by omega), h2]
 rw [e]
 unfold awayL; rw [take_succ_getD 0 hj, List.map_append]; rfl
end
section
variable {ar t u A C : List Int} {b b1 l r : RowL} {σ : Sbs} {ρ : Int → Nat} {n : Int} {k : Nat}
def maxR (ρ : Int → Nat) : List Int → Nat
 | [] => 0
 | m :: t => max (if m < 0 then ρ m + 1 else 0) (maxR ρ t)
theorem maxR_le : ∀ {t : List Int} {k : Nat}, (∀ m ∈ t, m < 0 → ρ m + 1 ≤ k) → maxR ρ t ≤ k
 | [], _, _ => Nat.zero_le _
 | m :: t, k, h => by
  have h1 := maxR_le (t := t) (k := k) fun x hx => h x (by simp [hx])
  unfold maxR
  refine Nat.max_le.2 ⟨?_, h1⟩
  split
  ·rename_i h0; exact h m (by simp) h0
  ·omega
theorem le_maxR : ∀ {t : List Int}, n ∈ t → n < 0 → ρ n + 1 ≤ maxR ρ t
 | [], h, _ => by cases h
 | m :: t, h, h0 => by
  unfold maxR
  rcases List.mem_cons.1 h with rfl | h1
  ·rw [if_pos h0]; exact Nat.le_max_left _ _
  ·exact Nat.le_trans (le_maxR h1 h0) (Nat.le_max_right _ _)
def wtR (ρ : Int → Nat) (t : List Int) : Nat := 61 * maxR ρ t + t.length
def WtLe (b : RowL) (t u : List Int) : Prop := ∀ ρ, Acyc b ρ → wtR ρ u ≤ wtR ρ t
theorem WtLe.refl : WtLe b t t := fun _ _ => Nat.le_refl _
theorem WtLe.next (h : WtLe b t u) (hb : BOk ar b) (hu : TermW ar u) (h0 : u.getD 0 0 < 0) (hn : b.getD (varIx (u.getD 0 0)) [] ≠ []) : WtLe b t (b.getD (varIx (u.getD 0 0)) []) := by
 rw [← lkN_get h0] at hn ⊢
 intro ρ hρ
 refine Nat.le_trans ?_ (h ρ hρ)
 have hl := (hb.wt _ h0 hn).len
 have hul := hu.len
 have h1 : maxR ρ (lkN b (u.getD 0 0)) ≤ ρ (u.getD 0 0) := maxR_le fun m hm hm0 => by have := hρ _ h0 m hm hm0; omega
 have h2 : ρ (u.getD 0 0) + 1 ≤ maxR ρ u := le_maxR (mem_of_getD (k := 0) (by omega) rfl) h0
 unfold wtR
 omega
theorem part_wt (hu : TermW ar u) {p : List Int} (hp : p ∈ partsL ar u) : wtR ρ p + 1 ≤ wtR ρ u := by
 have hf := parts_flat hu
 have hm : ∀ x ∈ p, x ∈ u := fun x hx => by rw [hf]; exact List.mem_cons_of_mem _ (List.mem_flatten.2 ⟨p, hp, hx⟩)
 have h1 : maxR ρ p ≤ maxR ρ u := maxR_le fun m hm1 h0 => le_maxR (hm m hm1) h0
 have h2 : p.length + 1 ≤ u.length := by
  have e := congrArg List.length hf
  rw [List.length_cons] at e
  obtain ⟨a, c, h9⟩ := List.append_of_mem hp
  rw [h9, List.flatten_append, List.flatten_cons, List.length_append, List.length_append] at e
  omega
 unfold wtR
 omega
def StkI (b : RowL) (A : List Int) (l : RowL) : Prop := ∀ ρ, Acyc b ρ → ∀ i, i < l.length → i + 2 * wtR ρ (l.getD i []) ≤ 2 * wtR ρ A
theorem StkI.start : StkI b A [A] := fun ρ _ i hi => by
 obtain rfl : i = 0 := by have : i < 1 := hi; omega
 simp
theorem StkI.cut (h : StkI b A l) : StkI b A (cut1 l) := fun ρ hρ i hi => by
 rw [cut_len] at hi
 have e : (cut1 l).getD i [] = l.getD i [] := by
  unfold cut1; rw [List.getD_eq_getElem?_getD, List.getD_eq_getElem?_getD, List.getElem?_take, if_pos hi]
 rw [e]
 exact h ρ hρ i (by omega)
theorem StkI.bind {x : Int} {w : List Int} (h : StkI b A l) (hb : BOk ar b) (hx : x < 0) (hg : -48 ≤ x) (hf : lkN b x = []) : StkI (b.set (varIx x) w) A l := fun ρ hρ => h ρ fun n hn m hm hm0 => by
 refine hρ n hn m ?_ hm0
 rw [lkN_set hb.len hx hg]
 split
 ·rename_i e; rw [e, hf] at hm; cases hm
 ·exact hm
theorem StkI.parts (h : StkI b A l) (hp : 0 < l.length) (hw : WtLe b (lst l) u) (hu : TermW ar u) : StkI b A (cut1 l ++ partsL ar u) := fun ρ hρ i hi => by
 rw [getD_app]
 split
 ·rename_i h1; exact h.cut ρ hρ i h1
 ·rename_i h1
  rw [cut_len] at h1 ⊢
  rw [List.length_append, cut_len] at hi
  have h2 := h ρ hρ (l.length - 1) (by omega)
  have h3 := hw ρ hρ
  have h4 : (partsL ar u).getD (i - (l.length - 1)) [] ∈ partsL ar u := mem_rows (by omega)
  have h5 := part_wt (ρ := ρ) hu h4
  have h6 : (partsL ar u).length ≤ 3 := by
   have hul := hu.len
   have := arity_le hu.sig (hu.lt (p := 0) (by omega))
   rw [parts_len]; omega
  change l.length - 1 + 2 * wtR ρ (lst l) ≤ _ at h2
  omega
theorem parts_le3 (hu : TermW ar u) : (partsL ar u).length ≤ 3 := by
 have hul := hu.len
 have := arity_le hu.sig (hu.lt (p := 0) (by omega))
 rw [parts_len]; omega
def rkB (ρ : Int → Nat) (n : Int) : Nat := ((List.range 48).filter fun (i : Nat) => decide (ρ (-1 - (i : Int)) < ρ n)).length
theorem rk_le : rkB ρ n ≤ 48 := by unfold rkB; exact Nat.le_trans (List.length_filter_le _ _) (by simp)
theorem filter_lt {p q : Nat → Bool} {x : Nat} : ∀ {l : List Nat}, (∀ y, p y = true → q y = true) → x ∈ l → p x = false → q x = true → (l.filter p).length < (l.filter q).length
 | [], _, h, _, _ => by cases h
 | y :: l, h1, h2, h3, h4 => by
  have mono : ∀ l : List Nat, (l.filter p).length ≤ (l.filter q).length := fun l => by
   rw [← List.countP_eq_length_filter, ← List.countP_eq_length_filter]; exact List.countP_mono_left fun y _ => h1 y
  rcases List.mem_cons.1 h2 with rfl | h5
  ·rw [List.filter_cons_of_neg (by rw [h3]; simp), List.filter_cons_of_pos h4, List.length_cons]
   have := mono l; omega
  ·have ih := filter_lt h1 h5 h3 h4
   simp only [List.filter_cons]
   cases hp : p y with
   | true => rw [h1 y hp]; simp only [if_true, List.length_cons]; omega
   | false => cases q y <;> simp <;> omega
theorem Acyc.rk (hb : BOk ar b) (h : Acyc b ρ) : Acyc b (rkB ρ) := fun n hn m hm hm0 => by
 have hne : lkN b n ≠ [] := fun e => by rw [e] at hm; cases hm
 have hg := (hb.wt n hn hne).ge m hm
 have hlt := h n hn m hm hm0
 refine filter_lt (x := (-1 - m).toNat) (fun y hy => ?_) (by simp; omega) ?_ ?_
 ·have := of_decide_eq_true hy; exact decide_eq_true (by omega)
 ·have e : -1 - (((-1 - m).toNat : Nat) : Int) = m := by omega
  rw [e]; simp
 ·have e : -1 - (((-1 - m).toNat : Nat) : Int) = m := by omega
  rw [e]; simpa using hlt
theorem StkI.len (h : StkI b A l) (hb : BOk ar b) (hA : A.length ≤ 60) : l.length ≤ 7000 := by
 obtain ⟨ρ, hρ⟩ := hb.acyc
 rcases Nat.eq_zero_or_pos l.length with h0 | h0
 ·omega
 have h1 := h _ (hρ.rk hb) (l.length - 1) (by omega)
 have h2 : maxR (rkB ρ) A ≤ 49 := maxR_le fun m _ _ => by have := rk_le (ρ := ρ) (n := m); omega
 unfold wtR at h1
 omega
end
end Go.Proofs.YtcdjpapjjoldeaaGreat.M
namespace Go.Proofs.YtcdjpapjjoldeaaGreat.X
open Go
def boolsH (E : TypeId) (v : Value) (ss : List Bool) : HP := slH E 1 v ss.length (bools ss)
theorem boolsH.slv {F : FH} {L : List HP} {E : TypeId} {v : Value} {ss : List Bool} (A : List HP) {B : List HP} (hL : L = A ++ boolsH E v ss :: B) : SlV F L v ss.length := SlV.own A hL
theorem boolsH.rd {F : FH} {L : List HP} {E : TypeId} {v : Value} {ss : List Bool} (A : List HP) {B : List HP} (hL : L = A ++ boolsH E v ss :: B) {i : Nat} (hi : i < ss.length) : Rd F L (elemA v i) (.bool (ss.getD i false)) :=
 Rd.sl A hL (bools_get hi)
theorem boolsH_zeros (E : TypeId) (v : Value) (n : Nat) : slH E 1 v n ((List.range (n * 1)).map fun i => [Value.bool false].toArray[i % [Value.bool false].toArray.size]!) = boolsH E v (List.replicate n false) := by
 have e : ((List.range (n * 1)).map fun i => [Value.bool false].toArray[i % [Value.bool false].toArray.size]!) = (List.replicate n false).map Value.bool := by
  apply List.ext_getElem
  ·simp
  ·intro i h1 h2
   simp [Nat.mod_one]
 rw [e, boolsH, List.length_replicate]
section
variable {P : Program} {ρ : Env} {F : FH} {L : List HP} {K : Post} {d : Option Tmp} {ty : TypeId} {pos : String} {af : Array Edge} {g : Option (Nat × Bool)}
theorem boolsH.storeX {x y : Operand} {t : TypeId} {i : Nat} {u : Bool} {v : Value} {E : TypeId} {ss : List Bool} (A B : List HP) (ss' : List Bool) (hs : ∀ w, (sizeOf t).run P w = .ok 1 w) (hx : evO ρ x = .pointer (some (elemA v i))) (hy : evO ρ y = .bool u)
  (hL : L = A ++ boolsH E v ss :: B) (ho : i < ss.length) (hxs : ss.set i u = ss') (k : K undef F (A ++ boolsH E v ss' :: B)) : XOp P ⟨d, .store t x y, ty, pos, af, g⟩ ρ F L K := by
 subst hxs
 refine XOp.storeS A B hs hx hy rfl hL (by simpa using ho) ?_
 have e : (ss.map Value.bool).set i (.bool u) = (ss.set i u).map Value.bool := by rw [List.map_set]
 rw [e]
 have e2 : ss.length = (ss.set i u).length := by simp
 unfold boolsH at k
 rw [← e2] at k
 exact k
end
section
variable {P : Program} {ρ : Env} {F : FH} {L : List HP} {K : Post} {d : Option Tmp} {ty : TypeId} {pos : String} {af : Array Edge} {g : Option (Nat × Bool)}
end
def ByteE (F : FH) (es : List Value) (x : Int) : Prop := es = [.int .u8 x] ∧ 0 ≤ x ∧ x ≤ 255
theorem ByteE.mono {F F' : FH} (es : List Value) (x : Int) (h : ByteE F es x) : ByteE F' es x := h
def BytesF : FH → Value → List Int → Prop := SlOf 1 ByteE 0
theorem BytesF.mono {F F' : FH} {v : Value} {xs : List Int} (h : BytesF F v xs) (le : F ≤ F') : BytesF F' v xs := SlOf.mono ByteE.mono h le
theorem BytesF.slv {F : FH} {L : List HP} {v : Value} {xs : List Int} (h : BytesF F v xs) : SlV F L v xs.length := SlOf.slv h
theorem BytesF.isSl {F : FH} {v : Value} {xs : List Int} (h : BytesF F v xs) : IsSl v := by obtain ⟨_, h, _⟩ := h; exact h.isSl
theorem BytesF.rd {F : FH} {v : Value} {xs : List Int} (h : BytesF F v xs) {i : Nat} (hi : i < xs.length) : ∀ L, Rd F L (elemA v i) (.int .u8 (xs.getD i 0)) := by
 obtain ⟨es, hl, ⟨rfl, _⟩, hr⟩ := SlOf.get h hi
 intro L
 have := hr L 0 _ rfl
 simpa using this
theorem BytesF.range {F : FH} {v : Value} {xs : List Int} (h : BytesF F v xs) {i : Nat} (hi : i < xs.length) : 0 ≤ xs.getD i 0 ∧ xs.getD i 0 ≤ 255 := by
 obtain ⟨es, hl, ⟨rfl, h2⟩, hr⟩ := SlOf.get h hi
 exact h2
def curH (k : IntKind) (E : TypeId) (b : Nat) (bv : Value) (n : Nat) : HP := fun l => ∃ i h : Int, 0 ≤ i ∧ i ≤ n ∧ cellsH b [bv, .int .i64 i, .int k h] E l
theorem curH.of {k : IntKind} {E : TypeId} {b : Nat} {bv : Value} {n : Nat} {i h : Int} (h0 : 0 ≤ i) (h1 : i ≤ n) : ∀ l, cellsH b [bv, .int .i64 i, .int k h] E l → curH k E b bv n l := fun l hl => ⟨i, h, h0, h1, hl⟩
def drawnH (e : TypeId) (v : Value) (Q : List Int → Prop) : HP := fun l => ∃ t, Q t ∧ intsH e v t l
theorem drawnH.of {e : TypeId} {v : Value} {Q : List Int → Prop} {t : List Int} (h : Q t) : ∀ l, intsH e v t l → drawnH e v Q l := fun l hl => ⟨t, h, hl⟩
section
variable {P : Program} {n : Nat} {ops : Array Oper} {l : List Oper} {Q : QX} {ρ : Env} {F : FH} {L : List HP} {c : Code}
end
def SomesF (F : FH) (v : Value) (Q : List Int → Prop) : Prop := ∃ t, IntsF F v t ∧ Q t
theorem SomesF.mono {F F' : FH} {v : Value} {Q : List Int → Prop} (h : SomesF F v Q) (le : F ≤ F') : SomesF F' v Q := let ⟨t, h1, h2⟩ := h; ⟨t, h1.mono le, h2⟩
theorem SomesF.isSl {F : FH} {v : Value} {Q : List Int → Prop} (h : SomesF F v Q) : IsSl v := let ⟨_, h1, _⟩ := h; h1.isSl
def SomeRowsF (F : FH) (v : Value) (Q : List (List Int) → Prop) : Prop := ∃ t, RowsF F v t ∧ Q t
theorem SomeRowsF.mono {F F' : FH} {v : Value} {Q : List (List Int) → Prop} (h : SomeRowsF F v Q) (le : F ≤ F') : SomeRowsF F' v Q := let ⟨t, h1, h2⟩ := h; ⟨t, h1.mono le, h2⟩
theorem SomeRowsF.isSl {F : FH} {v : Value} {Q : List (List Int) → Prop} (h : SomeRowsF F v Q) : IsSl v := let ⟨_, h1, _⟩ := h; h1.isSl
section
variable {P : Program} {ρ : Env} {F : FH} {L : List HP} {K : Post} {d : Option Tmp} {ty : TypeId} {pos : String} {af : Array Edge} {g : Option (Nat × Bool)}
end
section
variable {P : Program} {ρ : Env} {F : FH} {L : List HP} {K : Post} {d : Option Tmp} {ty : TypeId} {pos : String} {af : Array Edge} {g : Option (Nat × Bool)}
end
theorem RowsC.ones {F : FH} {cs : List Value} {xs : List (List Int)} (h : RowsC F cs xs) : ∀ u ∈ cs, u.oneCell' = true := by
 intro u hu
 obtain ⟨q, hq, rfl⟩ := List.getElem_of_mem hu
 have hl := h.1
 obtain ⟨es, h1, ⟨c, rfl, hc⟩, hg⟩ := CO.get h (i := q) (by omega)
 have h9 := hg 0 c rfl
 rw [show q * 1 + 0 = q from by omega, List.getElem?_eq_getElem hq] at h9
 obtain ⟨b, n, k, rfl⟩ := IntsF.isSl hc
 rw [Option.some.inj h9]; rfl
theorem XOp.appendRows {P : Program} {ρ : Env} {F : FH} {L : List HP} {K : Post} {d : Option Tmp} {ty : TypeId} {pos : String} {af : Array Edge} {g : Option (Nat × Bool)} {x y : Operand} {t E : TypeId} {i : TypeInfo} {z : Value} {n bytes : Nat} {v v2 : Value} {cs : List Value} {xs ys : List (List Int)} (A B : List HP)
  (ht : ∀ w, (underlying t).run P w = .ok (.slice E) w) (hi : ∀ w, (typeInfo E).run P w = .ok i w) (hz : i.zero = some z) (hs : i.size = 1) (hby : i.bytes = bytes) (hzs : z.cells.size = 1)
  (hx : evO ρ x = v) (hy : evO ρ y = v2) (hL : L = A ++ slH E 1 v n cs :: B) (hC : RowsC F cs xs) (hv2 : RowsF F v2 ys) (h63 : n + ys.length ≤ 1152921504606846976) (hbytes : (n + ys.length) * bytes ≤ 140737488355328)
  (k : ∀ v' ds, IsSl v' → RowsC F (cs ++ ds) (xs ++ ys) → K v' F (A ++ slH E 1 v' (n + ys.length) (cs ++ ds) :: B)) :
  XOp P ⟨d, .call { callee := .builtin .append, args := #[x, y], argTypes := #[t, t] }, ty, pos, af, g⟩ ρ F L K := by
 obtain ⟨ds, hA, hc2⟩ := SlOf.open hv2
 exact XOp.append A B ds ht hi hz hs hby hzs hx hy hL (SlV.arr hA) hc2.1 (fun j u hu => Rd.arr hA hu) (RowsC.ones hc2) h63 hbytes fun v' h1 _ _ => k v' ds h1 (CO.append hC hc2)
def SomeStepsF (F : FH) (v : Value) (Q : List StepT → Prop) : Prop := ∃ t, StepsF F v t ∧ Q t
theorem SomeStepsF.mono {F F' : FH} {v : Value} {Q : List StepT → Prop} (h : SomeStepsF F v Q) (le : F ≤ F') : SomeStepsF F' v Q := let ⟨t, h1, h2⟩ := h; ⟨t, h1.mono le, h2⟩
theorem SomeStepsF.isSl {F : FH} {v : Value} {Q : List StepT → Prop} (h : SomeStepsF F v Q) : IsSl v := let ⟨_, h1, _⟩ := h; h1.isSl
def SomeBindsF (F : FH) (bs : List Value) (Q : List (List Int) → Prop) : Prop := ∃ bl, BindC F bs bl ∧ Q bl
theorem SomeBindsF.mono {F F' : FH} {bs : List Value} {Q : List (List Int) → Prop} (h : SomeBindsF F bs Q) (le : F ≤ F') : SomeBindsF F' bs Q := let ⟨t, h1, h2⟩ := h; ⟨t, h1.mono le, h2⟩
end Go.Proofs.YtcdjpapjjoldeaaGreat.X
namespace Go.Proofs.YtcdjpapjjoldeaaGreat.M
section
variable {ar : List Int} {rs : Rules} {a b t : List Int} {ts : RowL} {n : Int} {m k : Nat}
end
section
variable {ar : List Int} {rs : Rules} {a b t : List Int} {n : Int}
end
section
variable {o t : List Int} {k j : Nat} {n x : Int}
theorem ord_add (hj : j < t.length) {os : List Int} (h : os = orderL (t.take j)) (h0 : t.getD j 0 < 0) (hn : t.getD j 0 ∉ os) : os ++ [t.getD j 0] = orderL (t.take (j + 1)) := by
 unfold orderL at h ⊢
 rw [orderGo_take hj, ← h, if_pos ⟨h0, hn⟩]
theorem ord_skip (hj : j < t.length) {os : List Int} (h : os = orderL (t.take j)) (h0 : 0 ≤ t.getD j 0 ∨ t.getD j 0 ∈ os) : os = orderL (t.take (j + 1)) := by
 unfold orderL at h ⊢
 rw [orderGo_take hj, ← h, if_neg]
 rintro ⟨h1, h2⟩
 rcases h0 with h0 | h0
 ·omega
 ·exact h2 h0
theorem ord_nodup : (orderL t).Nodup := orderGo_nodup t [] List.nodup_nil
theorem ord_len : (orderL t).length ≤ t.length := by have := orderGo_len t []; unfold orderL; simpa using this
def byN (o : List Int) (k : Nat) (x : Int) : Int := if x < 0 ∧ x ∈ o.take k then -1 - indexZ o x else x
theorem by_start : x = byN o 0 x := by simp [byN]
theorem by_hit (hno : o.Nodup) (hk : k < o.length) (h0 : x < 0) (he : o.getD k 0 = x) : -1 - (k : Int) = byN o (k + 1) x := by
 have hx : o[k] = x := by rw [← he]; simp [List.getD, hk]
 have hm : x ∈ o.take (k + 1) := by rw [← hx]; exact List.mem_take_iff_getElem.2 ⟨k, by omega, rfl⟩
 unfold byN
 rw [if_pos ⟨h0, hm⟩, ← hx, index_getElem hno hk]
theorem by_miss (hk : k < o.length) (he : o.getD k 0 ≠ x) : byN o k x = byN o (k + 1) x := by
 have hm : x ∈ o.take (k + 1) ↔ x ∈ o.take k := by
  rw [take_succ_getD 0 hk, List.mem_append, List.mem_singleton]
  exact ⟨fun h => h.resolve_right (fun e => he e.symm), .inl⟩
 unfold byN
 simp only [hm]
theorem by_done (hn : n = byN o k x) (hx : k = o.length ∨ 0 ≤ x) : n = if x < 0 ∧ x ∈ o then -1 - indexZ o x else x := by
 rw [hn]; unfold byN
 rcases hx with h | h
 ·rw [h, List.take_length]
 ·rw [if_neg (by omega), if_neg (by omega)]
theorem by_take (hj : j < t.length) (hn : n = if t.getD j 0 < 0 ∧ t.getD j 0 ∈ o then -1 - indexZ o (t.getD j 0) else t.getD j 0) : byL o (t.take j) ++ [n] = byL o (t.take (j + 1)) := by
 rw [hn]
 unfold byL; rw [take_succ_getD 0 hj, List.map_append]; rfl
end
section
variable {ar : List Int} {rs : RulesT} {o p u : Nat} {b : RowL} {σ : Sbs}
theorem left_ok (hs : sysOk ar rs = true) (ho : o < rs.length) (hu : u < rs.length) : (∀ i, i < (leftT ar rs o p u).length → -48 ≤ (leftT ar rs o p u).getD i 0) ∧ (leftT ar rs o p u).length ≤ 200 ∧ 1 ≤ (leftT ar rs o p u).length := by
 have h1 := termW_of (rule_L hs ho)
 have h2 := away_W (rule_R hs hu)
 have l1 := h1.len
 have l2 := h2.len
 have hl : (leftT ar rs o p u).length ≤ 200 ∧ 1 ≤ (leftT ar rs o p u).length := by
  unfold leftT
  simp only [List.length_append, List.length_take, List.length_drop]
  omega
 refine ⟨fun i hi => ?_, hl⟩
 have hm : (leftT ar rs o p u).getD i 0 ∈ leftT ar rs o p u := mem_of_getD hi rfl
 generalize (leftT ar rs o p u).getD i 0 = x at hm ⊢
 unfold leftT at hm
 rcases List.mem_append.1 hm with hm | hm
 ·rcases List.mem_append.1 hm with hm | hm
  ·exact h1.ge x (List.mem_of_mem_take hm)
  ·exact h2.ge x hm
 ·exact h1.ge x (List.mem_of_mem_drop hm)
noncomputable def psO (ar : List Int) (rs : RulesT) : Option (List PkT) := if sysOk ar rs = true then peaksF ar rs else none
theorem ps_no (h : sysOk ar rs = false) : psO ar rs = none := by unfold psO; rw [if_neg (by rw [h]; simp)]
theorem ps_yes (h : sysOk ar rs = true) : psO ar rs = peaksF ar rs := by unfold psO; rw [if_pos h]
theorem left_eq : (((Lr rs o).drop 0).take (p - 0) ++ awayL (Rr rs u)) ++ (((Lr rs o).drop (endN ar (Lr rs o) p)).take ((Lr rs o).length - endN ar (Lr rs o) p)) = leftT ar rs o p u := by
 unfold leftT
 rw [List.drop_zero, Nat.sub_zero, List.take_of_length_le (l := (Lr rs o).drop _) (by rw [List.length_drop]; omega)]
theorem pk_nil (hs : sysOk ar rs = true) (ho : o < rs.length) (hu : u < rs.length) (hmt : meetB ar rs o p u = true) (hm : MguP ar rs o p u b) (hσ : Sol b σ)
  (h : fullX σ (Lr rs o) = [] ∨ fullX σ (leftT ar rs o p u) = [] ∨ fullX σ (Rr rs o) = []) : pkF ar rs o p u = none := by
 have g := hσ.good hm.ok
 have l1 := (termW_of (rule_L hs ho)).len
 have l2 := (termW_of (rule_R hs ho)).len
 have l3 := (left_ok (p := p) hs ho hu).2.2
 rw [pk_eq hs ho hu hmt hm hσ]
 unfold peakOf
 simp only
 rw [if_neg]
 rintro ⟨h1, h2, h3, _⟩
 rcases h with h | h | h
 ·have := (fullX_nil l1.1 g).1 h; omega
 ·have := (fullX_nil l3 g).1 h; omega
 ·have := (fullX_nil l2.1 g).1 h; omega
end
end Go.Proofs.YtcdjpapjjoldeaaGreat.M
namespace Go.Proofs.YtcdjpapjjoldeaaGreat.X
open Go
section
variable {P : Program} {ρ : Env} {F : FH} {L : List HP} {K : Post} {d : Option Tmp} {ty : TypeId} {pos : String} {af : Array Edge} {g : Option (Nat × Bool)}
theorem XOp.appendE {x y : Operand} {t E : TypeId} {i : TypeInfo} {v v2 : Value} {ys : List Int}
  (ht : ∀ w, (underlying t).run P w = .ok (.slice E) w) (hi : ∀ w, (typeInfo E).run P w = .ok i w) (hz : i.zero = some (.int .i64 0)) (hs : i.size = 1) (hby : i.bytes = 8)
  (hx : evO ρ x = v) (hy : evO ρ y = v2) (hv : ∃ b, v = .slice (some ⟨b, 0, none⟩) 0 0) (hv2 : IntsF F v2 ys) (hb : ys.length ≤ 17592186044416)
  (k : ∀ v', IsSl v' → K v' F (intsH E v' ys :: L)) :
  XOp P ⟨d, .call { callee := .builtin .append, args := #[x, y], argTypes := #[t, t] }, ty, pos, af, g⟩ ρ F L K := by
 obtain ⟨b, rfl⟩ := hv
 intro w H
 exact XOp.appendI (xs := []) (ys := ys) (L := intsH E (.slice (some ⟨b, 0, none⟩) 0 0) [] :: L) [] L ht hi hz hs hby hx hy rfl hv2 (by simpa using hb) (fun v' h1 _ _ => k v' h1) w ((intsH.addNil E _ L).holds H)
end
end Go.Proofs.YtcdjpapjjoldeaaGreat.X
namespace Go.Proofs.YtcdjpapjjoldeaaGreat.M
section
variable {ar : List Int} {rs : RulesT} {o p u : Nat} {x : PkT}
theorem pkF_bound (h : pkF ar rs o p u = some x) : x.1.length ≤ 60 ∧ x.2.1.length ≤ 60 ∧ x.2.2.1.length ≤ 60 := by
 unfold pkF at h
 split at h
 ·unfold peakF at h
  split at h
  ·unfold peakOf at h
   simp only at h
   split at h
   ·rename_i h1
    cases h
    simp only [byL_len]
    exact ⟨h1.1, h1.2.1, h1.2.2.1⟩
   ·cases h
  ·cases h
 ·cases h
theorem psO_mem (h : x ∈ (psO ar rs).getD []) : x.1.length ≤ 60 ∧ x.2.1.length ≤ 60 ∧ x.2.2.1.length ≤ 60 := by
 unfold psO at h
 split at h
 ·unfold peaksF at h
  split at h
  ·rename_i hc
   simp only [Option.getD_some] at h
   obtain ⟨m, hm, rfl⟩ := List.mem_map.1 h
   have h1 := hc.1 m hm
   cases h2 : pkF ar rs m.1 m.2.1 m.2.2 with
   | none => rw [h2] at h1; cases h1
   | some y => unfold pkD; rw [h2]; exact pkF_bound h2
  ·cases h
 ·cases h
theorem psO_len : ((psO ar rs).getD []).length ≤ 64 := by
 unfold psO
 split
 ·cases h : peaksF ar rs with
  | none => simp
  | some l => exact peaks_len h
 ·simp
theorem psO_at : ∀ i, i < ((psO ar rs).getD []).length → (((psO ar rs).getD []).getD i ([], [], [], 0, 0, 0)).1.length ≤ 60 ∧ (((psO ar rs).getD []).getD i ([], [], [], 0, 0, 0)).2.1.length ≤ 60 ∧ (((psO ar rs).getD []).getD i ([], [], [], 0, 0, 0)).2.2.1.length ≤ 60 := fun i hi => by
 refine psO_mem (ar := ar) (rs := rs) ?_
 rw [List.getD_eq_getElem?_getD, List.getElem?_eq_getElem hi]
 exact List.getElem_mem hi
end
section
variable {t : List Int} {rs : RulesT} {ar : List Int} {k : Nat}
def LinT (t : List Int) : Prop := ∀ i, i < t.length → t.getD i 0 < 0 → t.getD i 0 ∉ t.take i
def LinAt (t : List Int) (k : Nat) : Prop := ∀ i, i < k → t.getD i 0 < 0 → t.getD i 0 ∉ t.take i
instance : Decidable (LinT t) := by unfold LinT; infer_instance
def LinS (rs : RulesT) : Prop := ∀ i, i < rs.length → LinT (rs.getD i ([], [])).1
instance : Decidable (LinS rs) := by unfold LinS; infer_instance
theorem lin_done (h : LinAt t k) (hk : k = t.length) : LinT t := by subst hk; exact h
theorem count_take {n : Int} (hk : k < t.length) : (t.take (k + 1)).count n = (t.take k).count n + if t.getD k 0 = n then 1 else 0 := by
 rw [take_succ_getD (l := t) (k := k) 0 hk, List.count_append]
 simp [List.count_singleton]
theorem lin_next (h : LinAt t k) (h1 : 0 ≤ t.getD k 0 ∨ t.getD k 0 ∉ t.take k) : LinAt t (k + 1) := fun i hi h0 => by
 rcases Nat.lt_or_ge i k with hlt | hge
 ·exact h i hlt h0
 ·obtain rfl : i = k := by omega
  exact h1.resolve_left (by omega)
theorem lin_no (hk : k < t.length) (h0 : t.getD k 0 < 0) (h1 : t.getD k 0 ∈ t.take k) : ¬ LinT t := fun h => h k hk h0 h1
theorem lin_count : LinT t ↔ ∀ i, i < t.length → t.getD i 0 < 0 → t.count (t.getD i 0) ≤ 1 := by
 constructor
 ·intro h i hi h0
  generalize t.getD i 0 = x at h0
  have key : ∀ j, j ≤ t.length → (t.take j).count x ≤ 1 := by
   intro j
   induction j with
   | zero => intro _; simp
   | succ j ih =>
    intro hj
    have ih := ih (by omega)
    rw [take_succ_getD (l := t) (k := j) 0 (by omega), List.count_append]
    by_cases hy : t.getD j 0 = x
    ·have h2 := h j (by omega) (by omega)
     rw [hy] at h2 ⊢
     rw [List.count_eq_zero.2 h2]
     simp
    ·rw [List.count_eq_zero.2 (fun hm => hy (List.mem_singleton.1 hm).symm)]
     omega
  have := key t.length (Nat.le_refl _)
  rwa [List.take_length] at this
 ·intro h i hi h0 hm
  have h1 := h i hi h0
  have e : t = t.take i ++ (t.getD i 0 :: t.drop (i + 1)) := by
   have : t.getD i 0 = t[i] := by simp [List.getD, hi]
   rw [this, ← List.drop_eq_getElem_cons hi, List.take_append_drop]
  generalize t.getD i 0 = x at h1 hm e
  rw [e, List.count_append, List.count_cons_self] at h1
  have := List.count_pos_iff.2 hm
  omega
theorem psO_sys (h : (psO ar rs).isSome = true) : sysOk ar rs = true := by
 unfold psO at h
 split at h
 ·assumption
 ·cases h
end
section
variable {ar : List Int} {rs : Rules} {t f now : List Int} {ss acc : List StepL} {s : RowL} {k : Nat}
end
section
variable {α : Type} {q : α → Bool} {l : List α} {d : α} {k : Nat}
def badG (q : α → Bool) (l : List α) : Int := match l.findIdx? (fun t => !q t) with | some i => i | none => -1
theorem badG_at (d : α) (hk : k < l.length) (h : q (l.getD k d) = false) (hall : ∀ i, i < k → q (l.getD i d) = true) : badG q l = k := by
 unfold badG
 have : l.findIdx? (fun t => !q t) = some k := by
  rw [List.findIdx?_eq_some_iff_getElem]
  refine ⟨hk, by simpa [List.getD, hk] using h, fun j hj => ?_⟩
  have := hall j hj
  simpa [List.getD, Nat.lt_trans hj hk] using this
 rw [this]
theorem badG_none (d : α) (hall : ∀ i, i < l.length → q (l.getD i d) = true) : badG q l = -1 := by
 unfold badG
 have : l.findIdx? (fun t => !q t) = none := by
  rw [List.findIdx?_eq_none_iff]
  intro x hx
  obtain ⟨i, hi, rfl⟩ := List.getElem_of_mem hx
  simpa [List.getD, hi] using hall i hi
 rw [this]
theorem badG_iff : (badG q l ≥ 0) ↔ l.all q = false := by
 unfold badG
 cases h : l.findIdx? (fun t => !q t) with
 | none =>
  rw [List.findIdx?_eq_none_iff] at h
  have : l.all q = true := List.all_eq_true.2 fun x hx => by simpa using h x hx
  simp [this]
 | some i =>
  rw [List.findIdx?_eq_some_iff_getElem] at h
  obtain ⟨hi, h1, _⟩ := h
  have : l.all q = false := by
   rw [List.all_eq_false]
   exact ⟨_, List.getElem_mem hi, by simpa using h1⟩
  simp [this]
theorem all_getD_iff (d : α) : l.all q = true ↔ ∀ i, i < l.length → q (l.getD i d) = true := by
 rw [List.all_eq_true]
 refine ⟨fun h i hi => h _ (by simp [List.getD, hi]), fun h x hx => ?_⟩
 obtain ⟨i, hi, rfl⟩ := List.getElem_of_mem hx
 simpa [List.getD, hi] using h i hi
end
section
variable {ar : List Int} {rs es : Rules} {a b : List Int} {n : Int} {m k : Nat}
end
abbrev StepV := Int × Int × List Int
section
variable {ar t : List Int} {rs : Rules} {p r k : Nat} {u : List Int}
end
abbrev FoundV := List Int × Int × StepV × Int
def isIn (all : List FoundV) (t : List Int) : Bool := all.any fun x => decide (x.1 = t)
def start0 (t : List Int) : List FoundV := [(t, -1, (0, 0, []), 0)]
section
variable {ar t : List Int} {rs : Rules} {n d : Int} {k f : Nat} {all : List FoundV} {ss : List StepV}
abbrev EL (all : List FoundV) (k : Nat) : FoundV := all.getD k ([], 0, (0, 0, []), 0)
def AllOk (ar : List Int) (all : List FoundV) : Prop := ∀ i, i < all.length → termOk ar (EL all i).1 = true
theorem AllOk.snoc {x : FoundV} (h : AllOk ar all) (hx : termOk ar x.1 = true) : AllOk ar (all ++ [x]) := by
 intro i hi
 rw [List.length_append, List.length_singleton] at hi
 rcases Nat.lt_or_ge i all.length with h1 | h1
 ·have := h i h1; unfold EL at *; rwa [List.getD_eq_getElem?_getD, List.getElem?_append_left h1, ← List.getD_eq_getElem?_getD]
 ·obtain rfl : i = all.length := by omega
  unfold EL; simp [List.getD]; exact hx
theorem AllOk.start (h : termOk ar t = true) : AllOk ar (start0 t) := by
 intro i hi
 obtain rfl : i = 0 := by simp [start0] at hi; exact hi
 exact h
def DeepOk (n : Int) (all : List FoundV) : Prop := ∀ i, i < all.length → 0 ≤ (EL all i).2.2.2 ∧ (EL all i).2.2.2 ≤ n
theorem DeepOk.snoc {x : FoundV} (h : DeepOk n all) (hx : 0 ≤ x.2.2.2 ∧ x.2.2.2 ≤ n) : DeepOk n (all ++ [x]) := by
 intro i hi
 rw [List.length_append, List.length_singleton] at hi
 rcases Nat.lt_or_ge i all.length with h1 | h1
 ·have := h i h1; unfold EL at *; rwa [List.getD_eq_getElem?_getD, List.getElem?_append_left h1, ← List.getD_eq_getElem?_getD]
 ·obtain rfl : i = all.length := by omega
  unfold EL; simp [List.getD]; exact hx
theorem DeepOk.start (hn : 0 ≤ n) : DeepOk n (start0 t) := by
 intro i hi
 obtain rfl : i = 0 := by simp [start0] at hi; exact hi
 exact ⟨by simp [EL, start0], by simpa [EL, start0] using hn⟩
theorem isIn_some {i : Nat} {u : List Int} (hi : i < all.length) (h : (EL all i).1 = u) : isIn all u = true := by
 unfold isIn
 rw [List.any_eq_true]
 refine ⟨EL all i, ?_, by simpa using h⟩
 unfold EL; simp [List.getD, hi]
end
section
variable {all : List FoundV} {x : FoundV} {i : Nat}
theorem EL_snoc {k : Nat} (hk : k < all.length) : EL (all ++ [x]) k = EL all k := by unfold EL; rw [List.getD_eq_getElem?_getD, List.getElem?_append_left hk, ← List.getD_eq_getElem?_getD]
end
def Link (all : List FoundV) : Prop := (0 < all.length ∧ (EL all 0).2.1 = -1 ∧ (EL all 0).2.2.2 = 0) ∧ ∀ i, 0 < i → i < all.length → 0 ≤ (EL all i).2.1 ∧ (EL all i).2.1 < (i : Int) ∧ (EL all i).2.2.2 = (EL all (EL all i).2.1.toNat).2.2.2 + 1 ∧ (EL all i).2.2.1.2.2 = (EL all i).1
def Dist (all : List FoundV) : Prop := ∀ i j, i < j → j < all.length → (EL all i).1 ≠ (EL all j).1
section
variable {ar t : List Int} {rs : Rules} {n : Int} {all : List FoundV}
theorem EL_last {x : FoundV} : EL (all ++ [x]) all.length = x := by unfold EL; simp [List.getD]
theorem Link.start : Link (start0 t) := ⟨⟨by simp [start0], rfl, rfl⟩, fun i h0 hi => by simp [start0] at hi; omega⟩
theorem Link.snoc {k : Nat} {s : StepV} {d : Int} (h : Link all) (hk : k < all.length) (hd : d = (EL all k).2.2.2) : Link (all ++ [(s.2.2, (k : Int), s, d + 1)]) := by
 obtain ⟨⟨h0, h2, h3⟩, h4⟩ := h
 refine ⟨⟨by simp, by rw [EL_snoc h0]; exact h2, by rw [EL_snoc h0]; exact h3⟩, fun i hi hl => ?_⟩
 rw [List.length_append, List.length_singleton] at hl
 rcases Nat.lt_or_ge i all.length with h | h
 ·obtain ⟨a, b, c, d⟩ := h4 i hi h
  rw [EL_snoc h]
  exact ⟨a, b, by rw [EL_snoc (by omega)]; exact c, d⟩
 ·obtain rfl : i = all.length := by omega
  rw [EL_last]
  refine ⟨by dsimp only; omega, by dsimp only; omega, ?_, rfl⟩
  dsimp only
  rw [show ((k : Int)).toNat = k from by omega, EL_snoc hk, hd]
theorem Dist.snoc {x : FoundV} (h : Dist all) (hx : isIn all x.1 = false) : Dist (all ++ [x]) := by
 intro i j hij hj
 rw [List.length_append, List.length_singleton] at hj
 rcases Nat.lt_or_ge j all.length with h1 | h1
 ·rw [EL_snoc h1, EL_snoc (by omega)]; exact h i j hij h1
 ·obtain rfl : j = all.length := by omega
  rw [EL_last, EL_snoc hij]
  intro he
  rw [isIn_some hij he] at hx
  cases hx
end
def WalkB (f : List Int) (ss : List StepV) : Prop := f.length ≤ 60 ∧ ss.length ≤ 60 ∧ (∀ i, i < ss.length → (ss.getD i (0, 0, [])).2.2.length ≤ 60) ∧ (ss.flatMap flatStep).length ≤ 4000
theorem WalkB.nil : WalkB [] [] := ⟨by simp, by simp, fun i hi => by simp at hi, by simp⟩
theorem WalkB.mk {f : List Int} {ss : List StepV} (hf : f.length ≤ 60) (hs : ss.length ≤ 60) (h : ∀ s ∈ ss, s.2.2.length ≤ 60) : WalkB f ss := by
 have h0 : ∀ i, i < ss.length → (ss.getD i (0, 0, [])).2.2.length ≤ 60 := fun i hi => h _ (by simp [List.getD, hi])
 refine ⟨hf, hs, h0, ?_⟩
 have h1 := flatStep_len ss
 have h2 := gTo_bound h0 _ (Nat.le_refl _)
 have h4 : ss.length * 60 ≤ 60 * 60 := Nat.mul_le_mul_right 60 hs
 omega
section
variable {ar t u a b : List Int} {rs : Rules} {n : Int} {all : List FoundV} {k : Nat}
end
section
variable {ar f g : List Int} {rs : Rules} {xs ys : List StepV}
end
section
variable {ar t u f : List Int} {rs : Rules} {ss : List StepL} {st n : Int}
end
section
variable {ar t : List Int} {rs : Rules} {p r : Int} {k : Nat}
end
section
variable {ar t f u v w g A R : List Int} {rs : Rules} {p q r : Nat} {ss xs : List StepL}
theorem stepAtOk_iff {p r : Int} : stepAtOk ar rs t p r = true ↔ (sysOk ar rs = true ∧ termOk ar t = true) ∧ (0 ≤ p ∧ p < (t.length : Int)) ∧ 0 ≤ r ∧ r < (rs.length : Int) := by
 simp only [stepAtOk, Bool.and_eq_true, decide_eq_true_eq, right_iff, and_assoc]
end
section
variable {ar t f u v w g : List Int} {rs : Rules} {p q r k n : Nat} {ss xs : List StepL} {s b b' : RowL}
end
section
variable {ar t f : List Int} {rs : Rules} {ss xs : List StepL} {k : Nat}
end
section
variable {f : List Int} {ss : List StepL} {s : StepL} {k : Nat}
def smallT (ss : List StepL) : Prop := ∀ i, (ss.getD i (0, 0, [])).2.2.length ≤ 2000
theorem smallT.nil : smallT [] := fun i => by simp
theorem smallT.snoc (h : smallT ss) (hs : s.2.2.length ≤ 2000) : smallT (ss ++ [s]) := fun i => by
 rcases Nat.lt_trichotomy i ss.length with g | g | g
 ·rw [List.getD_eq_getElem?_getD, List.getElem?_append_left g, ← List.getD_eq_getElem?_getD]; exact h i
 ·subst g; simpa [List.getD_eq_getElem?_getD] using hs
 ·rw [List.getD_eq_getElem?_getD, List.getElem?_eq_none (by simp; omega)]; simp
theorem smallT.set (h : smallT ss) (hs : s.2.2.length ≤ 2000) (k : Nat) : smallT (ss.set k s) := fun i => by
 by_cases e : k = i
 ·subst e
  rcases Nat.lt_or_ge k ss.length with g | g
  ·simpa [List.getD_eq_getElem?_getD, g] using hs
  ·rw [List.set_eq_of_length_le g]; exact h k
 ·rw [List.getD_eq_getElem?_getD, List.getElem?_set_ne e, ← List.getD_eq_getElem?_getD]; exact h i
theorem smallT.take (h : smallT ss) (k : Nat) : smallT (ss.take k) := fun i => by
 rcases Nat.lt_or_ge i k with g | g
 ·rw [List.getD_eq_getElem?_getD, List.getElem?_take, if_pos g, ← List.getD_eq_getElem?_getD]; exact h i
 ·rw [List.getD_eq_getElem?_getD, List.getElem?_take, if_neg (by omega)]; simp
theorem smallT.drop (h : smallT ss) (k : Nat) : smallT (ss.drop k) := fun i => by
 rw [List.getD_eq_getElem?_getD, List.getElem?_drop, ← List.getD_eq_getElem?_getD]; exact h _
end
section
variable {ar t od : List Int} {σ τ : Sbs} {n : Nat}
def byS (od : List Int) (σ : Sbs) : Sbs := fun x => byL od (σ x)
theorem ap_byS : ap (byS od σ) t = byL od (ap σ t) := by
 unfold ap byS byL
 rw [List.map_flatMap]
theorem by_neg {x : Int} : (if x < 0 ∧ x ∈ od then -1 - indexZ od x else x) < 0 ↔ x < 0 := by
 by_cases h : x < 0 ∧ x ∈ od
 ·have := indexZ_mem.2 h.2
  rw [if_pos h]; omega
 ·rw [if_neg h]
theorem by_arity {x : Int} : arity ar (if x < 0 ∧ x ∈ od then -1 - indexZ od x else x) = arity ar x := by
 by_cases hx : x < 0
 ·unfold arity; rw [if_pos (by_neg.2 hx), if_pos hx]
 ·rw [if_neg (fun h => hx h.1)]
theorem endGo_byL : ∀ (r : List Int) (n : Nat), endGo ar (byL od r) n = endGo ar r n
 | r, 0 => by simp [endGo]
 | [], n + 1 => rfl
 | x :: r, n + 1 => by
  show endGo ar ((if x < 0 ∧ x ∈ od then -1 - indexZ od x else x) :: byL od r) (n + 1) = _
  simp only [endGo, by_arity, endGo_byL r]
  by_cases hx : x < 0
  ·rw [if_pos (by have := (by_neg (od := od)).2 hx; omega), if_pos (by omega)]
  ·have e : (if x < 0 ∧ x ∈ od then -1 - indexZ od x else x) = x := if_neg (fun h => hx h.1)
   rw [e]
theorem wf_byL {r : List Int} : WF ar (byL od r) n ↔ WF ar r n := by unfold WF; rw [endGo_byL, byL_len]
theorem byS_good (h : GoodS ar σ) : GoodS ar (byS od σ) :=
 ⟨fun n hn => by unfold byS; rw [h.sym n hn]; simp [byL]; omega, fun n hn => wf_byL.2 (h.var n hn)⟩
theorem byL_ok (hs : sigOk ar = true) (hw : WF ar t 1) (hl : t.length ≤ 60) (ho : od.length ≤ 24) (hv : ∀ n ∈ t, n < 0 → n ∈ od) : termOk ar (byL od t) = true := by
 refine termOk_iff.2 ⟨hs, ?_, by rw [byL_len]; exact hl, ?_, wf_byL.2 hw⟩
 ·rw [byL_len]
  cases ht : t with
  | nil => rw [ht] at hw; exact absurd rfl hw.pos
  | cons => simp
 ·intro x hx
  obtain ⟨y, hy, rfl⟩ := List.mem_map.1 hx
  by_cases h : y < 0 ∧ y ∈ od
  ·have := indexZ_lt h.2
   rw [if_pos h]; omega
  ·rw [if_neg h]
   by_cases h0 : y < 0
   ·exact absurd ⟨h0, hv y hy h0⟩ h
   ·omega
theorem wf_unique {X : List Int} {m : Nat} (h : WF ar X n) (k : WF ar X m) : n = m := by
 have one : ∀ (a d : Nat), WF ar X a → WF ar X (a + d) → d = 0 := by
  intro a d h k
  obtain ⟨e1, e2, h1, h2, h3⟩ := endGo_split k
  have : e1 = X.length := by unfold WF at h; rw [h] at h1; exact (Option.some.inj h1).symm
  rw [this, List.drop_length] at h2
  cases d with
  | zero => rfl
  | succ d => simp [endGo] at h2
 rcases Nat.le_total n m with hl | hl
 ·have := one n (m - n) h (by rw [show n + (m - n) = m from by omega]; exact k); omega
 ·have := one m (n - m) k (by rw [show m + (n - m) = n from by omega]; exact h); omega
theorem wf_drop {l : List Int} (h : TermW ar l) {p : Nat} (hp : p < l.length) {u : List Int} (hu : WF ar u 1) : WF ar (l.take p ++ u ++ l.drop (endN ar l p)) 1 := by
 -- what stands ahead, and what stands behind, are the same
 obtain ⟨k, hk⟩ := endGo_at h.whole p hp
 have hd : l.drop p = sub ar l p ++ l.drop (endN ar l p) := wf_sub h hp
 have hsw := (h.sub hp).wf
 -- the rest behind p: one term, then k
 rw [show k + 1 = 1 + k from by omega] at hk
 obtain ⟨e1, e2, h1, h2, h3⟩ := endGo_split hk
 have he1 : e1 = (sub ar l p).length := by
  have h4 := endGo_more (b := l.drop (endN ar l p)) hsw
  rw [← hd, h1] at h4
  exact Option.some.inj h4
 have h5 : WF ar (l.drop (endN ar l p)) k := by
  unfold WF
  rw [he1, hd, List.drop_left] at h2
  rw [h2]; congr 1
  have hl := congrArg List.length hd
  rw [List.length_append, List.length_drop] at hl
  omega
 have h6 : WF ar (u ++ l.drop (endN ar l p)) (1 + k) := WF_app hu h5
 have key : ∀ (A : List Int) (n : Nat) (X Y : List Int) (m : Nat), WF ar X m → WF ar Y m → WF ar (A ++ X) n → WF ar (A ++ Y) n := by
  intro A
  induction A with
  | nil =>
   intro n X Y m hX hY hA
   rw [List.nil_append] at hA
   have : n = m := wf_unique hA hX
   subst this; exact hY
  | cons x A ih =>
   intro n X Y m hX hY hA
   cases n with
   | zero => have := WF.zero hA; simp at this
   | succ n =>
    rw [List.cons_append] at hA ⊢
    have h := WF_cons.1 hA
    exact WF_cons.2 ⟨h.1, ih _ X Y m hX hY h.2⟩
 have h7 : WF ar (sub ar l p ++ l.drop (endN ar l p)) (1 + k) := WF_app hsw h5
 rw [List.append_assoc]
 refine key _ 1 _ _ _ h7 h6 ?_
 rw [← hd, List.take_append_drop]; exact h.wf
end
section
variable {ar : List Int} {rs : RulesT} {o p u : Nat} {b : RowL} {σ : Sbs} {x : PkT}
theorem left_wf (hs : sysOk ar rs = true) (ho : o < rs.length) (hu : u < rs.length) (hp : p < (Lr rs o).length) : WF ar (leftT ar rs o p u) 1 :=
 wf_drop (termW_of (rule_L hs ho)) hp (away_W (rule_R hs hu)).wf
structure PkS (ar : List Int) (rs : RulesT) (o p u : Nat) (x : PkT) (τ : Sbs) : Prop where
 good : GoodS ar τ
 top : x.1 = ap τ (Lr rs o)
 left : x.2.1 = ap τ (leftT ar rs o p u)
 right : x.2.2.1 = ap τ (Rr rs o)
 nums : x.2.2.2 = ((p : Int), (u : Int), (o : Int))
 met : ap τ (sub ar (Lr rs o) p) = ap τ (awayL (Lr rs u))
 topOk : termOk ar x.1 = true
 leftOk : termOk ar x.2.1 = true
 rightOk : termOk ar x.2.2.1 = true
theorem pkF_spec (hs : sysOk ar rs = true) (ho : o < rs.length) (hu : u < rs.length) (hp : p < (Lr rs o).length) (h : pkF ar rs o p u = some x) : ∃ τ, PkS ar rs o p u x τ := by
 unfold pkF at h
 split at h
 ·unfold peakF at h
  split at h
  ·rename_i hex
   obtain ⟨b, hm, hσ⟩ := Classical.choose_spec hex
   generalize Classical.choose hex = σ at *
   have g := hσ.good hm.ok
   have e := (hm.iff σ g).1 hσ.sat
   have hsig := (sysOk_iff.1 hs).1
   unfold peakOf at h
   simp only at h
   split at h
   ·rename_i hc
    cases h
    refine ⟨byS (orderL (ap σ (Lr rs o))) σ, byS_good g, ap_byS.symm, ap_byS.symm, ap_byS.symm, rfl, by rw [ap_byS, ap_byS, e], ?_, ?_, ?_⟩
    ·exact byL_ok hsig (ap_wf g (termW_of (rule_L hs ho)).wf) hc.1 hc.2.2.2 fun n hn h0 => mem_orderL.2 ⟨h0, hn⟩
    ·exact byL_ok hsig (ap_wf g (left_wf hs ho hu hp)) hc.2.1 hc.2.2.2 fun n hn h0 => mem_orderL.2 ⟨h0, left_vars hs ho hu hm hσ n hn h0⟩
    ·exact byL_ok hsig (ap_wf g (termW_of (rule_R hs ho)).wf) hc.2.2.1 hc.2.2.2 fun n hn h0 => mem_orderL.2 ⟨h0, ap_mono hσ (rule_vars hs ho) n hn h0⟩
   ·cases h
  ·cases h
 ·cases h
theorem meets_mem {m : Tr} (h : m ∈ meetsL ar rs) : m.1 < rs.length ∧ m.2.1 < (Lr rs m.1).length ∧ m.2.2 < rs.length ∧ 0 ≤ (Lr rs m.1).getD m.2.1 0 ∧ meetB ar rs m.1 m.2.1 m.2.2 = true := by
 have hU : ∀ o p n, ∀ m ∈ mU ar rs o p n, m.1 = o ∧ m.2.1 = p ∧ m.2.2 < n ∧ 0 ≤ (Lr rs o).getD p 0 ∧ meetB ar rs o p m.2.2 = true := by
  intro o p n
  induction n with
  | zero => intro m hm; simp [mU] at hm
  | succ n ih =>
   intro m hm
   rw [mU, List.mem_append] at hm
   rcases hm with hm | hm
   ·have := ih m hm; exact ⟨this.1, this.2.1, by omega, this.2.2.2⟩
   ·split at hm
    ·rename_i hc; rw [List.mem_singleton.1 hm]; exact ⟨rfl, rfl, by simp, hc.1, hc.2⟩
    ·cases hm
 have hP : ∀ o n, ∀ m ∈ mP ar rs o n, m.1 = o ∧ m.2.1 < n ∧ m.2.2 < rs.length ∧ 0 ≤ (Lr rs o).getD m.2.1 0 ∧ meetB ar rs o m.2.1 m.2.2 = true := by
  intro o n
  induction n with
  | zero => intro m hm; simp [mP] at hm
  | succ n ih =>
   intro m hm
   rw [mP, List.mem_append] at hm
   rcases hm with hm | hm
   ·have := ih m hm; exact ⟨this.1, by omega, this.2.2⟩
   ·have := hU o n _ m hm
    refine ⟨this.1, by omega, this.2.2.1, ?_, ?_⟩
    ·rw [this.2.1]; exact this.2.2.2.1
    ·rw [this.2.1]; exact this.2.2.2.2
 have hO : ∀ n, ∀ m ∈ mO ar rs n, m.1 < n ∧ m.2.1 < (Lr rs m.1).length ∧ m.2.2 < rs.length ∧ 0 ≤ (Lr rs m.1).getD m.2.1 0 ∧ meetB ar rs m.1 m.2.1 m.2.2 = true := by
  intro n
  induction n with
  | zero => intro m hm; simp [mO] at hm
  | succ n ih =>
   intro m hm
   rw [mO, List.mem_append] at hm
   rcases hm with hm | hm
   ·have := ih m hm; exact ⟨by omega, this.2⟩
   ·have := hP n _ m hm
    rw [this.1]
    exact ⟨by omega, this.2.1, this.2.2.1, this.2.2.2⟩
 exact hO _ m h
theorem psO_spec (h : x ∈ (psO ar rs).getD []) : sysOk ar rs = true ∧ ∃ m ∈ meetsL ar rs, pkF ar rs m.1 m.2.1 m.2.2 = some x := by
 unfold psO at h
 split at h
 ·rename_i hs
  refine ⟨hs, ?_⟩
  unfold peaksF at h
  split at h
  ·rename_i hc
   simp only [Option.getD_some] at h
   obtain ⟨m, hm, rfl⟩ := List.mem_map.1 h
   refine ⟨m, hm, ?_⟩
   have h1 := hc.1 m hm
   unfold pkD
   cases h2 : pkF ar rs m.1 m.2.1 m.2.2 with
   | none => rw [h2] at h1; cases h1
   | some y => rfl
  ·cases h
 ·cases h
theorem psO_ok (h : x ∈ (psO ar rs).getD []) : termOk ar x.1 = true ∧ termOk ar x.2.1 = true ∧ termOk ar x.2.2.1 = true := by
 obtain ⟨hs, m, hm, hf⟩ := psO_spec h
 have h1 := meets_mem hm
 obtain ⟨τ, hτ⟩ := pkF_spec hs h1.1 h1.2.2.1 h1.2.1 hf
 exact ⟨hτ.topOk, hτ.leftOk, hτ.rightOk⟩
theorem psO_okAt : ∀ i, i < ((psO ar rs).getD []).length → termOk ar (((psO ar rs).getD []).getD i ([], [], [], 0, 0, 0)).1 = true ∧ termOk ar (((psO ar rs).getD []).getD i ([], [], [], 0, 0, 0)).2.1 = true ∧ termOk ar (((psO ar rs).getD []).getD i ([], [], [], 0, 0, 0)).2.2.1 = true := fun i hi => by
 refine psO_ok (ar := ar) (rs := rs) ?_
 rw [List.getD_eq_getElem?_getD, List.getElem?_eq_getElem hi]
 exact List.getElem_mem hi
end
section
variable {ar : List Int} {rs : RulesT} {a b : List Int}
def rootB (ar : List Int) (rs : RulesT) (a b : List Int) : Bool := (List.range rs.length).any fun r => decide (stepL ar rs a 0 r = some b)
def parGo (ar : List Int) (rs : RulesT) : Nat → List Int → List Int → Bool
 | 0, _, _ => false
 | f + 1, a, b => (decide (a = b) || rootB ar rs a b) || (decide (0 ≤ a.getD 0 0 ∧ a.getD 0 0 = b.getD 0 0) && (List.range (partsL ar a).length).all fun i => parGo ar rs f ((partsL ar a).getD i []) ((partsL ar b).getD i []))
def parB (ar : List Int) (rs : RulesT) (a b : List Int) : Bool := parGo ar rs a.length a b
theorem part_len (ha : TermW ar a) {i : Nat} (hi : i < (partsL ar a).length) : ((partsL ar a).getD i []).length < a.length := by
 have := part_lt (GoodS.id (ar := ar)) ha hi
 rwa [ap_id, ap_id] at this
theorem part_ok (ha : termOk ar a = true) {i : Nat} (hi : i < (partsL ar a).length) : termOk ar ((partsL ar a).getD i []) = true := by
 have hl : i < (argsL ar a 0).length := by unfold partsL at hi; rwa [List.length_map] at hi
 rw [parts_get hl]
 have := (termW_of ha).args_in (p := 0) (by have := termOk_len ha; omega) hl
 have h2 := (termW_of ha).endN (p := 0) (by have := termOk_len ha; omega)
 exact sub_ok ha (by omega)
theorem parts_same (he : a.getD 0 0 = b.getD 0 0) : (partsL ar b).length = (partsL ar a).length := by rw [parts_len, parts_len, he]
theorem parGo_fuel : ∀ (f g : Nat) (a b : List Int), termOk ar a = true → a.length ≤ f → a.length ≤ g → parGo ar rs f a b = parGo ar rs g a b
 | 0, g, a, b, ha, hf, hg => by have := termOk_len ha; omega
 | f + 1, 0, a, b, ha, hf, hg => by have := termOk_len ha; omega
 | f + 1, g + 1, a, b, ha, hf, hg => by
  rw [parGo, parGo]
  congr 2
  rw [Bool.eq_iff_iff, List.all_eq_true, List.all_eq_true]
  have key : ∀ i, i < (partsL ar a).length → parGo ar rs f ((partsL ar a).getD i []) ((partsL ar b).getD i []) = parGo ar rs g ((partsL ar a).getD i []) ((partsL ar b).getD i []) := fun i hi => by
   have := part_len (termW_of ha) hi
   exact parGo_fuel f g _ _ (part_ok ha hi) (by omega) (by omega)
  constructor
  ·intro h i hi; rw [← key i (List.mem_range.1 hi)]; exact h i hi
  ·intro h i hi; rw [key i (List.mem_range.1 hi)]; exact h i hi
theorem parB_iff (ha : termOk ar a = true) : parB ar rs a b = true ↔ (a = b ∨ rootB ar rs a b = true) ∨ ((0 ≤ a.getD 0 0 ∧ a.getD 0 0 = b.getD 0 0) ∧ ∀ i, i < (partsL ar a).length → parB ar rs ((partsL ar a).getD i []) ((partsL ar b).getD i []) = true) := by
 have hl := termOk_len ha
 obtain ⟨n, hn⟩ : ∃ n, a.length = n + 1 := ⟨a.length - 1, by omega⟩
 unfold parB
 rw [hn, parGo]
 simp only [Bool.or_eq_true, Bool.and_eq_true, decide_eq_true_eq, List.all_eq_true, List.mem_range]
 have key : ∀ i, i < (partsL ar a).length → parGo ar rs n ((partsL ar a).getD i []) ((partsL ar b).getD i []) = parGo ar rs ((partsL ar a).getD i []).length ((partsL ar a).getD i []) ((partsL ar b).getD i []) := fun i hi => by
  have := part_len (termW_of ha) hi
  exact parGo_fuel n _ _ _ (part_ok ha hi) (by omega) (Nat.le_refl _)
 constructor
 ·rintro (h | ⟨h, h2⟩)
  ·exact .inl h
  ·exact .inr ⟨h, fun i hi => by rw [← key i hi]; exact h2 i hi⟩
 ·rintro (h | ⟨h, h2⟩)
  ·exact .inl h
  ·exact .inr ⟨h, fun i hi => by rw [key i hi]; exact h2 i hi⟩
theorem root_at {r : Nat} (hr : r < rs.length) (h : stepL ar rs a 0 r = some b) : rootB ar rs a b = true := List.any_eq_true.2 ⟨r, List.mem_range.2 hr, decide_eq_true h⟩
theorem root_no (h : ∀ r, r < rs.length → stepL ar rs a 0 r ≠ some b) : rootB ar rs a b = false := by
 rw [Bool.eq_false_iff]
 intro h1
 obtain ⟨r, hr, h2⟩ := List.any_eq_true.1 h1
 exact h r (List.mem_range.1 hr) (of_decide_eq_true h2)
theorem root_var (hs : sysOk ar rs = true) (ha : termOk ar a = true) (h0 : a.getD 0 0 < 0) : rootB ar rs a b = false := root_no fun r hr h => by
 have h1 := isRedex_var hs ha (p := 0) (by have := termOk_len ha; omega) h0 hr
 rw [stepL_nomatch (by unfold isRedex at h1; rw [Option.isSome_eq_false_iff] at *; exact h1)] at h
 cases h
theorem par_same (ha : termOk ar a = true) (h : a = b) : parB ar rs a b = true := (parB_iff ha).2 (.inl (.inl h))
theorem par_root (ha : termOk ar a = true) (h : rootB ar rs a b = true) : parB ar rs a b = true := (parB_iff ha).2 (.inl (.inr h))
theorem par_var (hs : sysOk ar rs = true) (ha : termOk ar a = true) (hne : a ≠ b) (h0 : a.getD 0 0 < 0) : parB ar rs a b = false := by
 rw [Bool.eq_false_iff]; intro h
 rcases (parB_iff ha).1 h with (h | h) | h
 ·exact hne h
 ·rw [root_var hs ha h0] at h; cases h
 ·omega
theorem par_heads (ha : termOk ar a = true) (hne : a ≠ b) (hr : rootB ar rs a b = false) (h0 : ¬ (0 ≤ a.getD 0 0 ∧ a.getD 0 0 = b.getD 0 0)) : parB ar rs a b = false := by
 rw [Bool.eq_false_iff]; intro h
 rcases (parB_iff ha).1 h with (h | h) | h
 ·exact hne h
 ·rw [hr] at h; cases h
 ·exact h0 h.1
theorem par_part (ha : termOk ar a = true) (hne : a ≠ b) (hr : rootB ar rs a b = false) {i : Nat} (hi : i < (partsL ar a).length) (h0 : parB ar rs ((partsL ar a).getD i []) ((partsL ar b).getD i []) = false) : parB ar rs a b = false := by
 rw [Bool.eq_false_iff]; intro h
 rcases (parB_iff ha).1 h with (h | h) | h
 ·exact hne h
 ·rw [hr] at h; cases h
 ·have := h.2 i hi; rw [h0] at this; cases this
theorem par_all (ha : termOk ar a = true) (h0 : 0 ≤ a.getD 0 0 ∧ a.getD 0 0 = b.getD 0 0) (h : ∀ i, i < (partsL ar a).length → parB ar rs ((partsL ar a).getD i []) ((partsL ar b).getD i []) = true) : parB ar rs a b = true := (parB_iff ha).2 (.inr ⟨h0, h⟩)
theorem step_at0 (hs : sysOk ar rs = true) (ha : termOk ar a = true) {k : Nat} (hk : k < rs.length) : stepAtL ar rs a 0 (k : Int) = stepL ar rs a 0 k := by
 have h := termOk_len ha
 have hok : stepAtOk ar rs a 0 (k : Int) = true := stepAtOk_iff.2 ⟨⟨hs, ha⟩, by omega, by omega⟩
 unfold stepAtL
 rw [if_pos hok]; rfl
end
end Go.Proofs.YtcdjpapjjoldeaaGreat.M
