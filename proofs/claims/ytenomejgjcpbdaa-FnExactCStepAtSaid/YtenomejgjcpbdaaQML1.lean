/-
  What the walks rest on (part 2).
-/
import Derived.Orders
import Derived.Tactics
import Derived.Below
import Derived.Laws.CopyRow
import Derived.Laws.AppendOwn
import Derived.IntWalk
import Derived.Lib.AppendZeros
import Derived.OrdersIn
import Derived.TacticsIn
import Derived.RangeFuncSeq
import Derived.RangeFuncRecord
import Derived.RangeFuncLeaves
import Derived.Scope
import Derived.Laws.Append
import Derived.WalkKit
import Derived.ProofKit
import Derived.OpenShut
import Derived.JoinedCond
import Derived.Carry
import Derived.Deep.Slices
import Derived.Test.YtenomejgjcpbdaaQML0
set_option linter.unusedSimpArgs false
set_option linter.unusedVariables false
namespace Go.Proofs.Ytenomejgjcpbdaa.M
section
variable {α : Type} {f : α → Nat} {l : List α} {k : Nat}
def gTo (f : α → Nat) (l : List α) (k : Nat) : Nat := ((l.take k).map f).sum
theorem gTo_succ (d : α) (h : k < l.length) : gTo f l k + f (l.getD k d) = gTo f l (k + 1) := by
 unfold gTo
 rw [take_succ_getD d h]
 simp
theorem gTo_le (d : α) : ∀ (k j : Nat), k ≤ j → j ≤ l.length → gTo f l k ≤ gTo f l j := by
 intro k j hkj
 induction j with
 | zero => intro _; rw [show k = 0 from by omega]; exact Nat.le_refl _
 | succ j ih =>
  intro hj
  rcases Nat.lt_or_ge k (j + 1) with h | h
  ·have := ih (by omega) (by omega)
   rw [← gTo_succ d (show j < l.length by omega)]
   omega
  ·rw [show k = j + 1 from by omega]; exact Nat.le_refl _
def szG (f : α → Nat) (l : List α) : Nat := l.length + gTo f l l.length
theorem szG_le (d : α) : l.length ≤ szG f l ∧ ∀ i, i < l.length → f (l.getD i d) ≤ szG f l := by
 refine ⟨by unfold szG; omega, fun i hi => ?_⟩
 have h1 := gTo_succ (f := f) d hi
 have h2 := gTo_le (f := f) (l := l) d (i + 1) l.length (by omega) (Nat.le_refl _)
 unfold szG
 omega
theorem ext_any {a b : List α} (d : α) (hl : a.length = b.length) (h : ∀ i, i < a.length → a.getD i d = b.getD i d) : a = b := by
 apply List.ext_getElem hl
 intro i h1 h2
 have := h i h1
 simpa [List.getD_eq_getElem?_getD, h1, h2] using this
end
theorem flatPair_len (rs : Rules) : (rs.flatMap flatPair).length ≤ szR rs := by
 unfold szR szTo
 rw [List.take_length, List.length_flatMap]
 have : (List.map (fun a => (flatPair a).length) rs) = rs.map (fun r => r.1.length + r.2.length) := List.map_congr_left fun r _ => by simp [flatPair]
 rw [this]; omega
theorem dec_le2 {z : Int} {n : Nat} (h : ¬ dec z n < 0) (hz : z ≤ 1048576) : (n : Int) ≤ 1048576 ∧ dec z n ≤ 1048576 ∧ 0 ≤ dec z n := by
 have h1 := dec_le h
 unfold dec at *
 split at h <;> omega
def lenS (s : StepL) : Nat := s.2.2.length
theorem flatStep_len (ss : List StepL) : (ss.flatMap flatStep).length ≤ 2 * ss.length + gTo lenS ss ss.length := by
 unfold gTo
 rw [List.take_length, List.length_flatMap]
 induction ss with
 | nil => simp
 | cons s ss ih => simp [flatStep, lenS] at ih ⊢; omega
section
variable {ar : List Int} {rs : Rules} {t u f : List Int} {ss : List StepL} {st : Int} {m k : Nat}
theorem gTo_bound {N : Nat} {l : List StepL} (h : ∀ i, i < l.length → (l.getD i (0, 0, [])).2.2.length ≤ N) : ∀ k, k ≤ l.length → gTo lenS l k ≤ k * N
 | 0, _ => by simp [gTo]
 | k + 1, hk => by
  have h1 := gTo_bound h k (by omega)
  have h2 := h k (by omega)
  rw [← gTo_succ ((0, 0, []) : StepL) (by omega), Nat.succ_mul]
  have : lenS (l.getD k (0, 0, [])) = (l.getD k (0, 0, [])).2.2.length := rfl
  omega
end
end Go.Proofs.Ytenomejgjcpbdaa.M
set_option linter.unusedSimpArgs false
set_option linter.unusedVariables false
namespace Go.Proofs.Ytenomejgjcpbdaa.X
open Go
def FR (r : Option Nat) : Fence := { Fence.wide with round := r }
theorem callsIn_FR {r : Option Nat} {n : Nat} {P : Program} {f : FuncId} {args : Array Value} {w : World} {R : Ending → World → Prop} (h : Calls P f args w R) : CallsIn (FR r) n P f args w R := by
 have h1 : CallsIn Fence.wide n P f args w R := callsIn_wide.2 h
 exact h1
structure RepD (n : Nat) (d : List Deferred) (a : Act) (ρ : Env) : Prop where
 size : a.tmps.size = n
 defers : a.defers = d
 get : ∀ i, a.tmps.getD i undef = ρ i
theorem RepD.eval {n : Nat} {d : List Deferred} {a : Act} {ρ : Env} (h : RepD n d a ρ) : a.eval = evO ρ := by
 funext x
 cases x <;> first | rfl | exact h.get _
theorem RepD.put {n : Nat} {ds : List Deferred} {a : Act} {ρ : Env} (h : RepD n ds a ρ) {d : Option Tmp} (hd : dOk n d = true) (v : Value) : RepD n ds (a.put d v) (putE ρ d v) := by
 have h' : Rep n { a with defers := [] } ρ := ⟨h.size, rfl, h.get⟩
 have := h'.put hd v
 refine ⟨?_, ?_, ?_⟩
 ·have := this.size; cases d <;> exact this
 ·cases d <;> exact h.defers
 ·have := this.get; cases d <;> exact this
section
variable {P : Program} {n : Nat} {r0 : Option Nat} {d0 : List Deferred} {ops : Array Oper} {l : List Oper} {Q : QX} {ρ : Env} {F : FH} {L : List HP}
theorem wpIn_of_XOp {o : Oper} {K : Post} {a : Act} {w : World} {Q : Exit → Act → World → Prop} {N : Act → World → Prop}
  (h : XOp P o ρ F L K) (r : RepD n d0 a ρ) (H : Holds F L w) (hd : dOk n o.dst = true) (hn : ∀ c, o.op ≠ .defer c)
  (hN : ∀ v F' L' w', F ≤ F' → Holds F' L' w' → K v F' L' → RepD n d0 (a.put o.dst v) (putE ρ o.dst v) → N (a.put o.dst v) w') : o.wpIn (FR r0) 9 P a w N Q := by
 refine ⟨fun _ _ => trivial, ?_⟩
 rw [Oper.semAt_eq _ _ _ hn, r.eval]
 rcases h w H with ⟨v, w', F', L', h1, h2, h3, h4⟩ | ⟨w', F', L', h1, h2, h3, h4⟩ | ⟨f, args, w', h1, h2⟩
 ·rw [h1]; exact hN v F' L' w' h2 h3 h4 (r.put hd v)
 ·rw [h1]; exact hN undef F' L' w' h2 h3 h4 (r.put hd undef)
 ·rw [h1]
  refine ⟨fun _ => by decide, callsIn_FR (h2.mono fun e w'' ⟨v, F', L', he, hle, hH, hk⟩ => ?_)⟩
  subst he
  exact hN v F' L' w'' hle hH hk (r.put hd v)
def Yld (P : Program) (l : Nat) (args : List Value) (F : FH) (L : List HP) (K : Post) : Prop :=
 ∀ w, Holds F L w → YieldAt Fence.wide 9 P l args.toArray w fun e w' => ∃ v F' L', e = .returned v ∧ F ≤ F' ∧ Holds F' L' w' ∧ K v F' L'
theorem Yld.mono {k : Nat} {args : List Value} {K K' : Post} (h : Yld P k args F L K) (hk : ∀ v F' L', F ≤ F' → K v F' L' → K' v F' L') : Yld P k args F L K' := by
 intro w H
 obtain ⟨fn, tmps, assign, body, hy, hr⟩ := h w H
 exact ⟨fn, tmps, assign, body, hy, hr.mono fun e w' ⟨v, F', L', a, b, c, d⟩ => ⟨v, F', L', a, b, c, hk _ _ _ b d⟩⟩
theorem Yld.weaken {k : Nat} {args : List Value} {K : Post} {L' : List HP} (s : Sub L L') (h : Yld P k args F L' K) : Yld P k args F L K := fun w H => h w (s.holds H)
end
section
variable {P : Program} {n : Nat} {r0 : Option Nat} {d0 : List Deferred} {Q : QX} {ρ : Env} {F : FH} {L : List HP}
end
section
variable {P : Program} {fn : Func} {Q : Post} {ρ : Env} {F F0 : FH} {L : List HP}
end
end Go.Proofs.Ytenomejgjcpbdaa.X
set_option linter.unusedSimpArgs false
set_option linter.unusedVariables false
namespace Go.Proofs.Ytenomejgjcpbdaa.X
open Go
theorem FzC.rdN {F : FH} {L : List HP} {b o : Nat} {cs vs : List Value} (h : FzC F b cs) (hv : (cs.drop o).take vs.length = vs) : ∀ i u, vs[i]? = some u → Rd F L ((⟨b, o, none⟩ : Addr).add i) u := by
 intro i u hu
 rw [add_lit]
 refine Rd.fz (h (o + i) u ?_)
 rw [← hv, List.getElem?_take] at hu
 split at hu
 ·rwa [List.getElem?_drop] at hu
 ·cases hu
end Go.Proofs.Ytenomejgjcpbdaa.X
set_option linter.unusedSimpArgs false
set_option linter.unusedVariables false
namespace Go.Proofs.Ytenomejgjcpbdaa.X
open Go
theorem Rd.all {F : FH} {L : List HP} {v : Value} {k : Nat} {es : List Value} (h : ∀ j u, es[j]? = some u → Rd F L (elemA v (k + j)) u) : ∀ i u, es[i]? = some u → Rd F L ((elemA v k).add i) u := by
 intro i u hu
 rw [elemA_add]
 exact h i u hu
abbrev FoundT := List Int × Int × StepT × Int
def FoundF (F : FH) (es : List Value) (x : FoundT) : Prop := ∃ a0 a4, es = [a0, .int .i64 x.2.1, .int .i64 x.2.2.1.1, .int .i64 x.2.2.1.2.1, a4, .int .i64 x.2.2.2] ∧ IntsF F a0 x.1 ∧ IntsF F a4 x.2.2.1.2.2
theorem FoundF.mono {F F' : FH} (le : F ≤ F') (es : List Value) (x : FoundT) (h : FoundF F es x) : FoundF F' es x := by
 obtain ⟨a0, a4, e, h0, h4⟩ := h
 exact ⟨a0, a4, e, h0.mono le, h4.mono le⟩
def FoundsF (F : FH) (v : Value) (xs : List FoundT) (cs : List Value) : Prop := ArrF F 6 v xs.length cs ∧ CO 6 FoundF ([], 0, (0, 0, []), 0) F cs xs
theorem FoundsF.mono {F F' : FH} {v : Value} {xs : List FoundT} {cs : List Value} (h : FoundsF F v xs cs) (le : F ≤ F') : FoundsF F' v xs cs := ⟨h.1.mono le, CO.mono (FoundF.mono le) h.2⟩
theorem FoundsF.slv {F : FH} {L : List HP} {v : Value} {xs : List FoundT} {cs : List Value} (h : FoundsF F v xs cs) : SlV F L v xs.length := SlV.arr h.1
theorem FoundsF.isSl {F : FH} {v : Value} {xs : List FoundT} {cs : List Value} (h : FoundsF F v xs cs) : IsSl v := h.1.isSl
theorem FoundsF.rd {F : FH} {v : Value} {xs : List FoundT} {cs : List Value} (h : FoundsF F v xs cs) {i : Nat} (hi : i < xs.length) : ∃ a0 a4, IntsF F a0 (xs.getD i ([], 0, (0, 0, []), 0)).1 ∧ IntsF F a4 (xs.getD i ([], 0, (0, 0, []), 0)).2.2.1.2.2 ∧ (∀ L j u, ([a0, .int .i64 (xs.getD i ([], 0, (0, 0, []), 0)).2.1, .int .i64 (xs.getD i ([], 0, (0, 0, []), 0)).2.2.1.1, .int .i64 (xs.getD i ([], 0, (0, 0, []), 0)).2.2.1.2.1, a4, .int .i64 (xs.getD i ([], 0, (0, 0, []), 0)).2.2.2] : List Value)[j]? = some u → Rd F L (elemA v (i * 6 + j)) u) ∧ (∀ j u, ([a0, .int .i64 (xs.getD i ([], 0, (0, 0, []), 0)).2.1, .int .i64 (xs.getD i ([], 0, (0, 0, []), 0)).2.2.1.1, .int .i64 (xs.getD i ([], 0, (0, 0, []), 0)).2.2.1.2.1, a4, .int .i64 (xs.getD i ([], 0, (0, 0, []), 0)).2.2.2] : List Value)[j]? = some u → cs[i * 6 + j]? = some u) := by
 obtain ⟨es, h1, h2, a0, a4, rfl, h0, h4⟩ := h.2.2 i hi
 refine ⟨a0, a4, h0, h4, fun L j u hu => ?_, fun j u hu => ?_⟩
 ·have := Rd.arrN (L := L) (k := i * 6) (vs := [a0, .int .i64 (xs.getD i ([], 0, (0, 0, []), 0)).2.1, .int .i64 (xs.getD i ([], 0, (0, 0, []), 0)).2.2.1.1, .int .i64 (xs.getD i ([], 0, (0, 0, []), 0)).2.2.1.2.1, a4, .int .i64 (xs.getD i ([], 0, (0, 0, []), 0)).2.2.2]) h.1 (by rw [h1]; exact h2) j u hu
  rwa [elemA_add] at this
 ·rw [← h2, List.getElem?_take] at hu
  split at hu
  ·rwa [List.getElem?_drop] at hu
  ·cases hu
def FoundsC (F : FH) (cs : List Value) (xs : List FoundT) : Prop := CO 6 FoundF ([], 0, (0, 0, []), 0) F cs xs
theorem FoundsC.mono {F F' : FH} {cs : List Value} {xs : List FoundT} (h : FoundsC F cs xs) (le : F ≤ F') : FoundsC F' cs xs := CO.mono (FoundF.mono le) h
theorem FoundsC.snoc {F : FH} {cs : List Value} {xs : List FoundT} {a0 a4 : Value} {y0 : List Int} {y1 : Int} {y2 : Int} {y3 : Int} {y4 : List Int} {y5 : Int} (h : FoundsC F cs xs) (h0 : IntsF F a0 y0) (h4 : IntsF F a4 y4) : FoundsC F (cs ++ [a0, .int .i64 y1, .int .i64 y2, .int .i64 y3, a4, .int .i64 y5]) (xs ++ [(y0, y1, (y2, y3, y4), y5)]) := CO.snoc h rfl ⟨a0, a4, rfl, h0, h4⟩
theorem FoundsC.get {F : FH} {cs : List Value} {xs : List FoundT} (h : FoundsC F cs xs) {i : Nat} (hi : i < xs.length) : ∃ a0 a4, IntsF F a0 (xs.getD i ([], 0, (0, 0, []), 0)).1 ∧ IntsF F a4 (xs.getD i ([], 0, (0, 0, []), 0)).2.2.1.2.2 ∧ (∀ j u, ([a0, .int .i64 (xs.getD i ([], 0, (0, 0, []), 0)).2.1, .int .i64 (xs.getD i ([], 0, (0, 0, []), 0)).2.2.1.1, .int .i64 (xs.getD i ([], 0, (0, 0, []), 0)).2.2.1.2.1, a4, .int .i64 (xs.getD i ([], 0, (0, 0, []), 0)).2.2.2] : List Value)[j]? = some u → cs[i * 6 + j]? = some u) := by
 obtain ⟨es, hl, ⟨a0, a4, rfl, h0, h4⟩, hr⟩ := CO.get h hi
 exact ⟨a0, a4, h0, h4, hr⟩
theorem FoundsC.fz {F : FH} {cs : List Value} {xs : List FoundT} {E : TypeId} {v : Value} {n : Nat} (h : FoundsC F cs xs) (hn : n = xs.length) (hf : Fz (slH E 6 v n cs) F) : FoundsF F v xs cs := by
 subst hn
 exact ⟨hf.sl, h⟩
abbrev MoveT := Int × Int × Bool × List Int
def MoveF (F : FH) (es : List Value) (x : MoveT) : Prop := ∃ a3, es = [.int .i64 x.1, .int .i64 x.2.1, .bool x.2.2.1, a3] ∧ IntsF F a3 x.2.2.2
theorem MoveF.mono {F F' : FH} (le : F ≤ F') (es : List Value) (x : MoveT) (h : MoveF F es x) : MoveF F' es x := by
 obtain ⟨a3, e, h3⟩ := h
 exact ⟨a3, e, h3.mono le⟩
def MovesF : FH → Value → List MoveT → Prop := SlOf 4 MoveF (0, 0, false, [])
theorem MovesF.mono {F F' : FH} {v : Value} {xs : List MoveT} (h : MovesF F v xs) (le : F ≤ F') : MovesF F' v xs := SlOf.mono (MoveF.mono le) h le
theorem MovesF.slv {F : FH} {L : List HP} {v : Value} {xs : List MoveT} (h : MovesF F v xs) : SlV F L v xs.length := SlOf.slv h
theorem MovesF.isSl {F : FH} {v : Value} {xs : List MoveT} (h : MovesF F v xs) : IsSl v := by obtain ⟨_, h, _⟩ := h; exact h.isSl
theorem MovesF.rd {F : FH} {v : Value} {xs : List MoveT} (h : MovesF F v xs) {i : Nat} (hi : i < xs.length) : ∃ a3, IntsF F a3 (xs.getD i (0, 0, false, [])).2.2.2 ∧ (∀ L j u, ([.int .i64 (xs.getD i (0, 0, false, [])).1, .int .i64 (xs.getD i (0, 0, false, [])).2.1, .bool (xs.getD i (0, 0, false, [])).2.2.1, a3] : List Value)[j]? = some u → Rd F L (elemA v (i * 4 + j)) u) ∧ True := by
 obtain ⟨es, hl, ⟨a3, rfl, h3⟩, hr⟩ := SlOf.get h hi
 exact ⟨a3, h3, hr, trivial⟩
def MovesC (F : FH) (cs : List Value) (xs : List MoveT) : Prop := CO 4 MoveF (0, 0, false, []) F cs xs
theorem MovesC.mono {F F' : FH} {cs : List Value} {xs : List MoveT} (h : MovesC F cs xs) (le : F ≤ F') : MovesC F' cs xs := CO.mono (MoveF.mono le) h
theorem MovesC.snoc {F : FH} {cs : List Value} {xs : List MoveT} {a3 : Value} {y0 : Int} {y1 : Int} {y2 : Bool} {y3 : List Int} (h : MovesC F cs xs) (h3 : IntsF F a3 y3) : MovesC F (cs ++ [.int .i64 y0, .int .i64 y1, .bool y2, a3]) (xs ++ [(y0, y1, y2, y3)]) := CO.snoc h rfl ⟨a3, rfl, h3⟩
theorem MovesC.get {F : FH} {cs : List Value} {xs : List MoveT} (h : MovesC F cs xs) {i : Nat} (hi : i < xs.length) : ∃ a3, IntsF F a3 (xs.getD i (0, 0, false, [])).2.2.2 ∧ (∀ j u, ([.int .i64 (xs.getD i (0, 0, false, [])).1, .int .i64 (xs.getD i (0, 0, false, [])).2.1, .bool (xs.getD i (0, 0, false, [])).2.2.1, a3] : List Value)[j]? = some u → cs[i * 4 + j]? = some u) := by
 obtain ⟨es, hl, ⟨a3, rfl, h3⟩, hr⟩ := CO.get h hi
 exact ⟨a3, h3, hr⟩
abbrev PolyT := Int × List Int
def PolyF (F : FH) (es : List Value) (x : PolyT) : Prop := ∃ a1, es = [.int .i64 x.1, a1] ∧ IntsF F a1 x.2
theorem PolyF.mono {F F' : FH} (le : F ≤ F') (es : List Value) (x : PolyT) (h : PolyF F es x) : PolyF F' es x := by
 obtain ⟨a1, e, h1⟩ := h
 exact ⟨a1, e, h1.mono le⟩
def PolysF : FH → Value → List PolyT → Prop := SlOf 2 PolyF (0, [])
theorem PolysF.mono {F F' : FH} {v : Value} {xs : List PolyT} (h : PolysF F v xs) (le : F ≤ F') : PolysF F' v xs := SlOf.mono (PolyF.mono le) h le
theorem PolysF.slv {F : FH} {L : List HP} {v : Value} {xs : List PolyT} (h : PolysF F v xs) : SlV F L v xs.length := SlOf.slv h
theorem PolysF.isSl {F : FH} {v : Value} {xs : List PolyT} (h : PolysF F v xs) : IsSl v := by obtain ⟨_, h, _⟩ := h; exact h.isSl
theorem PolysF.rd {F : FH} {v : Value} {xs : List PolyT} (h : PolysF F v xs) {i : Nat} (hi : i < xs.length) : ∃ a1, IntsF F a1 (xs.getD i (0, [])).2 ∧ (∀ L j u, ([.int .i64 (xs.getD i (0, [])).1, a1] : List Value)[j]? = some u → Rd F L (elemA v (i * 2 + j)) u) ∧ True := by
 obtain ⟨es, hl, ⟨a1, rfl, h1⟩, hr⟩ := SlOf.get h hi
 exact ⟨a1, h1, hr, trivial⟩
def PolysC (F : FH) (cs : List Value) (xs : List PolyT) : Prop := CO 2 PolyF (0, []) F cs xs
theorem PolysC.mono {F F' : FH} {cs : List Value} {xs : List PolyT} (h : PolysC F cs xs) (le : F ≤ F') : PolysC F' cs xs := CO.mono (PolyF.mono le) h
theorem PolysC.snoc {F : FH} {cs : List Value} {xs : List PolyT} {a1 : Value} {y0 : Int} {y1 : List Int} (h : PolysC F cs xs) (h1 : IntsF F a1 y1) : PolysC F (cs ++ [.int .i64 y0, a1]) (xs ++ [(y0, y1)]) := CO.snoc h rfl ⟨a1, rfl, h1⟩
theorem PolysC.get {F : FH} {cs : List Value} {xs : List PolyT} (h : PolysC F cs xs) {i : Nat} (hi : i < xs.length) : ∃ a1, IntsF F a1 (xs.getD i (0, [])).2 ∧ (∀ j u, ([.int .i64 (xs.getD i (0, [])).1, a1] : List Value)[j]? = some u → cs[i * 2 + j]? = some u) := by
 obtain ⟨es, hl, ⟨a1, rfl, h1⟩, hr⟩ := CO.get h hi
 exact ⟨a1, h1, hr⟩
abbrev LineT := Int × List (List Int) × List Int
def LineF (F : FH) (es : List Value) (x : LineT) : Prop := ∃ a1 a2, es = [.int .i64 x.1, a1, a2] ∧ RowsF F a1 x.2.1 ∧ IntsF F a2 x.2.2
theorem LineF.mono {F F' : FH} (le : F ≤ F') (es : List Value) (x : LineT) (h : LineF F es x) : LineF F' es x := by
 obtain ⟨a1, a2, e, h1, h2⟩ := h
 exact ⟨a1, a2, e, h1.mono le, h2.mono le⟩
def LinesF : FH → Value → List LineT → Prop := SlOf 3 LineF (0, [], [])
theorem LinesF.mono {F F' : FH} {v : Value} {xs : List LineT} (h : LinesF F v xs) (le : F ≤ F') : LinesF F' v xs := SlOf.mono (LineF.mono le) h le
theorem LinesF.slv {F : FH} {L : List HP} {v : Value} {xs : List LineT} (h : LinesF F v xs) : SlV F L v xs.length := SlOf.slv h
theorem LinesF.isSl {F : FH} {v : Value} {xs : List LineT} (h : LinesF F v xs) : IsSl v := by obtain ⟨_, h, _⟩ := h; exact h.isSl
theorem LinesF.rd {F : FH} {v : Value} {xs : List LineT} (h : LinesF F v xs) {i : Nat} (hi : i < xs.length) : ∃ a1 a2, RowsF F a1 (xs.getD i (0, [], [])).2.1 ∧ IntsF F a2 (xs.getD i (0, [], [])).2.2 ∧ (∀ L j u, ([.int .i64 (xs.getD i (0, [], [])).1, a1, a2] : List Value)[j]? = some u → Rd F L (elemA v (i * 3 + j)) u) ∧ True := by
 obtain ⟨es, hl, ⟨a1, a2, rfl, h1, h2⟩, hr⟩ := SlOf.get h hi
 exact ⟨a1, a2, h1, h2, hr, trivial⟩
def LinesC (F : FH) (cs : List Value) (xs : List LineT) : Prop := CO 3 LineF (0, [], []) F cs xs
theorem LinesC.mono {F F' : FH} {cs : List Value} {xs : List LineT} (h : LinesC F cs xs) (le : F ≤ F') : LinesC F' cs xs := CO.mono (LineF.mono le) h
theorem LinesC.snoc {F : FH} {cs : List Value} {xs : List LineT} {a1 a2 : Value} {y0 : Int} {y1 : List (List Int)} {y2 : List Int} (h : LinesC F cs xs) (h1 : RowsF F a1 y1) (h2 : IntsF F a2 y2) : LinesC F (cs ++ [.int .i64 y0, a1, a2]) (xs ++ [(y0, y1, y2)]) := CO.snoc h rfl ⟨a1, a2, rfl, h1, h2⟩
theorem LinesC.get {F : FH} {cs : List Value} {xs : List LineT} (h : LinesC F cs xs) {i : Nat} (hi : i < xs.length) : ∃ a1 a2, RowsF F a1 (xs.getD i (0, [], [])).2.1 ∧ IntsF F a2 (xs.getD i (0, [], [])).2.2 ∧ (∀ j u, ([.int .i64 (xs.getD i (0, [], [])).1, a1, a2] : List Value)[j]? = some u → cs[i * 3 + j]? = some u) := by
 obtain ⟨es, hl, ⟨a1, a2, rfl, h1, h2⟩, hr⟩ := CO.get h hi
 exact ⟨a1, a2, h1, h2, hr⟩
abbrev CRuleT := List Int × List Int × List (List Int × List Int)
def CRuleF (F : FH) (es : List Value) (x : CRuleT) : Prop := ∃ a0 a1 a2, es = [a0, a1, a2] ∧ IntsF F a0 x.1 ∧ IntsF F a1 x.2.1 ∧ PairsF F a2 x.2.2
theorem CRuleF.mono {F F' : FH} (le : F ≤ F') (es : List Value) (x : CRuleT) (h : CRuleF F es x) : CRuleF F' es x := by
 obtain ⟨a0, a1, a2, e, h0, h1, h2⟩ := h
 exact ⟨a0, a1, a2, e, h0.mono le, h1.mono le, h2.mono le⟩
def CRulesF : FH → Value → List CRuleT → Prop := SlOf 3 CRuleF ([], [], [])
theorem CRulesF.mono {F F' : FH} {v : Value} {xs : List CRuleT} (h : CRulesF F v xs) (le : F ≤ F') : CRulesF F' v xs := SlOf.mono (CRuleF.mono le) h le
theorem CRulesF.slv {F : FH} {L : List HP} {v : Value} {xs : List CRuleT} (h : CRulesF F v xs) : SlV F L v xs.length := SlOf.slv h
theorem CRulesF.isSl {F : FH} {v : Value} {xs : List CRuleT} (h : CRulesF F v xs) : IsSl v := by obtain ⟨_, h, _⟩ := h; exact h.isSl
theorem CRulesF.rd {F : FH} {v : Value} {xs : List CRuleT} (h : CRulesF F v xs) {i : Nat} (hi : i < xs.length) : ∃ a0 a1 a2, IntsF F a0 (xs.getD i ([], [], [])).1 ∧ IntsF F a1 (xs.getD i ([], [], [])).2.1 ∧ PairsF F a2 (xs.getD i ([], [], [])).2.2 ∧ (∀ L j u, ([a0, a1, a2] : List Value)[j]? = some u → Rd F L (elemA v (i * 3 + j)) u) ∧ True := by
 obtain ⟨es, hl, ⟨a0, a1, a2, rfl, h0, h1, h2⟩, hr⟩ := SlOf.get h hi
 exact ⟨a0, a1, a2, h0, h1, h2, hr, trivial⟩
def CRulesC (F : FH) (cs : List Value) (xs : List CRuleT) : Prop := CO 3 CRuleF ([], [], []) F cs xs
theorem CRulesC.mono {F F' : FH} {cs : List Value} {xs : List CRuleT} (h : CRulesC F cs xs) (le : F ≤ F') : CRulesC F' cs xs := CO.mono (CRuleF.mono le) h
theorem CRulesC.snoc {F : FH} {cs : List Value} {xs : List CRuleT} {a0 a1 a2 : Value} {y0 : List Int} {y1 : List Int} {y2 : List (List Int × List Int)} (h : CRulesC F cs xs) (h0 : IntsF F a0 y0) (h1 : IntsF F a1 y1) (h2 : PairsF F a2 y2) : CRulesC F (cs ++ [a0, a1, a2]) (xs ++ [(y0, y1, y2)]) := CO.snoc h rfl ⟨a0, a1, a2, rfl, h0, h1, h2⟩
theorem CRulesC.get {F : FH} {cs : List Value} {xs : List CRuleT} (h : CRulesC F cs xs) {i : Nat} (hi : i < xs.length) : ∃ a0 a1 a2, IntsF F a0 (xs.getD i ([], [], [])).1 ∧ IntsF F a1 (xs.getD i ([], [], [])).2.1 ∧ PairsF F a2 (xs.getD i ([], [], [])).2.2 ∧ (∀ j u, ([a0, a1, a2] : List Value)[j]? = some u → cs[i * 3 + j]? = some u) := by
 obtain ⟨es, hl, ⟨a0, a1, a2, rfl, h0, h1, h2⟩, hr⟩ := CO.get h hi
 exact ⟨a0, a1, a2, h0, h1, h2, hr⟩
end Go.Proofs.Ytenomejgjcpbdaa.X
set_option linter.unusedSimpArgs false
set_option linter.unusedVariables false
namespace Go.Proofs.Ytenomejgjcpbdaa.X
open Go
def XStepsF (F : FH) (v : Value) (xs : List StepT) (cs : List Value) : Prop := ArrF F 3 v xs.length cs ∧ StepsC F cs xs
theorem XStepsF.mono {F F' : FH} {v : Value} {xs : List StepT} {cs : List Value} (h : XStepsF F v xs cs) (le : F ≤ F') : XStepsF F' v xs cs := ⟨h.1.mono le, h.2.mono le⟩
theorem XStepsF.slv {F : FH} {L : List HP} {v : Value} {xs : List StepT} {cs : List Value} (h : XStepsF F v xs cs) : SlV F L v xs.length := SlV.arr h.1
theorem XStepsF.isSl {F : FH} {v : Value} {xs : List StepT} {cs : List Value} (h : XStepsF F v xs cs) : IsSl v := h.1.isSl
theorem XStepsF.rd {F : FH} {v : Value} {xs : List StepT} {cs : List Value} (h : XStepsF F v xs cs) {i : Nat} (hi : i < xs.length) : ∃ c, IntsF F c (xs.getD i (0, 0, [])).2.2 ∧ (∀ L, Rd F L (elemA v (i * 3)) (.int .i64 (xs.getD i (0, 0, [])).1)) ∧ (∀ L, Rd F L (elemA v (i * 3 + 1)) (.int .i64 (xs.getD i (0, 0, [])).2.1)) ∧ (∀ L, Rd F L (elemA v (i * 3 + 2)) c) ∧ cs[i * 3 + 2]? = some c := by
 obtain ⟨es, h1, h2, c, rfl, hc⟩ := h.2.2 i hi
 have hq : ∀ j u, ([.int .i64 (xs.getD i (0, 0, [])).1, .int .i64 (xs.getD i (0, 0, [])).2.1, c] : List Value)[j]? = some u → cs[i * 3 + j]? = some u := by
  intro j u hu
  rw [← h2, List.getElem?_take] at hu
  split at hu
  ·rwa [List.getElem?_drop] at hu
  ·cases hu
 have hr : ∀ L j u, ([.int .i64 (xs.getD i (0, 0, [])).1, .int .i64 (xs.getD i (0, 0, [])).2.1, c] : List Value)[j]? = some u → Rd F L (elemA v (i * 3 + j)) u := by
  intro L j u hu
  have := Rd.arrN (L := L) (k := i * 3) (vs := [.int .i64 (xs.getD i (0, 0, [])).1, .int .i64 (xs.getD i (0, 0, [])).2.1, c]) h.1 (by rw [h1]; exact h2) j u hu
  rwa [elemA_add] at this
 exact ⟨c, hc, fun L => by simpa using hr L 0 _ rfl, fun L => hr L 1 _ rfl, fun L => hr L 2 _ rfl, hq 2 _ rfl⟩
section
variable {F F' : FH} {A B M : List HP} {h : HP}
theorem Fresh.none (k : Fresh F F' (star (A ++ B))) : Fresh F F' (star A) := by
 obtain ⟨m, hm, nd, hp⟩ := k
 obtain ⟨a, b, ha, hb, rfl⟩ := star_append.1 hm
 refine ⟨a, ha, ?_, fun p h' => hp p (List.mem_append_left _ h')⟩
 rw [List.map_append] at nd
 exact (List.nodup_append.1 nd).1
end
def FrStepsF (F0 F : FH) (e : TypeId) (v : Value) (xs : List StepT) : Prop := ∃ acs Ls, XStepsF F v xs acs ∧ DeepL 3 (StepO e) acs xs Ls ∧ Fresh F0 F (star Ls)
theorem FrStepsF.mono {F0 F F' : FH} {e : TypeId} {v : Value} {xs : List StepT} (h : FrStepsF F0 F e v xs) (le : F ≤ F') : FrStepsF F0 F' e v xs := by
 obtain ⟨acs, Ls, h1, h2, h3⟩ := h
 exact ⟨acs, Ls, h1.mono le, h2, h3.mono le⟩
theorem FrStepsF.base {F0 F F1 : FH} {e : TypeId} {v : Value} {xs : List StepT} (h : FrStepsF F1 F e v xs) (le : F0 ≤ F1) : FrStepsF F0 F e v xs := by
 obtain ⟨acs, Ls, h1, h2, h3⟩ := h
 exact ⟨acs, Ls, h1, h2, h3.base le⟩
theorem FrStepsF.isSl {F0 F : FH} {e : TypeId} {v : Value} {xs : List StepT} (h : FrStepsF F0 F e v xs) : IsSl v := by
 obtain ⟨acs, Ls, h1, _, _⟩ := h
 exact h1.isSl
end Go.Proofs.Ytenomejgjcpbdaa.X
set_option linter.unusedSimpArgs false
set_option linter.unusedVariables false
namespace Go.Proofs.Ytenomejgjcpbdaa.X
open Go
theorem yielded_undef {n : Nat} {a : Act} {ρ : Env} (r : Rep n a ρ) {ops : Array Oper} {g : Nat} {t : Tmp} (ht : (ops[g]?).bind (·.dst) = some t) (hv : ρ t = undef) : yielded ops a.tmps g = none := by
 unfold yielded
 rw [ht]
 have := r.get t
 rw [hv, Array.getD_eq_getD_getElem?] at this
 cases hx : a.tmps[t]? with
 | none => simp [hx]
 | some x => rw [hx] at this; simp at this; subst this; simp [hx, undef]
theorem XL.noU {P : Program} {n : Nat} {ops : Array Oper} {l : List Oper} {Q : QX} {ρ : Env} {F : FH} {L : List HP}
  {d : Option Tmp} {op : Op} {ty : TypeId} {pos : String} {af : Array Edge} {g : Nat} {b : Bool} {t : Tmp} (ht : (ops[g]?).bind (·.dst) = some t) (hv : ρ t = undef)
  (h : XL P n ops l Q (putE ρ d undef) F L) : XL P n ops (⟨d, op, ty, pos, af, some (g, b)⟩ :: l) Q ρ F L := by
 intro ok a w r H
 simp only [opsOk, List.all_cons, Bool.and_eq_true] at ok
 unfold wpList
 rw [if_neg (by simp [Region.wanted, yielded_undef r ht hv])]
 exact h ok.2 _ _ (r.put ok.1 undef) H
def FrIntsF (F0 F : FH) (e : TypeId) (v : Value) (xs : List Int) : Prop := Fresh F0 F (intsH e v xs)
theorem FrIntsF.mono {F0 F F' : FH} {e : TypeId} {v : Value} {xs : List Int} (h : FrIntsF F0 F e v xs) (le : F ≤ F') : FrIntsF F0 F' e v xs := Fresh.mono h le
theorem FrIntsF.base {F0 F F1 : FH} {e : TypeId} {v : Value} {xs : List Int} (h : FrIntsF F1 F e v xs) (le : F0 ≤ F1) : FrIntsF F0 F e v xs := Fresh.base h le
end Go.Proofs.Ytenomejgjcpbdaa.X
set_option linter.unusedSimpArgs false
set_option linter.unusedVariables false
namespace Go.Proofs.Ytenomejgjcpbdaa.X
open Go
def WJ (F0 : FH) (e ES T : TypeId) (bw : Nat) (fv : Value) (sg : List StepT) (tl : List HP) (k : Nat) (Fy : FH) (Ly : List HP) : Prop :=
 ∃ (sv : Value) (ss : List StepT) (cs : List Value) (Ls : List HP) (m : Nat), IsSl sv ∧ StepsC Fy cs ss ∧ m = ss.length ∧ DeepL 3 (StepO e) cs ss Ls ∧ Fresh F0 Fy (star Ls) ∧ ss = (sg.drop k).reverse ∧ Ly = cellsH bw [fv, sv] T :: slH ES 3 sv m cs :: tl
theorem WJ.start {F0 F : FH} {e ES T : TypeId} {bw : Nat} {fv : Value} {sg : List StepT} {tl : List HP} {b : Option Addr} : WJ F0 e ES T bw fv sg tl sg.length F (cellsH bw [fv, .slice b 0 0] T :: slH ES 3 (.slice b 0 0) 0 [] :: tl) :=
 ⟨_, [], [], [], 0, ⟨_, _, _, rfl⟩, CO.nil, rfl, .nil, .nilL, by simp, rfl⟩
end Go.Proofs.Ytenomejgjcpbdaa.X
set_option linter.unusedSimpArgs false
set_option linter.unusedVariables false
namespace Go.Proofs.Ytenomejgjcpbdaa.X
open Go
section
variable {F F' G F1 F2 : FH} {D D' : HP} {L M : List HP} {P : Program} {o : Oper} {ρ : Env} {K : Post} {e E : TypeId}
theorem Fresh.perm {A B : List HP} (h : Fresh F F' (star A)) (p : A.Perm B) : Fresh F F' (star B) := by
 obtain ⟨m, hm, nd, hp⟩ := h
 obtain ⟨l, hl, pl⟩ := star_perm p m hm
 exact ⟨l, hl, ((pl.map Prod.fst).nodup_iff).2 nd, fun q hq => hp q (pl.mem_iff.1 hq)⟩
theorem Fresh.left {A B : List HP} (h : Fresh F F' (star (A ++ B))) : Fresh F F' (star A) := h.none
theorem Fresh.right {A B : List HP} (h : Fresh F F' (star (A ++ B))) : Fresh F F' (star B) := (h.perm List.perm_append_comm).none
theorem StepsC.get {F : FH} {cs : List Value} {xs : List StepT} (h : StepsC F cs xs) {i : Nat} (hi : i < xs.length) :
  ∃ a, IntsF F a (xs.getD i (0, 0, [])).2.2 ∧ cs[i * 3]? = some (.int .i64 (xs.getD i (0, 0, [])).1) ∧ cs[i * 3 + 1]? = some (.int .i64 (xs.getD i (0, 0, [])).2.1) ∧ cs[i * 3 + 2]? = some a := by
 obtain ⟨es, _, ⟨a, rfl, ha⟩, hg⟩ := CO.get h hi
 exact ⟨a, ha, by simpa using hg 0 _ rfl, hg 1 _ rfl, hg 2 _ rfl⟩
def FreshsF (F0 F : FH) (D : HP) : Prop := Fresh F0 F D
theorem FreshsF.mono {F0 F F' : FH} {D : HP} (h : FreshsF F0 F D) (le : F ≤ F') : FreshsF F0 F' D := Fresh.mono h le
theorem slH.isSl {s n : Nat} {v : Value} {cs : List Value} {l : OH} (h : slH E s v n cs l) : IsSl v := by
 rcases h.2 with ⟨b, rfl, _⟩ | ⟨b, c, sp, rfl, _⟩
 ·exact ⟨_, _, _, rfl⟩
 ·exact ⟨_, _, _, rfl⟩
end
end Go.Proofs.Ytenomejgjcpbdaa.X
set_option linter.unusedSimpArgs false
set_option linter.unusedVariables false
namespace Go.Proofs.Ytenomejgjcpbdaa.X
open Go
section
variable {F F' G : FH} {e E : TypeId} {v : Value}
def MoveO (e : TypeId) (es : List Value) (x : MoveT) (K : List HP) : Prop := ∃ c, es = [.int .i64 x.1, .int .i64 x.2.1, .bool x.2.2.1, c] ∧ K = [intsH e c x.2.2.2]
abbrev movesD (e E : TypeId) (v : Value) (xs : List MoveT) : HP := deepH 4 (MoveO e) E v xs
theorem MoveO.fz (es : List Value) (x : MoveT) (K : List HP) (h : MoveO e es x K) (hz : ∃ l, star K l ∧ ∀ p ∈ l, F.cells p.1 = some p.2) : MoveF F es x := by
 obtain ⟨c, rfl, rfl⟩ := h
 exact ⟨c, rfl, intsH.fz (E := e) (frozen_star hz _ (by simp))⟩
theorem movesD.fz {xs : List MoveT} (h : Fz (movesD e E v xs) F) : MovesF F v xs := deepH.fz MoveO.fz h
end
def WJM (F0 : FH) (e ES T : TypeId) (bw : Nat) (fv : Value) (tk : Nat → List MoveT) (tl : List HP) (k : Nat) (Fy : FH) (Ly : List HP) : Prop :=
 ∃ (sv : Value) (ms : List MoveT) (cs : List Value) (Ls : List HP) (m : Nat), IsSl sv ∧ MovesC Fy cs ms ∧ m = ms.length ∧ DeepL 4 (MoveO e) cs ms Ls ∧ Fresh F0 Fy (star Ls) ∧ ms = tk k ∧ Ly = cellsH bw [fv, sv] T :: slH ES 4 sv m cs :: tl
theorem WJM.start {F0 F : FH} {e ES T : TypeId} {bw k : Nat} {fv : Value} {tk : Nat → List MoveT} {tl : List HP} {b : Option Addr} (h : tk k = []) : WJM F0 e ES T bw fv tk tl k F (cellsH bw [fv, .slice b 0 0] T :: slH ES 4 (.slice b 0 0) 0 [] :: tl) :=
 ⟨_, [], [], [], 0, ⟨_, _, _, rfl⟩, CO.nil, rfl, .nil, .nilL, h.symm, rfl⟩
section
variable {P : Program} {ρ : Env} {F : FH} {L : List HP} {K : Post} {d : Option Tmp} {ty : TypeId} {pos : String} {af : Array Edge} {g : Option (Nat × Bool)}
end
theorem StepsC.ones {F : FH} {cs : List Value} {xs : List StepT} (h : StepsC F cs xs) : ∀ u ∈ cs, u.oneCell' = true := by
 intro u hu
 obtain ⟨q, hq, rfl⟩ := List.getElem_of_mem hu
 have hl := h.1
 obtain ⟨es, h1, ⟨c, rfl, hc⟩, hg⟩ := CO.get h (i := q / 3) (by omega)
 have hj : q % 3 < 3 := Nat.mod_lt _ (by decide)
 have e : q / 3 * 3 + q % 3 = q := by omega
 have hx : ∀ v, [Value.int .i64 (xs.getD (q / 3) (0, 0, [])).1, .int .i64 (xs.getD (q / 3) (0, 0, [])).2.1, c][q % 3]? = some v → cs[q] = v := fun v hv => by
  have := hg (q % 3) v hv
  rw [e, List.getElem?_eq_getElem hq] at this
  exact Option.some.inj this
 obtain ⟨b, n, k, rfl⟩ := IntsF.isSl hc
 match hm : q % 3, hj with
 | 0, _ => rw [hx _ (by rw [hm]; rfl)]; rfl
 | 1, _ => rw [hx _ (by rw [hm]; rfl)]; rfl
 | 2, _ => rw [hx _ (by rw [hm]; rfl)]; rfl
end Go.Proofs.Ytenomejgjcpbdaa.X
set_option linter.unusedSimpArgs false
set_option linter.unusedVariables false
namespace Go.Proofs.Ytenomejgjcpbdaa.M
section
variable {ar : List Int} {rs : Rules} {a b t : List Int} {ts : RowL} {n : Int} {m k : Nat}
def eqN (ar : List Int) (rs : Rules) (a b : List Int) (m : Nat) : Int :=
 if (walkGo ar rs 1 m a).2 = true ∧ (walkGo ar rs 1 m b).2 = true then (if endL a (walkGo ar rs 1 m a).1 = endL b (walkGo ar rs 1 m b).1 then 1 else 0) else -1
end
end Go.Proofs.Ytenomejgjcpbdaa.M
set_option linter.unusedSimpArgs false
set_option linter.unusedVariables false
namespace Go.Proofs.Ytenomejgjcpbdaa.M
section
variable {α : Type} {q : α → Bool} {l : List α} {d : α} {k : Nat}
def badG (q : α → Bool) (l : List α) : Int := match l.findIdx? (fun t => !q t) with | some i => i | none => -1
theorem badG_at (d : α) (hk : k < l.length) (h : q (l.getD k d) = false) (hall : ∀ i, i < k → q (l.getD i d) = true) : badG q l = k := by
 unfold badG
 have : l.findIdx? (fun t => !q t) = some k := by
  rw [List.findIdx?_eq_some_iff_getElem]
  refine ⟨hk, by simpa [List.getD, hk] using h, fun j hj => ?_⟩
  have := hall j hj
  simpa [List.getD, Nat.lt_trans hj hk] using this
 rw [this]
theorem badG_none (d : α) (hall : ∀ i, i < l.length → q (l.getD i d) = true) : badG q l = -1 := by
 unfold badG
 have : l.findIdx? (fun t => !q t) = none := by
  rw [List.findIdx?_eq_none_iff]
  intro x hx
  obtain ⟨i, hi, rfl⟩ := List.getElem_of_mem hx
  simpa [List.getD, hi] using hall i hi
 rw [this]
theorem badG_iff : (badG q l ≥ 0) ↔ l.all q = false := by
 unfold badG
 cases h : l.findIdx? (fun t => !q t) with
 | none =>
  rw [List.findIdx?_eq_none_iff] at h
  have : l.all q = true := List.all_eq_true.2 fun x hx => by simpa using h x hx
  simp [this]
 | some i =>
  rw [List.findIdx?_eq_some_iff_getElem] at h
  obtain ⟨hi, h1, _⟩ := h
  have : l.all q = false := by
   rw [List.all_eq_false]
   exact ⟨_, List.getElem_mem hi, by simpa using h1⟩
  simp [this]
theorem all_getD_iff (d : α) : l.all q = true ↔ ∀ i, i < l.length → q (l.getD i d) = true := by
 rw [List.all_eq_true]
 refine ⟨fun h i hi => h _ (by simp [List.getD, hi]), fun h x hx => ?_⟩
 obtain ⟨i, hi, rfl⟩ := List.getElem_of_mem hx
 simpa [List.getD, hi] using h i hi
theorem all_fail (d : α) (hk : k < l.length) (h : q (l.getD k d) = false) : l.all q = false := by
 cases hx : l.all q with
 | false => rfl
 | true => have := (all_getD_iff d).1 hx k hk; rw [h] at this; cases this
end
section
variable {ar : List Int} {rs es : Rules} {a b : List Int} {n : Int} {m k : Nat}
def eqOkL (ar : List Int) (e : List Int × List Int) : Bool := termOk ar e.1 && termOk ar e.2
def eq1 (ar : List Int) (rs : Rules) (m : Nat) (e : List Int × List Int) : Bool := decide (eqN ar rs e.1 e.2 m = 1)
end
end Go.Proofs.Ytenomejgjcpbdaa.M
set_option linter.unusedSimpArgs false
set_option linter.unusedVariables false
namespace Go.Proofs.Ytenomejgjcpbdaa.M
abbrev StepV := Int × Int × List Int
def stepOne (ar : List Int) (rs : Rules) (t : List Int) (p r : Nat) : List StepV := match stepL ar rs t p r with | some u => [((p : Int), (r : Int), u)] | none => []
def stepsRow (ar : List Int) (rs : Rules) (t : List Int) (p k : Nat) : List StepV := (List.range k).flatMap (stepOne ar rs t p)
def stepsTo (ar : List Int) (rs : Rules) (t : List Int) (p : Nat) : List StepV := (List.range p).flatMap fun q => stepsRow ar rs t q rs.length
def stepsL (ar : List Int) (rs : Rules) (t : List Int) : List StepV := stepsTo ar rs t t.length
section
variable {ar t : List Int} {rs : Rules} {p r k : Nat} {u : List Int}
end
abbrev FoundV := List Int × Int × StepV × Int
def isIn (all : List FoundV) (t : List Int) : Bool := all.any fun x => decide (x.1 = t)
def start0 (t : List Int) : List FoundV := [(t, -1, (0, 0, []), 0)]
section
variable {ar t : List Int} {rs : Rules} {n d : Int} {k f : Nat} {all : List FoundV} {ss : List StepV}
abbrev EL (all : List FoundV) (k : Nat) : FoundV := all.getD k ([], 0, (0, 0, []), 0)
def AllOk (ar : List Int) (all : List FoundV) : Prop := ∀ i, i < all.length → termOk ar (EL all i).1 = true
theorem AllOk.snoc {x : FoundV} (h : AllOk ar all) (hx : termOk ar x.1 = true) : AllOk ar (all ++ [x]) := by
 intro i hi
 rw [List.length_append, List.length_singleton] at hi
 rcases Nat.lt_or_ge i all.length with h1 | h1
 ·have := h i h1; unfold EL at *; rwa [List.getD_eq_getElem?_getD, List.getElem?_append_left h1, ← List.getD_eq_getElem?_getD]
 ·obtain rfl : i = all.length := by omega
  unfold EL; simp [List.getD]; exact hx
theorem AllOk.start (h : termOk ar t = true) : AllOk ar (start0 t) := by
 intro i hi
 obtain rfl : i = 0 := by simp [start0] at hi; exact hi
 exact h
def DeepOk (n : Int) (all : List FoundV) : Prop := ∀ i, i < all.length → 0 ≤ (EL all i).2.2.2 ∧ (EL all i).2.2.2 ≤ n
theorem DeepOk.snoc {x : FoundV} (h : DeepOk n all) (hx : 0 ≤ x.2.2.2 ∧ x.2.2.2 ≤ n) : DeepOk n (all ++ [x]) := by
 intro i hi
 rw [List.length_append, List.length_singleton] at hi
 rcases Nat.lt_or_ge i all.length with h1 | h1
 ·have := h i h1; unfold EL at *; rwa [List.getD_eq_getElem?_getD, List.getElem?_append_left h1, ← List.getD_eq_getElem?_getD]
 ·obtain rfl : i = all.length := by omega
  unfold EL; simp [List.getD]; exact hx
theorem DeepOk.start (hn : 0 ≤ n) : DeepOk n (start0 t) := by
 intro i hi
 obtain rfl : i = 0 := by simp [start0] at hi; exact hi
 exact ⟨by simp [EL, start0], by simpa [EL, start0] using hn⟩
theorem isIn_some {i : Nat} {u : List Int} (hi : i < all.length) (h : (EL all i).1 = u) : isIn all u = true := by
 unfold isIn
 rw [List.any_eq_true]
 refine ⟨EL all i, ?_, by simpa using h⟩
 unfold EL; simp [List.getD, hi]
end
section
variable {all : List FoundV} {x : FoundV} {i : Nat}
theorem EL_snoc {k : Nat} (hk : k < all.length) : EL (all ++ [x]) k = EL all k := by unfold EL; rw [List.getD_eq_getElem?_getD, List.getElem?_append_left hk, ← List.getD_eq_getElem?_getD]
end
end Go.Proofs.Ytenomejgjcpbdaa.M
set_option linter.unusedSimpArgs false
set_option linter.unusedVariables false
namespace Go.Proofs.Ytenomejgjcpbdaa.M
def Link (all : List FoundV) : Prop := (0 < all.length ∧ (EL all 0).2.1 = -1 ∧ (EL all 0).2.2.2 = 0) ∧ ∀ i, 0 < i → i < all.length → 0 ≤ (EL all i).2.1 ∧ (EL all i).2.1 < (i : Int) ∧ (EL all i).2.2.2 = (EL all (EL all i).2.1.toNat).2.2.2 + 1 ∧ (EL all i).2.2.1.2.2 = (EL all i).1
def Dist (all : List FoundV) : Prop := ∀ i j, i < j → j < all.length → (EL all i).1 ≠ (EL all j).1
section
variable {ar t : List Int} {rs : Rules} {n : Int} {all : List FoundV}
theorem EL_last {x : FoundV} : EL (all ++ [x]) all.length = x := by unfold EL; simp [List.getD]
theorem Link.start : Link (start0 t) := ⟨⟨by simp [start0], rfl, rfl⟩, fun i h0 hi => by simp [start0] at hi; omega⟩
theorem Link.snoc {k : Nat} {s : StepV} {d : Int} (h : Link all) (hk : k < all.length) (hd : d = (EL all k).2.2.2) : Link (all ++ [(s.2.2, (k : Int), s, d + 1)]) := by
 obtain ⟨⟨h0, h2, h3⟩, h4⟩ := h
 refine ⟨⟨by simp, by rw [EL_snoc h0]; exact h2, by rw [EL_snoc h0]; exact h3⟩, fun i hi hl => ?_⟩
 rw [List.length_append, List.length_singleton] at hl
 rcases Nat.lt_or_ge i all.length with h | h
 ·obtain ⟨a, b, c, d⟩ := h4 i hi h
  rw [EL_snoc h]
  exact ⟨a, b, by rw [EL_snoc (by omega)]; exact c, d⟩
 ·obtain rfl : i = all.length := by omega
  rw [EL_last]
  refine ⟨by dsimp only; omega, by dsimp only; omega, ?_, rfl⟩
  dsimp only
  rw [show ((k : Int)).toNat = k from by omega, EL_snoc hk, hd]
theorem Dist.snoc {x : FoundV} (h : Dist all) (hx : isIn all x.1 = false) : Dist (all ++ [x]) := by
 intro i j hij hj
 rw [List.length_append, List.length_singleton] at hj
 rcases Nat.lt_or_ge j all.length with h1 | h1
 ·rw [EL_snoc h1, EL_snoc (by omega)]; exact h i j hij h1
 ·obtain rfl : j = all.length := by omega
  rw [EL_last, EL_snoc hij]
  intro he
  rw [isIn_some hij he] at hx
  cases hx
end
end Go.Proofs.Ytenomejgjcpbdaa.M
set_option linter.unusedSimpArgs false
set_option linter.unusedVariables false
namespace Go.Proofs.Ytenomejgjcpbdaa.M
def WalkB (f : List Int) (ss : List StepV) : Prop := f.length ≤ 60 ∧ ss.length ≤ 60 ∧ (∀ i, i < ss.length → (ss.getD i (0, 0, [])).2.2.length ≤ 60) ∧ (ss.flatMap flatStep).length ≤ 4000
theorem WalkB.nil : WalkB [] [] := ⟨by simp, by simp, fun i hi => by simp at hi, by simp⟩
theorem WalkB.mk {f : List Int} {ss : List StepV} (hf : f.length ≤ 60) (hs : ss.length ≤ 60) (h : ∀ s ∈ ss, s.2.2.length ≤ 60) : WalkB f ss := by
 have h0 : ∀ i, i < ss.length → (ss.getD i (0, 0, [])).2.2.length ≤ 60 := fun i hi => h _ (by simp [List.getD, hi])
 refine ⟨hf, hs, h0, ?_⟩
 have h1 := flatStep_len ss
 have h2 := gTo_bound h0 _ (Nat.le_refl _)
 have h4 : ss.length * 60 ≤ 60 * 60 := Nat.mul_le_mul_right 60 hs
 omega
section
variable {ar t u a b : List Int} {rs : Rules} {n : Int} {all : List FoundV} {k : Nat}
end
end Go.Proofs.Ytenomejgjcpbdaa.M
set_option linter.unusedSimpArgs false
set_option linter.unusedVariables false
namespace Go.Proofs.Ytenomejgjcpbdaa.M
abbrev MoveV := Int × Int × Bool × List Int
def flatMove (m : MoveV) : List Int := m.1 :: m.2.1 :: (if m.2.2.1 = decide ((m.2.1 + 1) % 3 = 0) then m.2.1 + 1 else m.2.1) :: m.2.2.2
section
variable {f g : List Int} {ms ns : List MoveV} {ss tt : List StepV} {j k : Nat}
def ChainB (f : List Int) (ms : List MoveV) : Prop := f.length ≤ 60 ∧ ms.length ≤ 60 ∧ (∀ i, i < ms.length → (ms.getD i (0, 0, false, [])).2.2.2.length ≤ 60) ∧ (ms.flatMap flatMove).length ≤ 4000
theorem flatMove_len (m : MoveV) : (flatMove m).length = m.2.2.2.length + 3 := rfl
theorem flatMoves_le : ∀ {ms : List MoveV}, (∀ m ∈ ms, m.2.2.2.length ≤ 60) → (ms.flatMap flatMove).length ≤ 63 * ms.length
 | [], _ => by simp
 | m :: ms, h => by
  have h1 := flatMoves_le (ms := ms) (fun x hx => h x (List.mem_cons_of_mem _ hx))
  have h2 := h m (by simp)
  rw [List.flatMap_cons, List.length_append, flatMove_len, List.length_cons]
  omega
theorem ChainB.mk (hf : f.length ≤ 60) (hm : ms.length ≤ 60) (h : ∀ m ∈ ms, m.2.2.2.length ≤ 60) : ChainB f ms := by
 refine ⟨hf, hm, fun i hi => h _ (by simp [List.getD, hi]), ?_⟩
 have := flatMoves_le h
 omega
theorem ChainB.nil : ChainB [] [] := .mk (by simp) (by simp) (by simp)
end
section
variable {ar f f2 a b : List Int} {rs : Rules} {ss s2 : List StepV} {n : Int}
end
end Go.Proofs.Ytenomejgjcpbdaa.M
set_option linter.unusedSimpArgs false
set_option linter.unusedVariables false
namespace Go.Proofs.Ytenomejgjcpbdaa.M
section
variable {ar : List Int} {rs : Rules} {t f u : List Int} {ss acc : List StepL} {p : Nat} {k : Nat}
end
end Go.Proofs.Ytenomejgjcpbdaa.M
set_option linter.unusedSimpArgs false
set_option linter.unusedVariables false
namespace Go.Proofs.Ytenomejgjcpbdaa.M
section
variable {ar : List Int} {rs : Rules} {t f : List Int} {ss : List StepL} {s : RowL} {p : Int}
def substOk (ar : List Int) (s : RowL) : Bool := sigOk ar && decide (s.length ≤ 24) && s.all (fun t => decide (t = []) || termOk ar t)
theorem len_nil {l : List Int} (h : ¬ ((l.length : Nat) : Int) > 0) : l = [] := List.eq_nil_of_length_eq_zero (by omega)
def loopOkL (ar : List Int) (rs : Rules) (f : List Int) (ss : List StepL) (p : Int) (s : RowL) : Bool :=
 decide (ss.length ≠ 0) && walkOkL ar rs f ss && posOk ar (endL f ss) p && substOk ar s && decide (fillL s f = some (sub ar (endL f ss) p.toNat))
theorem posOk_iff : posOk ar t p = true ↔ termOk ar t = true ∧ 0 ≤ p ∧ p < (t.length : Int) := by simp [posOk]
theorem fill_eq {v : List Int} (h : (fillL s f).isSome = true) : fillL s f = some v ↔ (fillL s f).getD [] = v := by
 obtain ⟨x, hx⟩ := Option.isSome_iff_exists.1 h
 rw [hx]; simp
end
end Go.Proofs.Ytenomejgjcpbdaa.M
set_option linter.unusedSimpArgs false
set_option linter.unusedVariables false
namespace Go.Proofs.Ytenomejgjcpbdaa.M
def argsGo (ar t : List Int) : Nat → Nat → List Int
 | 0, _ => []
 | n + 1, q => (q : Int) :: argsGo ar t n (endN ar t q)
def argsL (ar t : List Int) (p : Nat) : List Int := argsGo ar t (arity ar (t.getD p 0)).toNat (p + 1)
def Stand (ar t : List Int) (n q e : Nat) : Prop := endGo ar (t.drop q) n = some (e - q) ∧ q ≤ e ∧ e ≤ t.length
theorem stand_start {ar t : List Int} (h : termOk ar t = true) {p : Nat} (hp : p < t.length) : Stand ar t (arity ar (t.getD p 0)).toNat (p + 1) (endN ar t p) := by
 have he := endN_spec h hp
 obtain ⟨e, h1, h2, h3⟩ := endAt_some h hp
 have hN : endN ar t p = e := by simp [endN, h1]
 unfold endAt at h1
 rw [endGo_step (by omega) hp (termOk_lt h hp)] at h1
 rw [Nat.sub_self, Nat.zero_add] at h1
 refine ⟨?_, by omega, by omega⟩
 cases hg : endGo ar (t.drop (p + 1)) (arity ar (t.getD p 0)).toNat with
 | none => rw [hg] at h1; cases h1
 | some q => rw [hg] at h1; simp only [Option.map_some, Option.some.injEq] at h1; rw [Option.some.injEq]; omega
theorem stand_step {ar t : List Int} (h : termOk ar t = true) {n q e : Nat} (hs : Stand ar t (n + 1) q e) : q < t.length ∧ Stand ar t n (endN ar t q) e ∧ q < endN ar t q ∧ endN ar t q ≤ e := by
 obtain ⟨h1, h2, h3⟩ := hs
 have hpos := endGo_pos h1
 have hq : q < t.length := by omega
 have h1' := h1
 rw [Nat.add_comm] at h1
 obtain ⟨e1, e2, g1, g2, g3⟩ := endGo_split h1
 have hN : endN ar t q = q + e1 := by simp [endN, endAt, g1]
 have hE := endN_spec h hq
 rw [List.drop_drop] at g2
 refine ⟨hq, ⟨?_, by omega, h3⟩, by omega, by omega⟩
 rw [hN, g2]; congr 1; omega
theorem argsGo_len (ar t : List Int) : ∀ n q, (argsGo ar t n q).length = n
 | 0, _ => rfl
 | n + 1, q => by simp [argsGo, argsGo_len ar t n]
theorem argsL_len {ar t : List Int} {p : Nat} : (argsL ar t p).length = (arity ar (t.getD p 0)).toNat := argsGo_len ..
theorem argsL_le {ar t : List Int} (h : termOk ar t = true) {p : Nat} (hp : p < t.length) : (argsL ar t p).length ≤ 3 := by
 have := arity_le (termOk_sig h) (termOk_lt h hp)
 rw [argsL_len]; omega
theorem args_next {ar t : List Int} (h : termOk ar t = true) {p n q : Nat} {os : List Int} (hn : 1 ≤ n) (he : argsL ar t p = os ++ argsGo ar t n q) : argsL ar t p = (os ++ [(q : Int)]) ++ argsGo ar t (n - 1) (endN ar t q) := by
 obtain ⟨m, rfl⟩ : ∃ m, n = m + 1 := ⟨n - 1, by omega⟩
 rw [he, argsGo, Nat.add_sub_cancel, List.append_assoc]; rfl
end Go.Proofs.Ytenomejgjcpbdaa.M
set_option linter.unusedSimpArgs false
set_option linter.unusedVariables false
namespace Go.Proofs.Ytenomejgjcpbdaa.X
open Go
def WKJ (F0 : FH) (e ES T : TypeId) (bw : Nat) (fv : Value) (tl : List HP) (I : Nat → List StepT → Prop) (k : Nat) (Fy : FH) (Ly : List HP) : Prop :=
 ∃ (sv : Value) (ss : List StepT) (cs : List Value) (Ls : List HP) (m : Nat), IsSl sv ∧ StepsC Fy cs ss ∧ m = ss.length ∧ DeepL 3 (StepO e) cs ss Ls ∧ Fresh F0 Fy (star Ls) ∧ I k ss ∧ Ly = cellsH bw [fv, sv] T :: slH ES 3 sv m cs :: tl
theorem WKJ.start {F0 F : FH} {e ES T : TypeId} {bw : Nat} {fv : Value} {tl : List HP} {I : Nat → List StepT → Prop} {b : Option Addr} (h : I 0 []) : WKJ F0 e ES T bw fv tl I 0 F (cellsH bw [fv, .slice b 0 0] T :: slH ES 3 (.slice b 0 0) 0 [] :: tl) :=
 ⟨_, [], [], [], 0, ⟨_, _, _, rfl⟩, CO.nil, rfl, .nil, .nilL, h, rfl⟩
theorem WKJ.mono {F0 F F' : FH} {e ES T : TypeId} {bw k : Nat} {fv : Value} {tl L : List HP} {I : Nat → List StepT → Prop} (h : WKJ F0 e ES T bw fv tl I k F L) (le : F ≤ F') : WKJ F0 e ES T bw fv tl I k F' L :=
 let ⟨sv, ss, cs, Ls, m, h1, h2, h3, h4, h5, h6, h7⟩ := h
 ⟨sv, ss, cs, Ls, m, h1, h2.mono le, h3, h4, h5.mono le, h6, h7⟩
section
variable {P : Program} {fn : Func} {Q : Post} {ρ : Env} {F F0 : FH} {L : List HP}
theorem Does.at {f : FuncId} {args : List Value} {Q : Value → FH → Prop} {h : HP} (A : List HP) {B : List HP} (H : Does P f args F (h :: (A ++ B)) fun v F' L' => Q v F' ∧ h :: (A ++ B) = L') : Does P f args F (A ++ h :: B) fun v F' L' => Q v F' ∧ A ++ h :: B = L' := fun w Hw =>
 (H w (Sub.front.holds Hw)).mono fun _ _ ⟨v, F', L', he, le, H', hq, hl⟩ => ⟨v, F', _, he, le, Sub.back.holds (hl ▸ H'), hq, rfl⟩
end
section
variable {P : Program} {ρ : Env} {F : FH} {L : List HP} {K : Post} {d : Option Tmp} {ty : TypeId} {pos : String} {af : Array Edge} {g : Option (Nat × Bool)}
end
end Go.Proofs.Ytenomejgjcpbdaa.X
set_option linter.unusedSimpArgs false
set_option linter.unusedVariables false
namespace Go.Proofs.Ytenomejgjcpbdaa.X
open Go
section
variable {P : Program} {ρ : Env} {F : FH} {L : List HP} {K : Post} {d : Option Tmp} {ty : TypeId} {pos : String} {af : Array Edge} {g : Option (Nat × Bool)}
end
def ByteE (F : FH) (es : List Value) (x : Int) : Prop := es = [.int .u8 x] ∧ 0 ≤ x ∧ x ≤ 255
theorem ByteE.mono {F F' : FH} (es : List Value) (x : Int) (h : ByteE F es x) : ByteE F' es x := h
def BytesF : FH → Value → List Int → Prop := SlOf 1 ByteE 0
theorem BytesF.mono {F F' : FH} {v : Value} {xs : List Int} (h : BytesF F v xs) (le : F ≤ F') : BytesF F' v xs := SlOf.mono ByteE.mono h le
theorem BytesF.slv {F : FH} {L : List HP} {v : Value} {xs : List Int} (h : BytesF F v xs) : SlV F L v xs.length := SlOf.slv h
theorem BytesF.isSl {F : FH} {v : Value} {xs : List Int} (h : BytesF F v xs) : IsSl v := by obtain ⟨_, h, _⟩ := h; exact h.isSl
theorem BytesF.rd {F : FH} {v : Value} {xs : List Int} (h : BytesF F v xs) {i : Nat} (hi : i < xs.length) : ∀ L, Rd F L (elemA v i) (.int .u8 (xs.getD i 0)) := by
 obtain ⟨es, hl, ⟨rfl, _⟩, hr⟩ := SlOf.get h hi
 intro L
 have := hr L 0 _ rfl
 simpa using this
theorem BytesF.range {F : FH} {v : Value} {xs : List Int} (h : BytesF F v xs) {i : Nat} (hi : i < xs.length) : 0 ≤ xs.getD i 0 ∧ xs.getD i 0 ≤ 255 := by
 obtain ⟨es, hl, ⟨rfl, h2⟩, hr⟩ := SlOf.get h hi
 exact h2
end Go.Proofs.Ytenomejgjcpbdaa.X
set_option linter.unusedSimpArgs false
set_option linter.unusedVariables false
namespace Go.Proofs.Ytenomejgjcpbdaa.X
open Go
section
variable {P : Program} {n : Nat} {ops : Array Oper} {l : List Oper} {Q : QX} {ρ : Env} {F : FH} {L : List HP} {c : Code}
end
def SomesF (F : FH) (v : Value) (Q : List Int → Prop) : Prop := ∃ t, IntsF F v t ∧ Q t
theorem SomesF.mono {F F' : FH} {v : Value} {Q : List Int → Prop} (h : SomesF F v Q) (le : F ≤ F') : SomesF F' v Q := let ⟨t, h1, h2⟩ := h; ⟨t, h1.mono le, h2⟩
theorem SomesF.isSl {F : FH} {v : Value} {Q : List Int → Prop} (h : SomesF F v Q) : IsSl v := let ⟨_, h1, _⟩ := h; h1.isSl
def SomeRowsF (F : FH) (v : Value) (Q : List (List Int) → Prop) : Prop := ∃ t, RowsF F v t ∧ Q t
theorem SomeRowsF.mono {F F' : FH} {v : Value} {Q : List (List Int) → Prop} (h : SomeRowsF F v Q) (le : F ≤ F') : SomeRowsF F' v Q := let ⟨t, h1, h2⟩ := h; ⟨t, h1.mono le, h2⟩
theorem SomeRowsF.isSl {F : FH} {v : Value} {Q : List (List Int) → Prop} (h : SomeRowsF F v Q) : IsSl v := let ⟨_, h1, _⟩ := h; h1.isSl
section
variable {P : Program} {ρ : Env} {F : FH} {L : List HP} {K : Post} {d : Option Tmp} {ty : TypeId} {pos : String} {af : Array Edge} {g : Option (Nat × Bool)}
end
end Go.Proofs.Ytenomejgjcpbdaa.X
set_option linter.unusedSimpArgs false
set_option linter.unusedVariables false
namespace Go.Proofs.Ytenomejgjcpbdaa.M
section
variable {ar : List Int} {rs : Rules} {a b t : List Int} {ts : RowL} {n : Int} {k : Nat}
end
end Go.Proofs.Ytenomejgjcpbdaa.M
set_option linter.unusedSimpArgs false
set_option linter.unusedVariables false
namespace Go.Proofs.Ytenomejgjcpbdaa.M
section
variable {ar t u : List Int} {n : Nat} {f : Int}
def goodN (ar t : List Int) (n : Nat) : Prop := (∀ x ∈ t, -24 ≤ x) ∧ ∀ r, endGo ar (t ++ r) n = some t.length
def goodT (ar t : List Int) : Prop := goodN ar t 1
theorem goodN.nil : goodN ar [] 0 := ⟨fun x hx => (List.not_mem_nil hx).elim, fun r => by cases r <;> rfl⟩
theorem goodN.snoc (h : goodN ar t n) (k : goodT ar u) : goodN ar (t ++ u) (n + 1) := by
 refine ⟨fun x hx => (List.mem_append.1 hx).elim (h.1 x) (k.1 x), fun r => ?_⟩
 have h1 := h.2 (u ++ r)
 have h2 : endGo ar ((t ++ (u ++ r)).drop t.length) 1 = some u.length := by rw [List.drop_left]; exact k.2 r
 rw [List.append_assoc, endGo_join h1 h2, List.length_append]
theorem goodT.one (hf : -24 ≤ f) (hl : f < ar.length) (ha : arity ar f = 0) : goodT ar [f] := by
 refine ⟨fun x hx => by obtain rfl := List.mem_singleton.1 hx; exact hf, fun r => ?_⟩
 show endGo ar (f :: r) (0 + 1) = some 1
 unfold endGo
 rw [if_pos hl, ha]
 cases r <;> rfl
theorem fill_le60 {s : RowL} {t : List Int} : ((fillL s t).getD []).length ≤ 60 := by
 cases h : fillL s t with
 | none => simp
 | some u => exact (fillL_len h).1
def smallR (rs : Rules) : Prop := ∀ i, i < rs.length → (rs.getD i ([], [])).1.length ≤ 2000 ∧ (rs.getD i ([], [])).2.length ≤ 2000
theorem smallR.nil : smallR [] := fun i hi => by simp at hi
theorem smallR.snoc {l r : List Int} {rs : Rules} (h : smallR rs) (hl : l.length ≤ 2000) (hr : r.length ≤ 2000) : smallR (rs ++ [(l, r)]) := fun i hi => by
 rcases Nat.lt_or_ge i rs.length with h' | h'
 ·have := h i h'
  simpa [List.getD, List.getElem?_append_left h'] using this
 ·have e : i = rs.length := by simp at hi; omega
  subst e
  simpa [List.getD] using And.intro hl hr
variable {rs : Rules} {a b : List Int} {ts : RowL} {m : Int} {i k : Nat}
end
end Go.Proofs.Ytenomejgjcpbdaa.M
set_option linter.unusedSimpArgs false
set_option linter.unusedVariables false
namespace Go.Proofs.Ytenomejgjcpbdaa.X
open Go
section
variable {P : Program} {ρ : Env} {F : FH} {L : List HP} {K : Post} {d : Option Tmp} {ty : TypeId} {pos : String} {af : Array Edge} {g : Option (Nat × Bool)}
end
end Go.Proofs.Ytenomejgjcpbdaa.X
set_option linter.unusedSimpArgs false
set_option linter.unusedVariables false
namespace Go.Proofs.Ytenomejgjcpbdaa.X
open Go
theorem RowsC.ones {F : FH} {cs : List Value} {xs : List (List Int)} (h : RowsC F cs xs) : ∀ u ∈ cs, u.oneCell' = true := by
 intro u hu
 obtain ⟨q, hq, rfl⟩ := List.getElem_of_mem hu
 have hl := h.1
 obtain ⟨es, h1, ⟨c, rfl, hc⟩, hg⟩ := CO.get h (i := q) (by omega)
 have h9 := hg 0 c rfl
 rw [show q * 1 + 0 = q from by omega, List.getElem?_eq_getElem hq] at h9
 obtain ⟨b, n, k, rfl⟩ := IntsF.isSl hc
 rw [Option.some.inj h9]; rfl
theorem XOp.appendRows {P : Program} {ρ : Env} {F : FH} {L : List HP} {K : Post} {d : Option Tmp} {ty : TypeId} {pos : String} {af : Array Edge} {g : Option (Nat × Bool)} {x y : Operand} {t E : TypeId} {i : TypeInfo} {z : Value} {n bytes : Nat} {v v2 : Value} {cs : List Value} {xs ys : List (List Int)} (A B : List HP)
  (ht : ∀ w, (underlying t).run P w = .ok (.slice E) w) (hi : ∀ w, (typeInfo E).run P w = .ok i w) (hz : i.zero = some z) (hs : i.size = 1) (hby : i.bytes = bytes) (hzs : z.cells.size = 1)
  (hx : evO ρ x = v) (hy : evO ρ y = v2) (hL : L = A ++ slH E 1 v n cs :: B) (hC : RowsC F cs xs) (hv2 : RowsF F v2 ys) (h63 : n + ys.length ≤ 1152921504606846976) (hbytes : (n + ys.length) * bytes ≤ 140737488355328)
  (k : ∀ v' ds, IsSl v' → RowsC F (cs ++ ds) (xs ++ ys) → K v' F (A ++ slH E 1 v' (n + ys.length) (cs ++ ds) :: B)) :
  XOp P ⟨d, .call { callee := .builtin .append, args := #[x, y], argTypes := #[t, t] }, ty, pos, af, g⟩ ρ F L K := by
 obtain ⟨ds, hA, hc2⟩ := SlOf.open hv2
 exact XOp.append A B ds ht hi hz hs hby hzs hx hy hL (SlV.arr hA) hc2.1 (fun j u hu => Rd.arr hA hu) (RowsC.ones hc2) h63 hbytes fun v' h1 _ _ => k v' ds h1 (CO.append hC hc2)
def SomeStepsF (F : FH) (v : Value) (Q : List StepT → Prop) : Prop := ∃ t, StepsF F v t ∧ Q t
theorem SomeStepsF.mono {F F' : FH} {v : Value} {Q : List StepT → Prop} (h : SomeStepsF F v Q) (le : F ≤ F') : SomeStepsF F' v Q := let ⟨t, h1, h2⟩ := h; ⟨t, h1.mono le, h2⟩
theorem SomeStepsF.isSl {F : FH} {v : Value} {Q : List StepT → Prop} (h : SomeStepsF F v Q) : IsSl v := let ⟨_, h1, _⟩ := h; h1.isSl
def SomeBindsF (F : FH) (bs : List Value) (Q : List (List Int) → Prop) : Prop := ∃ bl, BindC F bs bl ∧ Q bl
theorem SomeBindsF.mono {F F' : FH} {bs : List Value} {Q : List (List Int) → Prop} (h : SomeBindsF F bs Q) (le : F ≤ F') : SomeBindsF F' bs Q := let ⟨t, h1, h2⟩ := h; ⟨t, h1.mono le, h2⟩
def aggL : Value → List Value
 | .agg a => a.toList
 | _ => []
end Go.Proofs.Ytenomejgjcpbdaa.X
set_option linter.unusedSimpArgs false
set_option linter.unusedVariables false
namespace Go.Proofs.Ytenomejgjcpbdaa.M
section
variable {ar t u : List Int} {rs : Rules} {n : Int} {all : List FoundV} {k : Nat} {ss : List StepV}
abbrev LoopV := List Int × List StepV × Int × RowL × Bool
abbrev noLoop : LoopV := ([], [], 0, [], false)
def LoopB (v : LoopV) : Prop := WalkB v.1 v.2.1 ∧ v.2.2.2.1.length ≤ 24 ∧ (∀ i, (v.2.2.2.1.getD i []).length ≤ 60) ∧ (v.2.2.2.1.flatMap flatRow).length ≤ 4000
theorem LoopB.no : LoopB noLoop := ⟨.nil, by simp, fun i => by simp, by simp⟩
end
end Go.Proofs.Ytenomejgjcpbdaa.M
set_option linter.unusedSimpArgs false
set_option linter.unusedVariables false
namespace Go.Proofs.Ytenomejgjcpbdaa.M
section
variable {ar t : List Int} {rs : Rules} {p r : Int} {k : Nat}
end
end Go.Proofs.Ytenomejgjcpbdaa.M
set_option linter.unusedSimpArgs false
set_option linter.unusedVariables false
namespace Go.Proofs.Ytenomejgjcpbdaa.M
section
variable {ar t u a b : List Int} {rs : Rules} {n : Int} {all : List FoundV} {ss xs : List StepV} {s : StepV} {k m : Nat}
def StepIn (ar : List Int) (rs : Rules) (all : List FoundV) : Prop := ∀ i, 0 < i → i < all.length → (EL all i).2.2.1 ∈ stepsL ar rs (EL all (EL all i).2.1.toNat).1
theorem StepIn.snoc {d : Int} (h : StepIn ar rs all) (hl : Link all) (hk : k < all.length) (hs : s ∈ stepsL ar rs (EL all k).1) : StepIn ar rs (all ++ [(s.2.2, (k : Int), s, d)]) := by
 intro i h0 hi
 rw [List.length_append, List.length_singleton] at hi
 rcases Nat.lt_or_ge i all.length with g | g
 ·have := hl.2 i h0 g
  rw [EL_snoc g, EL_snoc (by omega)]
  exact h i h0 g
 ·obtain rfl : i = all.length := by omega
  rw [EL_last]
  dsimp only
  rw [show ((k : Int)).toNat = k from by omega, EL_snoc hk]
  exact hs
end
end Go.Proofs.Ytenomejgjcpbdaa.M
set_option linter.unusedSimpArgs false
set_option linter.unusedVariables false
namespace Go.Proofs.Ytenomejgjcpbdaa.M
section
variable {ar : List Int} {rs : Rules} {t f now : List Int} {ss acc : List StepL} {s : RowL} {k : Nat}
end
end Go.Proofs.Ytenomejgjcpbdaa.M
set_option linter.unusedSimpArgs false
set_option linter.unusedVariables false
namespace Go.Proofs.Ytenomejgjcpbdaa.M
section
variable {ar f g : List Int} {rs : Rules} {xs ys : List StepV}
end
end Go.Proofs.Ytenomejgjcpbdaa.M
set_option linter.unusedSimpArgs false
set_option linter.unusedVariables false
namespace Go.Proofs.Ytenomejgjcpbdaa.M
section
variable {ar t u f : List Int} {rs : Rules} {ss : List StepL} {st n : Int}
end
end Go.Proofs.Ytenomejgjcpbdaa.M
set_option linter.unusedSimpArgs false
set_option linter.unusedVariables false
namespace Go.Proofs.Ytenomejgjcpbdaa.M
section
variable {ar t f u v w g A R : List Int} {rs : Rules} {p q r : Nat} {ss xs : List StepL}
theorem endN_go (ht : termOk ar t = true) (hp : p < t.length) : endGo ar (t.drop p) 1 = some (endN ar t p - p) := by
 obtain ⟨e, he, _⟩ := endAt_some ht hp
 have hN : endN ar t p = e := by simp [endN, he]
 unfold endAt at he
 cases hg : endGo ar (t.drop p) 1 with
 | none => rw [hg] at he; simp at he
 | some a => rw [hg] at he; simp at he; congr 1; omega
theorem endN_of {e : Nat} (h : endGo ar (t.drop p) 1 = some e) : endN ar t p = p + e := by simp [endN, endAt, h]
theorem in_drop (hq : q ≤ f.length) : (A ++ f ++ R).drop (A.length + q) = f.drop q ++ R := by
 rw [List.append_assoc, List.drop_length_add_append, List.drop_append_of_le_length hq]
theorem in_end (hf : termOk ar f = true) (hq : q < f.length) : endN ar (A ++ f ++ R) (A.length + q) = A.length + endN ar f q := by
 have h := endGo_more (b := R) (endN_go hf hq)
 rw [← in_drop (A := A) (by omega)] at h
 have := endN_spec hf hq
 rw [endN_of h]; omega
theorem in_sub (hf : termOk ar f = true) (hq : q < f.length) : sub ar (A ++ f ++ R) (A.length + q) = sub ar f q := by
 have := endN_spec hf hq
 unfold sub
 rw [in_end hf hq, in_drop (by omega), show A.length + endN ar f q - (A.length + q) = endN ar f q - q from by omega, List.take_append_of_le_length (by rw [List.length_drop]; omega)]
theorem sub_zero' (hg : termOk ar g = true) : sub ar g 0 = g := by
 have h : endGo ar (g.drop 0) 1 = some g.length := (termOk_iff.1 hg).whole
 unfold sub
 rw [endN_of h]
 simp
end
section
variable {ar t f u v w g : List Int} {rs : Rules} {p q r k n : Nat} {ss xs : List StepL} {s b b' : RowL}
theorem getD_zero_drop {l : List Int} {i : Nat} : l.getD i 0 = (l.drop i).getD 0 0 := by simp [List.getD]
end
section
variable {ar t f : List Int} {rs : Rules} {ss xs : List StepL} {k : Nat}
end
section
variable {f : List Int} {ss : List StepL} {s : StepL} {k : Nat}
def smallT (ss : List StepL) : Prop := ∀ i, (ss.getD i (0, 0, [])).2.2.length ≤ 2000
theorem smallT.nil : smallT [] := fun i => by simp
theorem smallT.snoc (h : smallT ss) (hs : s.2.2.length ≤ 2000) : smallT (ss ++ [s]) := fun i => by
 rcases Nat.lt_trichotomy i ss.length with g | g | g
 ·rw [List.getD_eq_getElem?_getD, List.getElem?_append_left g, ← List.getD_eq_getElem?_getD]; exact h i
 ·subst g; simpa [List.getD_eq_getElem?_getD] using hs
 ·rw [List.getD_eq_getElem?_getD, List.getElem?_eq_none (by simp; omega)]; simp
theorem smallT.set (h : smallT ss) (hs : s.2.2.length ≤ 2000) (k : Nat) : smallT (ss.set k s) := fun i => by
 by_cases e : k = i
 ·subst e
  rcases Nat.lt_or_ge k ss.length with g | g
  ·simpa [List.getD_eq_getElem?_getD, g] using hs
  ·rw [List.set_eq_of_length_le g]; exact h k
 ·rw [List.getD_eq_getElem?_getD, List.getElem?_set_ne e, ← List.getD_eq_getElem?_getD]; exact h i
theorem smallT.take (h : smallT ss) (k : Nat) : smallT (ss.take k) := fun i => by
 rcases Nat.lt_or_ge i k with g | g
 ·rw [List.getD_eq_getElem?_getD, List.getElem?_take, if_pos g, ← List.getD_eq_getElem?_getD]; exact h i
 ·rw [List.getD_eq_getElem?_getD, List.getElem?_take, if_neg (by omega)]; simp
theorem smallT.drop (h : smallT ss) (k : Nat) : smallT (ss.drop k) := fun i => by
 rw [List.getD_eq_getElem?_getD, List.getElem?_drop, ← List.getD_eq_getElem?_getD]; exact h _
end
end Go.Proofs.Ytenomejgjcpbdaa.M
set_option linter.unusedSimpArgs false
set_option linter.unusedVariables false
namespace Go.Proofs.Ytenomejgjcpbdaa.M
section
variable {ar t p : List Int} {g g' b : RowL}
end
section
variable {ar t f : List Int} {rs : Rules} {n : Int} {all : List FoundV} {ss ys : List StepV} {p many : Int} {s : RowL}
def againOk (ar : List Int) (rs : Rules) (f : List Int) (ss : List StepV) (p : Int) (s : RowL) (many : Int) : Prop := (sysOk ar rs && loopOkL ar rs f ss p s) = true ∧ 1 ≤ many ∧ many ≤ 60 ∧ many * (ss.length : Int) ≤ 60
instance : Decidable (againOk ar rs f ss p s many) := by unfold againOk; infer_instance
section
variable {m : Nat}
end
end
end Go.Proofs.Ytenomejgjcpbdaa.M
set_option linter.unusedSimpArgs false
set_option linter.unusedVariables false
namespace Go.Proofs.Ytenomejgjcpbdaa.M
section
variable {ar t p f A R Q : List Int} {g g' b : RowL} {a c k q m : Nat} {l : List Int}
theorem mGo_none_app {t : List Int} : ∀ (P : List Int) (i : Nat) (g : RowL), mGo ar t P i g = none → mGo ar t (P ++ Q) i g = none
 | [], i, g, h => by simp [mGo] at h
 | n :: P, i, g, h => by
  rw [List.cons_append, mGo]
  rw [mGo] at h
  split
  ·rfl
  ·rename_i hi
   rw [if_neg hi] at h
   split
   ·rename_i h0
    rw [if_pos h0] at h
    split
    ·rename_i he; rw [if_pos he] at h; exact mGo_none_app P _ _ h
    ·rfl
   ·rename_i h0
    rw [if_neg h0] at h
    split
    ·rename_i he; rw [if_pos he] at h; exact mGo_none_app P _ _ h
    ·rename_i he
     rw [if_neg he] at h
     split
     ·rename_i hq; rw [if_pos hq] at h; exact mGo_none_app P _ _ h
     ·rfl
theorem endGo_one (ht : termOk ar t = true) {i m e : Nat} (hi : i < t.length) (hE : endGo ar (t.drop i) (m + 1) = some e) : ∃ e2, endGo ar (t.drop (i + (sub ar t i).length)) m = some e2 ∧ e = (sub ar t i).length + e2 := by
 rw [Nat.add_comm m 1] at hE
 obtain ⟨e1, e2, h1, h2, rfl⟩ := endGo_split hE
 have hN : endN ar t i = i + e1 := endN_of h1
 have hSl : (sub ar t i).length = e1 := by rw [sub_length ht hi, hN, Nat.add_sub_cancel_left]
 rw [List.drop_drop] at h2
 exact ⟨e2, by rw [hSl]; exact h2, by rw [hSl]⟩
theorem endGo_sym {x : Int} {i m e : Nat} (hi : i < t.length) (hx : x < ar.length) (he : t.getD i 0 = x) (hE : endGo ar (t.drop i) (m + 1) = some e) : ∃ e1, endGo ar (t.drop (i + 1)) (m + (arity ar x).toNat) = some e1 ∧ e = e1 + 1 := by
 rw [endGo_step (show 0 < m + 1 by omega) hi (by rw [he]; exact hx), he, show m + 1 - 1 = m from rfl] at hE
 cases hq : endGo ar (t.drop (i + 1)) (m + (arity ar x).toNat) with
 | none => rw [hq] at hE; simp at hE
 | some e1 => rw [hq] at hE; simp at hE; exact ⟨e1, rfl, hE.symm⟩
theorem mGo_app (ht : termOk ar t = true) : ∀ (P : List Int) (n i e : Nat) (g g' : RowL), endGo ar P n = some P.length → endGo ar (t.drop i) n = some e → mGo ar t P i g = some g' → mGo ar t (P ++ Q) i g = mGo ar t Q (i + e) g'
 | [], n, i, e, g, g', hP, hE, h => by
  simp [mGo] at h; subst h
  cases n with
  | zero => simp [endGo] at hE; subst hE; rfl
  | succ n => simp [endGo] at hP
 | x :: P, n, i, e, g, g', hP, hE, h => by
  obtain ⟨m, rfl, hx⟩ := Forest.lt (ar := ar) (r := P) (x := x) hP
  have hF := (Forest.cons hx).1 hP
  rw [List.cons_append, mGo]
  rw [mGo] at h
  split at h
  ·cases h
  ·rename_i hi
   have hi2 : i < t.length := by omega
   rw [if_neg hi]
   split at h
   ·rename_i h0
    rw [if_pos h0]
    split at h
    ·rename_i he
     rw [if_pos he]
     obtain ⟨e1, h1, rfl⟩ := endGo_sym hi2 hx he hE
     rw [mGo_app ht P _ (i + 1) e1 g g' hF h1 h]
     congr 1; omega
    ·cases h
   ·rename_i h0
    rw [if_neg h0]
    rw [arity_var (by omega), show m + (0 : Int).toNat = m from rfl] at hF
    obtain ⟨e2, h1, rfl⟩ := endGo_one ht hi2 hE
    split at h
    ·rename_i he
     rw [if_pos he, mGo_app ht P m _ e2 _ g' hF h1 h, Nat.add_assoc]
    ·rename_i he
     rw [if_neg he]
     split at h
     ·rename_i hq
      rw [if_pos hq, mGo_app ht P m _ e2 _ g' hF h1 h, Nat.add_assoc]
     ·cases h
theorem mGo_loc (hf : termOk ar f = true) : ∀ (P : List Int) (n j : Nat) (g : RowL), endGo ar P n = some P.length → j ≤ f.length → endGo ar (f.drop j) n = some (f.length - j) → mGo ar (A ++ f ++ R) P (A.length + j) g = mGo ar f P j g
 | [], n, j, g, _, _, _ => by simp [mGo]
 | x :: P, n, j, g, hP, hj, hE => by
  obtain ⟨m, rfl, hx⟩ := Forest.lt (ar := ar) (r := P) (x := x) hP
  have hF := (Forest.cons hx).1 hP
  have hpos := endGo_pos hE
  have hj2 : j < f.length := by omega
  have hg : (A ++ f ++ R).getD (A.length + j) 0 = f.getD j 0 := by
   rw [getD_zero_drop, in_drop hj, drop_get 0 hj2]; rfl
  rw [mGo, mGo, if_neg (show ¬ (A ++ f ++ R).length ≤ A.length + j by simp only [List.length_append]; omega), if_neg (show ¬ f.length ≤ j by omega), hg, in_sub hf hj2]
  by_cases h0 : 0 ≤ x
  ·rw [if_pos h0, if_pos h0]
   by_cases he : f.getD j 0 = x
   ·rw [if_pos he, if_pos he]
    obtain ⟨e1, h1, h2⟩ := endGo_sym hj2 hx he hE
    exact mGo_loc hf P _ (j + 1) g hF (by omega) (by rw [h1]; congr 1; omega)
   ·rw [if_neg he, if_neg he]
  ·rw [if_neg h0, if_neg h0]
   rw [arity_var (by omega), show m + (0 : Int).toNat = m from rfl] at hF
   obtain ⟨e2, h1, h2⟩ := endGo_one hf hj2 hE
   have rec9 : ∀ g2, mGo ar (A ++ f ++ R) P (A.length + j + (sub ar f j).length) g2 = mGo ar f P (j + (sub ar f j).length) g2 := fun g2 => by
    rw [Nat.add_assoc]
    exact mGo_loc hf P m (j + (sub ar f j).length) g2 hF (by omega) (by rw [h1]; congr 1; omega)
   rw [rec9, rec9]
theorem mGo_sub (hp : termOk ar p = true) (ht : termOk ar t = true) (ha : a < p.length) (hc : c < t.length) : mGo ar t (sub ar p a) c g = mGo ar (sub ar t c) (sub ar p a) 0 g := by
 have h1 := (termOk_iff.1 (sub_ok hp ha)).whole
 have hs := sub_ok ht hc
 have h2 := (termOk_iff.1 hs).whole
 have hA : (t.take c).length = c := by rw [List.length_take]; omega
 have := mGo_loc (A := t.take c) (R := t.drop (endN ar t c)) hs (sub ar p a) 1 0 g h1 (Nat.zero_le _) (by rw [List.drop_zero, Nat.sub_zero]; exact h2)
 rw [← parts ht hc, hA, Nat.add_zero] at this
 exact this
theorem drop_sub (hp : termOk ar p = true) (ha : a < p.length) : p.drop a = sub ar p a ++ p.drop (endN ar p a) := by
 have he := endN_spec hp ha
 have h : p.drop (endN ar p a) = (p.drop a).drop (endN ar p a - a) := by rw [List.drop_drop]; congr 1; omega
 unfold sub
 rw [h, List.take_append_drop]
theorem mGo_argN (hp : termOk ar p = true) (ht : termOk ar t = true) (ha : a < p.length) (hc : c < t.length) (h : (mGo ar (sub ar t c) (sub ar p a) 0 g).isSome = false) : mGo ar t (p.drop a) c g = none := by
 rw [drop_sub hp ha]
 refine mGo_none_app _ _ _ ?_
 rw [mGo_sub hp ht ha hc]
 cases hx : mGo ar (sub ar t c) (sub ar p a) 0 g with
 | none => rfl
 | some v => rw [hx] at h; cases h
theorem mGo_argS (hp : termOk ar p = true) (ht : termOk ar t = true) (ha : a < p.length) (hc : c < t.length) (h : mGo ar (sub ar t c) (sub ar p a) 0 g = some g') : mGo ar t (p.drop a) c g = mGo ar t (p.drop (endN ar p a)) (endN ar t c) g' := by
 have he := endN_spec ht hc
 rw [drop_sub hp ha, mGo_app ht (sub ar p a) 1 c (endN ar t c - c) g g' (termOk_iff.1 (sub_ok hp ha)).whole (endN_go ht hc) (by rw [mGo_sub hp ht ha hc]; exact h)]
 congr 1; omega
def ArgAt (ar p : List Int) (k m q : Nat) : Prop := (∃ os : List Int, os.length = k ∧ argsL ar p 0 = os ++ argsGo ar p m q) ∧ Stand ar p m q p.length
theorem ArgAt.start (hp : termOk ar p = true) : ArgAt ar p 0 (argsL ar p 0).length 1 := by
 have hl := termOk_len hp
 have h := stand_start hp (p := 0) (by omega)
 have hN : endN ar p 0 = p.length := by rw [endN_of (by rw [List.drop_zero]; exact (termOk_iff.1 hp).whole), Nat.zero_add]
 rw [hN] at h
 rw [argsL_len]
 exact ⟨⟨[], rfl, rfl⟩, h⟩
theorem ArgAt.next (hp : termOk ar p = true) (h : ArgAt ar p k (m + 1) q) : (argsL ar p 0).getD k 0 = (q : Int) ∧ q < p.length ∧ ArgAt ar p (k + 1) m (endN ar p q) := by
 obtain ⟨⟨os, h1, h2⟩, h3⟩ := h
 obtain ⟨s1, s2, s3, s4⟩ := stand_step hp h3
 refine ⟨?_, s1, ⟨os ++ [(q : Int)], by simp [h1], by rw [h2, argsGo]; simp⟩, s2⟩
 rw [h2, argsGo, List.getD_eq_getElem?_getD, List.getElem?_append_right (by omega), h1, Nat.sub_self]
 rfl
theorem ArgAt.done (h : ArgAt ar p k 0 q) : q = p.length := by
 have := h.2.1
 simp [endGo] at this
 have := h.2.2
 omega
end
section
variable {ar t u v f : List Int} {rs es : Rules} {g g' b : RowL} {ss : List StepV}
def Under (g b : RowL) : Prop := g.length = 24 ∧ ∀ k, g.getD k [] = [] ∨ g.getD k [] = b.getD k []
theorem Under.refl (h : b.length = 24) : Under b b := ⟨h, fun k => .inr rfl⟩
theorem Under.nil : Under (List.replicate 24 []) b := ⟨by simp, fun k => .inl (by rw [List.getD_eq_getElem?_getD, List.getElem?_replicate]; split <;> simp)⟩
def moveIn (es : Rules) (t : List Int) (m : MoveV) : Prop := (0 ≤ m.1 ∧ m.1 < (es.length : Int)) ∧ 0 ≤ m.2.1 ∧ m.2.1 < (t.length : Int)
instance (es : Rules) (t : List Int) (m : MoveV) : Decidable (moveIn es t m) := by unfold moveIn; infer_instance
end
end Go.Proofs.Ytenomejgjcpbdaa.M
set_option linter.unusedSimpArgs false
set_option linter.unusedVariables false
namespace Go.Proofs.Ytenomejgjcpbdaa.M
section
variable {ar t p f u : List Int} {g g' : RowL} {rs : Rules} {ss : List StepV} {a qa qb k m : Nat} {n : Int}
theorem term_one (hp : termOk ar p = true) (h : p.getD 0 0 < 0) : p = [p.getD 0 0] := by
 have h1 := (termOk_iff.1 hp).whole
 have hl := termOk_len hp
 cases p with
 | nil => simp at hl
 | cons x r =>
  have hx : x < 0 := by simpa using h
  obtain ⟨m, hm, hx2⟩ := Forest.lt (ar := ar) (r := r) (x := x) (n := 1) h1
  obtain rfl : m = 0 := by omega
  have hF := (Forest.cons hx2).1 h1
  rw [arity_var hx] at hF
  cases r with
  | nil => rfl
  | cons y s => simp [Forest, endGo] at hF
theorem mGo_var (hp : termOk ar p = true) (ht : termOk ar t = true) (h : p.getD 0 0 < 0) : mGo ar t p 0 g = if g.getD (varIx (p.getD 0 0)) [] = [] then some (g.set (varIx (p.getD 0 0)) t) else if g.getD (varIx (p.getD 0 0)) [] = t then some g else none := by
 have hl := termOk_len ht
 rw [show mGo ar t p 0 g = mGo ar t [p.getD 0 0] 0 g from by rw [← term_one hp h], mGo, if_neg (by omega), if_neg (by omega), sub_zero' ht]
 rfl
theorem mGo_symN (hp : termOk ar p = true) (h : 0 ≤ p.getD 0 0) (hd : p.getD 0 0 ≠ t.getD 0 0) : mGo ar t p 0 g = none := by
 have hl := termOk_len hp
 rw [show p = p.drop 0 from rfl, drop_get 0 (by omega), mGo]
 split
 ·rfl
 ·first | rw [if_neg (fun e => hd e.symm)] | rw [if_pos h, if_neg (fun e => hd e.symm)]
theorem mGo_symS (hp : termOk ar p = true) (ht : termOk ar t = true) (h : 0 ≤ p.getD 0 0) (hd : p.getD 0 0 = t.getD 0 0) : mGo ar t p 0 g = mGo ar t (p.drop 1) 1 g := by
 have hl := termOk_len hp
 have hl2 := termOk_len ht
 have e : p = p.getD 0 0 :: p.drop 1 := drop_get (l := p) (k := 0) 0 (by omega)
 rw [show mGo ar t p 0 g = mGo ar t (p.getD 0 0 :: p.drop 1) 0 g from congrArg (fun z => mGo ar t z 0 g) e, mGo, if_neg (by omega), if_pos h, if_pos hd.symm]
theorem opt_is {x : Option RowL} (h : x.isSome = true) (h2 : ∀ r, x = some r → g = r) : x = some g := by
 cases x with
 | none => cases h
 | some v => rw [h2 v rfl]
theorem argAt_less {q : Nat} (hp : termOk ar p = true) (hq : q < p.length) (h1 : 1 ≤ q) : (sub ar p q).length < p.length := by
 have h2 := sub_length hp hq
 have h3 := endN_spec hp hq
 omega
end
end Go.Proofs.Ytenomejgjcpbdaa.M
set_option linter.unusedSimpArgs false
set_option linter.unusedVariables false
namespace Go.Proofs.Ytenomejgjcpbdaa.M
abbrev CR := List Int × List Int × Rules
section
variable {ar t p : List Int} {us : RowL} {cs : Rules} {k : Nat}
def knownL (t : List Int) (us : RowL) : Bool := t.all fun n => decide (0 ≤ n) || us.any (fun u => decide (n ∈ u))
def cOkGo (ar : List Int) : RowL → Rules → Option RowL
 | us, [] => some us
 | us, c :: cs => if (eqOkL ar c && knownL c.1 us) = true then cOkGo ar (us ++ [c.2]) cs else none
def cruleOk (ar : List Int) (r : CR) : Bool := (termOk ar r.1 && termOk ar r.2.1) && decide (0 ≤ r.1.getD 0 0 ∧ r.2.2.length ≤ 2) && (match cOkGo ar [r.1] r.2.2 with | some us => knownL r.2.1 us | none => false)
def csysOk (ar : List Int) (cr : List CR) : Bool := sigOk ar && decide (cr.length ≤ 12) && cr.all (cruleOk ar)
theorem cOk_end (h : cs.length ≤ k) : cOkGo ar us (cs.drop k) = some us := by rw [List.drop_eq_nil_of_le h]; rfl
theorem cOk_next (hk : k < cs.length) (h1 : eqOkL ar (cs.getD k ([], [])) = true) (h2 : knownL (cs.getD k ([], [])).1 us = true) : cOkGo ar us (cs.drop k) = cOkGo ar (us ++ [(cs.getD k ([], [])).2]) (cs.drop (k + 1)) := by
 rw [drop_get ([], []) hk, cOkGo, if_pos (by rw [h1, h2]; rfl)]
theorem cOk_fail (hk : k < cs.length) (h : eqOkL ar (cs.getD k ([], [])) = false ∨ knownL (cs.getD k ([], [])).1 us = false) : cOkGo ar us (cs.drop k) = none := by
 rw [drop_get ([], []) hk, cOkGo, if_neg]
 rcases h with h | h <;> rw [h] <;> simp
theorem cOkGo_all : ∀ (cs : Rules) (us vs : RowL), cOkGo ar us cs = some vs → (∀ i, i < cs.length → termOk ar (cs.getD i ([], [])).1 = true ∧ termOk ar (cs.getD i ([], [])).2 = true) ∧ vs.length = us.length + cs.length
 | [], us, vs, h => by simp [cOkGo] at h; subst h; exact ⟨fun i hi => by simp at hi, rfl⟩
 | c :: cs, us, vs, h => by
  rw [cOkGo] at h
  split at h
  ·rename_i hc
   simp only [Bool.and_eq_true] at hc
   obtain ⟨h1, h2⟩ := cOkGo_all cs _ _ h
   refine ⟨fun i hi => ?_, by rw [h2]; simp; omega⟩
   cases i with
   | zero => have := hc.1; simp only [eqOkL, Bool.and_eq_true] at this; simpa using this
   | succ i => simpa using h1 i (by simpa using hi)
  ·cases h
structure CRuleOk (ar : List Int) (r : CR) : Prop where
 left : termOk ar r.1 = true
 right : termOk ar r.2.1 = true
 head : 0 ≤ r.1.getD 0 0
 len : r.2.2.length ≤ 2
 conds : ∀ i, i < r.2.2.length → termOk ar (r.2.2.getD i ([], [])).1 = true ∧ termOk ar (r.2.2.getD i ([], [])).2 = true
theorem cruleOk_facts {r : CR} (h : cruleOk ar r = true) : CRuleOk ar r := by
 simp only [cruleOk, Bool.and_eq_true, decide_eq_true_eq] at h
 obtain ⟨⟨⟨h1, h2⟩, h3, h4⟩, h5⟩ := h
 refine ⟨h1, h2, h3, h4, ?_⟩
 cases hc : cOkGo ar [r.1] r.2.2 with
 | none => rw [hc] at h5; cases h5
 | some us => exact (cOkGo_all _ _ _ hc).1
theorem csysOk_iff {cr : List CR} : csysOk ar cr = true ↔ sigOk ar = true ∧ cr.length ≤ 12 ∧ ∀ i, i < cr.length → cruleOk ar (cr.getD i ([], [], [])) = true := by
 simp only [csysOk, Bool.and_eq_true, decide_eq_true_eq, all_getD_iff (([], [], []) : CR), and_assoc]
theorem csysOk_at {cr : List CR} (h : csysOk ar cr = true) {i : Nat} (hi : i < cr.length) : CRuleOk ar (cr.getD i ([], [], [])) := cruleOk_facts ((csysOk_iff.1 h).2.2 i hi)
end
section
def condGo (nf : List Int → Option (List Int)) (ar : List Int) : RowL → Rules → Option RowL
 | b, [] => some b
 | b, c :: cs => match fillL b c.1 with
  | none => none
  | some u => match nf u with
   | none => none
   | some w => match mGo ar w c.2 0 b with
    | none => none
    | some b' => condGo nf ar b' cs
def givenC (nf : List Int → Option (List Int)) (d0 : Bool) (ar u : List Int) (r : CR) : Option RowL := match matchB ar r.1 u with
 | none => none
 | some b => if d0 = true ∧ 0 < r.2.2.length then none else condGo nf ar b r.2.2
def stepCF (nf : List Int → Option (List Int)) (d0 : Bool) (ar : List Int) (cr : List CR) (t : List Int) (p k : Nat) : Option (List Int) := match givenC nf d0 ar (sub ar t p) (cr.getD k ([], [], [])) with
 | none => none
 | some b => match fillL b (cr.getD k ([], [], [])).2.1 with
  | none => none
  | some u => putL ar t p u
def ruleCGo (nf : List Int → Option (List Int)) (d0 : Bool) (ar : List Int) (cr : List CR) (t : List Int) (p : Nat) : Nat → Nat → Int
 | 0, _ => -1
 | n + 1, k => if (stepCF nf d0 ar cr t p k).isSome = true then (k : Int) else ruleCGo nf d0 ar cr t p n (k + 1)
def ruleC (nf : List Int → Option (List Int)) (d0 : Bool) (ar : List Int) (cr : List CR) (t : List Int) (p : Nat) : Int := ruleCGo nf d0 ar cr t p cr.length 0
def inmC (nf : List Int → Option (List Int)) (d0 : Bool) (ar : List Int) (cr : List CR) (t : List Int) (p : Nat) : Prop := 0 ≤ ruleC nf d0 ar cr t p ∧ ∀ q, p < q → q < endN ar t p → ruleC nf d0 ar cr t q < 0
open Classical in
noncomputable def pickC (nf : List Int → Option (List Int)) (d0 : Bool) (ar : List Int) (cr : List CR) (t : List Int) : Nat := if h : ∃ p, p < t.length ∧ inmC nf d0 ar cr t p ∧ ∀ q, q < p → ¬ inmC nf d0 ar cr t q then Classical.choose h else t.length
noncomputable def normGoC (nf : List Int → Option (List Int)) (d0 : Bool) (ar : List Int) (cr : List CR) : Nat → List Int → Option (List Int)
 | m, t => if pickC nf d0 ar cr t = t.length then some t else match m with
  | 0 => none
  | m + 1 => normGoC nf d0 ar cr m ((stepCF nf d0 ar cr t (pickC nf d0 ar cr t) (ruleC nf d0 ar cr t (pickC nf d0 ar cr t)).toNat).getD [])
noncomputable def normC (ar : List Int) (cr : List CR) : Nat → List Int → Option (List Int)
 | 0 => normGoC (fun _ => none) true ar cr 8
 | d + 1 => normGoC (normC ar cr d) false ar cr 8
noncomputable def nfC (ar : List Int) (cr : List CR) : Nat → List Int → Option (List Int)
 | 0 => fun _ => none
 | d + 1 => normC ar cr d
theorem normC_eq (ar : List Int) (cr : List CR) (d : Nat) : normC ar cr d = normGoC (nfC ar cr d) (decide (d = 0)) ar cr 8 := by cases d <;> rfl
variable {nf : List Int → Option (List Int)} {d0 : Bool} {ar t u w : List Int} {cr : List CR} {cs : Rules} {b b' : RowL} {p k m : Nat}
theorem condGo_end (h : cs.length ≤ k) : condGo nf ar b (cs.drop k) = some b := by rw [List.drop_eq_nil_of_le h]; rfl
theorem condGo_nofill (hk : k < cs.length) (h : (fillL b (cs.getD k ([], [])).1).isSome = false) : condGo nf ar b (cs.drop k) = none := by
 rw [drop_get ([], []) hk, condGo]
 cases hf : fillL b (cs.getD k ([], [])).1 with
 | none => rfl
 | some u => rw [hf] at h; cases h
theorem condGo_nonorm (hk : k < cs.length) (hf : (fillL b (cs.getD k ([], [])).1).isSome = true) (h : (nf ((fillL b (cs.getD k ([], [])).1).getD [])).isSome = false) : condGo nf ar b (cs.drop k) = none := by
 rw [drop_get ([], []) hk, condGo]
 cases hf2 : fillL b (cs.getD k ([], [])).1 with
 | none => rfl
 | some u =>
  rw [hf2] at h
  simp only [Option.getD_some] at h
  simp only
  cases hn : nf u with
  | none => rfl
  | some w => rw [hn] at h; cases h
theorem condGo_match (hk : k < cs.length) (hf : (fillL b (cs.getD k ([], [])).1).isSome = true) (h : (nf ((fillL b (cs.getD k ([], [])).1).getD [])).isSome = true) :
  condGo nf ar b (cs.drop k) = match mGo ar ((nf ((fillL b (cs.getD k ([], [])).1).getD [])).getD []) (cs.getD k ([], [])).2 0 b with | none => none | some b' => condGo nf ar b' (cs.drop (k + 1)) := by
 rw [drop_get ([], []) hk, condGo]
 cases hf2 : fillL b (cs.getD k ([], [])).1 with
 | none => rw [hf2] at hf; cases hf
 | some u =>
  rw [hf2] at h
  simp only [Option.getD_some] at h
  simp only [Option.getD_some]
  cases hn : nf u with
  | none => rw [hn] at h; cases h
  | some w => rfl
theorem condGo_nomatch (hk : k < cs.length) (hf : (fillL b (cs.getD k ([], [])).1).isSome = true) (h : (nf ((fillL b (cs.getD k ([], [])).1).getD [])).isSome = true) (hm : (mGo ar ((nf ((fillL b (cs.getD k ([], [])).1).getD [])).getD []) (cs.getD k ([], [])).2 0 b).isSome = false) : condGo nf ar b (cs.drop k) = none := by
 rw [condGo_match hk hf h]
 cases hg : mGo ar ((nf ((fillL b (cs.getD k ([], [])).1).getD [])).getD []) (cs.getD k ([], [])).2 0 b with
 | none => rfl
 | some b' => rw [hg] at hm; cases hm
theorem condGo_next (hk : k < cs.length) (hf : (fillL b (cs.getD k ([], [])).1).isSome = true) (h : (nf ((fillL b (cs.getD k ([], [])).1).getD [])).isSome = true) (hm : mGo ar ((nf ((fillL b (cs.getD k ([], [])).1).getD [])).getD []) (cs.getD k ([], [])).2 0 b = some b') : condGo nf ar b (cs.drop k) = condGo nf ar b' (cs.drop (k + 1)) := by
 rw [condGo_match hk hf h, hm]
theorem condGo_ok (hn : ∀ u w, termOk ar u = true → nf u = some w → termOk ar w = true) : ∀ (cs : Rules) (b b' : RowL), (∀ i, i < cs.length → termOk ar (cs.getD i ([], [])).1 = true ∧ termOk ar (cs.getD i ([], [])).2 = true) → RowsOk ar b → condGo nf ar b cs = some b' → RowsOk ar b'
 | [], b, b', _, hb, h => by simp [condGo] at h; subst h; exact hb
 | c :: cs, b, b', hc, hb, h => by
  rw [condGo] at h
  have h0 := hc 0 (by simp)
  simp only [List.getD_cons_zero] at h0
  split at h
  ·cases h
  ·rename_i u hu
   split at h
   ·cases h
   ·rename_i w hw
    split at h
    ·cases h
    ·rename_i b2 hb2
     exact condGo_ok hn cs b2 b' (fun i hi => by simpa using hc (i + 1) (by simpa using hi)) (mGo_ok (hn _ _ (fill_ok hb h0.1 hu) hw) _ _ _ _ hb2 hb) h
theorem givenC_ok (hn : ∀ u w, termOk ar u = true → nf u = some w → termOk ar w = true) {r : CR} (hr : CRuleOk ar r) (hu : termOk ar u = true) (h : givenC nf d0 ar u r = some b) : RowsOk ar b := by
 unfold givenC at h
 split at h
 ·cases h
 ·rename_i b0 hb0
  split at h
  ·cases h
  ·exact condGo_ok hn _ _ _ hr.conds (matchB_ok hu hb0) h
theorem stepCF_ok (hn : ∀ u w, termOk ar u = true → nf u = some w → termOk ar w = true) (hc : csysOk ar cr = true) (ht : termOk ar t = true) (hp : p < t.length) (hk : k < cr.length) (h : stepCF nf d0 ar cr t p k = some u) : termOk ar u = true := by
 unfold stepCF at h
 split at h
 ·cases h
 ·rename_i b hb
  split at h
  ·cases h
  ·rename_i v hv
   have hr := csysOk_at hc hk
   exact put_ok ht hp (fill_ok (givenC_ok hn hr (sub_ok ht hp) hb) hr.right hv) h
theorem stepCF_var (hc : csysOk ar cr = true) (ht : termOk ar t = true) (hp : p < t.length) (hv : t.getD p 0 < 0) (hk : k < cr.length) : stepCF nf d0 ar cr t p k = none := by
 have hr := csysOk_at hc hk
 have hl := termOk_len hr.left
 have hs := sub_head ht hp
 have hsl := termOk_len (sub_ok ht hp)
 have : matchB ar (cr.getD k ([], [], [])).1 (sub ar t p) = none := by
  unfold matchB
  have := mGo_ne (ar := ar) (t := sub ar t p) (p := (cr.getD k ([], [], [])).1) (k := 0) (i := 0) (b := List.replicate 24 []) (by omega) (by omega) hr.head (by have := hr.head; rw [hs]; omega)
  simpa using this
 unfold stepCF givenC
 rw [this]
theorem ruleC_hit (hr : k < cr.length) (h : (stepCF nf d0 ar cr t p k).isSome = true) : ruleCGo nf d0 ar cr t p (cr.length - k) k = k := by
 rw [show cr.length - k = (cr.length - (k + 1)) + 1 from by omega, ruleCGo, if_pos h]
theorem ruleC_miss (hr : k < cr.length) (h : (stepCF nf d0 ar cr t p k).isSome = false) : ruleCGo nf d0 ar cr t p (cr.length - k) k = ruleCGo nf d0 ar cr t p (cr.length - (k + 1)) (k + 1) := by
 rw [show cr.length - k = (cr.length - (k + 1)) + 1 from by omega, ruleCGo, if_neg (by rw [h]; simp)]
theorem ruleC_end (hr : cr.length ≤ k) : ruleCGo nf d0 ar cr t p (cr.length - k) k = -1 := by rw [show cr.length - k = 0 from by omega]; rfl
theorem ruleCGo_spec : ∀ (n r : Nat), ruleCGo nf d0 ar cr t p n r = -1 ∨ ∃ k : Nat, ruleCGo nf d0 ar cr t p n r = k ∧ r ≤ k ∧ k < r + n ∧ (stepCF nf d0 ar cr t p k).isSome = true
 | 0, r => .inl rfl
 | n + 1, r => by
  rw [ruleCGo]
  split
  ·rename_i h; exact .inr ⟨r, rfl, Nat.le_refl _, by omega, h⟩
  ·rcases ruleCGo_spec n (r + 1) with h | ⟨k, h1, h2, h3, h4⟩
   ·exact .inl h
   ·exact .inr ⟨k, h1, by omega, by omega, h4⟩
theorem ruleC_spec : ruleC nf d0 ar cr t p = -1 ∨ ∃ k : Nat, ruleC nf d0 ar cr t p = k ∧ k < cr.length ∧ (stepCF nf d0 ar cr t p k).isSome = true := by
 rcases ruleCGo_spec (nf := nf) (d0 := d0) (ar := ar) (cr := cr) (t := t) (p := p) cr.length 0 with h | ⟨k, h1, _, h3, h4⟩
 ·exact .inl h
 ·exact .inr ⟨k, h1, by omega, h4⟩
theorem ruleC_var (hc : csysOk ar cr = true) (ht : termOk ar t = true) (hp : p < t.length) (hv : t.getD p 0 < 0) : ruleC nf d0 ar cr t p = -1 := by
 rcases ruleC_spec (nf := nf) (d0 := d0) (ar := ar) (cr := cr) (t := t) (p := p) with h | ⟨k, _, h2, h3⟩
 ·exact h
 ·rw [stepCF_var hc ht hp hv h2] at h3; cases h3
theorem endN_nestC (ht : termOk ar t = true) {q : Nat} (hp : p < t.length) (h1 : p < q) (h2 : q < endN ar t p) : endN ar t q ≤ endN ar t p := by
 have hpe := endN_spec ht hp
 have hq := endN_spec ht (show q < t.length by omega)
 obtain ⟨e, he, _⟩ := endAt_some ht hp
 have hN : endN ar t p = e := by simp [endN, he]
 obtain ⟨e2, he2, _⟩ := endAt_some ht (show q < t.length by omega)
 have hN2 : endN ar t q = e2 := by simp [endN, he2]
 unfold endAt at he he2
 cases hg : endGo ar (t.drop p) 1 with
 | none => rw [hg] at he; simp at he
 | some a =>
  rw [hg] at he; simp at he
  obtain ⟨j, hj⟩ := endGo_at hg (q - p) (by omega)
  rw [List.drop_drop, show p + (q - p) = q from by omega, Nat.add_comm j 1] at hj
  obtain ⟨e3, e4, h3, _, h5⟩ := endGo_split hj
  rw [h3] at he2; simp at he2
  omega
theorem pickC_eq {lo : Nat} (h1 : lo = t.length ∨ lo < t.length ∧ inmC nf d0 ar cr t lo) (h2 : ∀ q, q < lo → ¬ inmC nf d0 ar cr t q) : pickC nf d0 ar cr t = lo := by
 unfold pickC
 split
 ·rename_i h
  obtain ⟨a, b, c⟩ := Classical.choose_spec h
  generalize Classical.choose h = x at a b c
  rcases Nat.lt_trichotomy x lo with g | g | g
  ·exact absurd b (h2 x g)
  ·exact g
  ·rcases h1 with h1 | h1
   ·omega
   ·exact absurd h1.2 (c lo g)
 ·rename_i h
  rcases h1 with h1 | h1
  ·exact h1.symm
  ·exact absurd ⟨lo, h1.1, h1.2, h2⟩ h
theorem pickC_spec : pickC nf d0 ar cr t = t.length ∧ (∀ q, q < t.length → ¬ inmC nf d0 ar cr t q) ∨ pickC nf d0 ar cr t < t.length ∧ inmC nf d0 ar cr t (pickC nf d0 ar cr t) := by
 unfold pickC
 split
 ·rename_i h
  obtain ⟨a, b, c⟩ := Classical.choose_spec h
  exact .inr ⟨a, b⟩
 ·rename_i h
  refine .inl ⟨rfl, fun q => ?_⟩
  induction q using Nat.strongRecOn with
  | _ q ih =>
   intro hq hi
   exact h ⟨q, hq, hi, fun q2 h2 => ih q2 h2 (by omega)⟩
theorem pickC_le : pickC nf d0 ar cr t ≤ t.length := by rcases pickC_spec (nf := nf) (d0 := d0) (ar := ar) (cr := cr) (t := t) with h | h <;> omega
def Low (nf : List Int → Option (List Int)) (d0 : Bool) (ar : List Int) (cr : List CR) (t : List Int) (j lo : Nat) : Prop := (lo = t.length ∨ lo < t.length ∧ inmC nf d0 ar cr t lo) ∧ j ≤ lo ∧ ∀ q, j ≤ q → q < lo → ¬ inmC nf d0 ar cr t q
theorem Low.start : Low nf d0 ar cr t t.length t.length := ⟨.inl rfl, Nat.le_refl _, fun q h1 h2 => by omega⟩
theorem Low.skip {j lo : Nat} (h : Low nf d0 ar cr t (j + 1) lo) (hn : ¬ inmC nf d0 ar cr t j) : Low nf d0 ar cr t j lo := ⟨h.1, by have := h.2.1; omega, fun q h1 h2 => (Nat.eq_or_lt_of_le h1).elim (fun e => e ▸ hn) (fun g => h.2.2 q g h2)⟩
theorem Low.cover {j lo : Nat} (ht : termOk ar t = true) (hj : j < t.length) (h : Low nf d0 ar cr t (j + 1) lo) (he : lo < endN ar t j) : Low nf d0 ar cr t j lo := by
 refine h.skip (fun hi => ?_)
 have hee := endN_spec ht hj
 rcases h.1 with h1 | h1
 ·omega
 ·have := hi.2 lo (by have := h.2.1; omega) he
  have := h1.2.1
  omega
theorem Low.rule {j lo : Nat} (h : Low nf d0 ar cr t (j + 1) lo) (hr : ruleC nf d0 ar cr t j < 0) : Low nf d0 ar cr t j lo := h.skip (fun hi => by have := hi.1; omega)
theorem Low.take {j lo : Nat} (ht : termOk ar t = true) (hj : j < t.length) (h : Low nf d0 ar cr t (j + 1) lo) (he : ¬ lo < endN ar t j) (hr : 0 ≤ ruleC nf d0 ar cr t j) : Low nf d0 ar cr t j j := by
 refine ⟨.inr ⟨hj, hr, ?_⟩, Nat.le_refl _, fun q h1 h2 => by omega⟩
 have hee := endN_spec ht hj
 -- from the last place of the term on
 have key : ∀ n q, q + n = endN ar t j → j < q → q < endN ar t j → ruleC nf d0 ar cr t q < 0 := by
  intro n
  induction n using Nat.strongRecOn with
  | _ n ih =>
   intro q hq hjq hlt
   refine Classical.byContradiction fun hc => ?_
   have hn := endN_nestC ht hj hjq hlt
   exact h.2.2 q (by omega) (by omega) ⟨by omega, fun q2 h1 h2 => ih (endN ar t j - q2) (by omega) q2 (by omega) (by omega) (by omega)⟩
 exact fun q h1 h2 => key (endN ar t j - q) q (by omega) h1 h2
theorem Low.done {lo : Nat} (h : Low nf d0 ar cr t 0 lo) : pickC nf d0 ar cr t = lo := pickC_eq h.1 (fun q hq => h.2.2 q (Nat.zero_le _) hq)
theorem normGo_nil (h : pickC nf d0 ar cr t = t.length) : normGoC nf d0 ar cr m t = some t := by
 cases m <;> (unfold normGoC; rw [if_pos h])
theorem normGo_zero (h : pickC nf d0 ar cr t ≠ t.length) : normGoC nf d0 ar cr 0 t = none := by unfold normGoC; rw [if_neg h]
theorem normGo_next (h : pickC nf d0 ar cr t ≠ t.length) : normGoC nf d0 ar cr (m + 1) t = normGoC nf d0 ar cr m ((stepCF nf d0 ar cr t (pickC nf d0 ar cr t) (ruleC nf d0 ar cr t (pickC nf d0 ar cr t)).toNat).getD []) := by
 conv => lhs; unfold normGoC
 rw [if_neg h]
theorem pickC_step (h : pickC nf d0 ar cr t ≠ t.length) : pickC nf d0 ar cr t < t.length ∧ 0 ≤ ruleC nf d0 ar cr t (pickC nf d0 ar cr t) ∧ (ruleC nf d0 ar cr t (pickC nf d0 ar cr t)).toNat < cr.length ∧ ∃ u, stepCF nf d0 ar cr t (pickC nf d0 ar cr t) (ruleC nf d0 ar cr t (pickC nf d0 ar cr t)).toNat = some u := by
 rcases pickC_spec (nf := nf) (d0 := d0) (ar := ar) (cr := cr) (t := t) with h1 | ⟨h1, h2⟩
 ·exact absurd h1.1 h
 ·have := h2.1
  rcases ruleC_spec (nf := nf) (d0 := d0) (ar := ar) (cr := cr) (t := t) (p := pickC nf d0 ar cr t) with g | ⟨k, g1, g2, g3⟩
  ·omega
  ·rw [g1]
   exact ⟨h1, by omega, by omega, by rw [show ((k : Nat) : Int).toNat = k from by omega]; exact Option.isSome_iff_exists.1 g3⟩
theorem normGo_ok (hn : ∀ u w, termOk ar u = true → nf u = some w → termOk ar w = true) (hc : csysOk ar cr = true) : ∀ (m : Nat) (t w : List Int), termOk ar t = true → normGoC nf d0 ar cr m t = some w → termOk ar w = true
 | 0, t, w, ht, h => by
  by_cases hp : pickC nf d0 ar cr t = t.length
  ·rw [normGo_nil hp] at h; cases h; exact ht
  ·rw [normGo_zero hp] at h; cases h
 | m + 1, t, w, ht, h => by
  by_cases hp : pickC nf d0 ar cr t = t.length
  ·rw [normGo_nil hp] at h; cases h; exact ht
  ·rw [normGo_next hp] at h
   obtain ⟨h1, h2, h3, u, hu⟩ := pickC_step hp
   rw [hu] at h
   exact normGo_ok hn hc m u w (stepCF_ok hn hc ht h1 h3 hu) h
theorem normC_ok (hc : csysOk ar cr = true) : ∀ (d : Nat) (t w : List Int), termOk ar t = true → normC ar cr d t = some w → termOk ar w = true
 | 0, t, w, ht, h => normGo_ok (fun u w _ h => by cases h) hc 8 t w ht h
 | d + 1, t, w, ht, h => normGo_ok (fun u w hu h => normC_ok hc d u w hu h) hc 8 t w ht h
theorem nfC_ok (hc : csysOk ar cr = true) (d : Nat) (t w : List Int) (ht : termOk ar t = true) (h : nfC ar cr d t = some w) : termOk ar w = true := by
 cases d with
 | zero => cases h
 | succ d => exact normC_ok hc d t w ht h
end
end Go.Proofs.Ytenomejgjcpbdaa.M
set_option linter.unusedSimpArgs false
set_option linter.unusedVariables false
namespace Go.Proofs.Ytenomejgjcpbdaa.M
section
variable {ar t p vs ws : List Int} {us : RowL} {cs : Rules} {k : Nat}
def VSet (us : RowL) (vs : List Int) : Prop := ∀ y : Int, y ∈ vs ↔ 0 ≤ y ∧ ∃ u ∈ us, (-1 - y) ∈ u
def IntoS (xs os : List Int) (n : Int) : Prop := ∀ y : Int, y ∈ os ↔ y ∈ xs ∨ y = n
def WithS (vs ws t : List Int) : Prop := ∀ y : Int, y ∈ ws ↔ y ∈ vs ∨ (0 ≤ y ∧ (-1 - y) ∈ t)
theorem VSet.nil : VSet [] [] := fun y => by simp
theorem VSet.snoc (h : VSet us vs) (hw : WithS vs ws t) : VSet (us ++ [t]) ws := fun y => by
 rw [hw y, h y]
 constructor
 ·rintro (⟨h1, u, h2, h3⟩ | ⟨h1, h2⟩)
  ·exact ⟨h1, u, List.mem_append_left _ h2, h3⟩
  ·exact ⟨h1, t, by simp, h2⟩
 ·rintro ⟨h1, u, h2, h3⟩
  rcases List.mem_append.1 h2 with h2 | h2
  ·exact .inl ⟨h1, u, h2, h3⟩
  ·obtain rfl := List.mem_singleton.1 h2; exact .inr ⟨h1, h3⟩
theorem VSet.one (hw : WithS [] ws t) : VSet [t] ws := VSet.nil.snoc hw
theorem IntoS.has {xs : List Int} {n : Int} (h : n ∈ xs) : IntoS xs xs n := fun y => ⟨.inl, fun h2 => h2.elim id (fun e => e ▸ h)⟩
theorem IntoS.ins {xs : List Int} {n : Int} (k : Nat) : IntoS xs (xs.take k ++ [n] ++ xs.drop k) n := fun y => by
 have e : xs.take k ++ xs.drop k = xs := List.take_append_drop k xs
 constructor
 ·intro h
  simp only [List.mem_append, List.mem_singleton] at h
  rcases h with (h | h) | h
  ·exact .inl (List.mem_of_mem_take h)
  ·exact .inr h
  ·exact .inl (List.mem_of_mem_drop h)
 ·rintro (h | h)
  ·rw [← e] at h
   simp only [List.mem_append] at h ⊢
   rcases h with h | h
   ·exact .inl (.inl h)
   ·exact .inr h
  ·simp [h]
theorem WithS.start : WithS vs vs (t.take 0) := fun y => by simp
theorem WithS.skip (h : WithS vs ws (t.take k)) (hk : k < t.length) (h0 : ¬ t.getD k 0 < 0) : WithS vs ws (t.take (k + 1)) := fun y => by
 rw [h y, take_succ_getD 0 hk]
 simp only [List.mem_append, List.mem_singleton]
 constructor
 ·rintro (h1 | ⟨h1, h2⟩)
  ·exact .inl h1
  ·exact .inr ⟨h1, .inl h2⟩
 ·rintro (h1 | ⟨h1, h2 | h2⟩)
  ·exact .inl h1
  ·exact .inr ⟨h1, h2⟩
  ·omega
theorem WithS.next {ws2 : List Int} (h : WithS vs ws (t.take k)) (hk : k < t.length) (h0 : t.getD k 0 < 0) (hi : IntoS ws ws2 (-1 - t.getD k 0)) : WithS vs ws2 (t.take (k + 1)) := fun y => by
 rw [hi y, h y, take_succ_getD 0 hk]
 simp only [List.mem_append, List.mem_singleton]
 constructor
 ·rintro ((h1 | ⟨h1, h2⟩) | h1)
  ·exact .inl h1
  ·exact .inr ⟨h1, .inl h2⟩
  ·exact .inr ⟨by omega, .inr (by omega)⟩
 ·rintro (h1 | ⟨h1, h2 | h2⟩)
  ·exact .inl (.inl h1)
  ·exact .inl (.inr ⟨h1, h2⟩)
  ·exact .inr (by omega)
def withinL (t vs : List Int) : Bool := t.all fun n => decide (0 ≤ n) || decide ((-1 - n) ∈ vs)
theorem VSet.known (h : VSet us vs) : withinL t vs = knownL t us := by
 unfold withinL knownL
 congr 1
 funext n
 by_cases h0 : 0 ≤ n
 ·simp [h0]
 ·rw [decide_eq_false h0, Bool.false_or, Bool.false_or]
  have h2 := h (-1 - n)
  rw [show (-1 - (-1 - n) : Int) = n from by omega] at h2
  cases hx : us.any fun u => decide (n ∈ u) with
  | true =>
   obtain ⟨u, hu, hn⟩ := List.any_eq_true.1 hx
   exact decide_eq_true (h2.2 ⟨by omega, u, hu, of_decide_eq_true hn⟩)
  | false =>
   refine decide_eq_false fun hm => ?_
   obtain ⟨_, u, hu, hn⟩ := h2.1 hm
   rw [List.any_eq_true.2 ⟨u, hu, decide_eq_true hn⟩] at hx
   cases hx
end
section
variable {nf : List Int → Option (List Int)} {d0 : Bool} {ar t u w : List Int} {cr : List CR} {lo j k m : Nat}
end
end Go.Proofs.Ytenomejgjcpbdaa.M
set_option linter.unusedSimpArgs false
set_option linter.unusedVariables false
namespace Go.Proofs.Ytenomejgjcpbdaa.M
section
variable {ar t u w p : List Int} {cr : List CR} {cs : Rules} {d k j lo q m : Nat} {x : CR} {b b' g : RowL}
noncomputable def givenD (ar : List Int) (cr : List CR) (d : Nat) (u : List Int) (x : CR) : Option RowL := givenC (nfC ar cr d) (decide (d = 0)) ar u x
noncomputable def condD (ar : List Int) (cr : List CR) (d : Nat) (b : RowL) (cs : Rules) : Option RowL := condGo (nfC ar cr d) ar b cs
noncomputable def stepD (ar : List Int) (cr : List CR) (d : Nat) (x : CR) (t : List Int) (p : Nat) : Option (List Int) := match givenD ar cr d (sub ar t p) x with
 | none => none
 | some b => match fillL b x.2.1 with
  | none => none
  | some u => putL ar t p u
noncomputable def ruleG (ar : List Int) (cr : List CR) (d : Nat) (t : List Int) (p k : Nat) : Int := ruleCGo (nfC ar cr d) (decide (d = 0)) ar cr t p (cr.length - k) k
noncomputable def ruleD (ar : List Int) (cr : List CR) (d : Nat) (t : List Int) (p : Nat) : Int := ruleC (nfC ar cr d) (decide (d = 0)) ar cr t p
noncomputable def pickD (ar : List Int) (cr : List CR) (d : Nat) (t : List Int) : Nat := pickC (nfC ar cr d) (decide (d = 0)) ar cr t
def LowD (ar : List Int) (cr : List CR) (d : Nat) (t : List Int) (j lo : Nat) : Prop := Low (nfC ar cr d) (decide (d = 0)) ar cr t j lo
noncomputable def normD (ar : List Int) (cr : List CR) (d m : Nat) (t : List Int) : Option (List Int) := normGoC (nfC ar cr d) (decide (d = 0)) ar cr m t
def RD (cr : List CR) (k : Nat) : CR := cr.getD k ([], [], [])
theorem nfC_pred (h : d ≠ 0) : nfC ar cr d = normC ar cr (d - 1) := by cases d with
 | zero => exact absurd rfl h
 | succ d => rfl
theorem given_none (h : (mGo ar u x.1 0 (List.replicate 24 [])).isSome = false) : givenD ar cr d u x = none := by
 unfold givenD givenC matchB
 cases hx : mGo ar u x.1 0 (List.replicate 24 []) with
 | none => rfl
 | some v => rw [hx] at h; cases h
theorem given_zero (h : mGo ar u x.1 0 (List.replicate 24 []) = some b) (h2 : 0 < x.2.2.length) (h3 : d = 0) : givenD ar cr d u x = none := by
 unfold givenD givenC matchB
 rw [h]
 exact if_pos ⟨decide_eq_true h3, h2⟩
theorem given_go (h : mGo ar u x.1 0 (List.replicate 24 []) = some b) (h2 : x.2.2.length = 0 ∨ d ≠ 0) : givenD ar cr d u x = condD ar cr d b x.2.2 := by
 unfold givenD givenC matchB
 rw [h]
 refine if_neg (fun hc => ?_)
 have h3 := of_decide_eq_true hc.1
 have h4 := hc.2
 omega
theorem condD_end (h : cs.length ≤ k) : condD ar cr d b (cs.drop k) = some b := condGo_end h
theorem condD_nofill (hk : k < cs.length) (h : (fillL b (cs.getD k ([], [])).1).isSome = false) : condD ar cr d b (cs.drop k) = none := condGo_nofill hk h
theorem condD_nonorm (hd : d ≠ 0) (hk : k < cs.length) (hf : (fillL b (cs.getD k ([], [])).1).isSome = true) (h : (normC ar cr (d - 1) ((fillL b (cs.getD k ([], [])).1).getD [])).isSome = false) : condD ar cr d b (cs.drop k) = none := condGo_nonorm hk hf (by rw [nfC_pred hd]; exact h)
theorem condD_nomatch (hd : d ≠ 0) (hk : k < cs.length) (hf : (fillL b (cs.getD k ([], [])).1).isSome = true) (h : (normC ar cr (d - 1) ((fillL b (cs.getD k ([], [])).1).getD [])).isSome = true) (hm : (mGo ar ((normC ar cr (d - 1) ((fillL b (cs.getD k ([], [])).1).getD [])).getD []) (cs.getD k ([], [])).2 0 b).isSome = false) : condD ar cr d b (cs.drop k) = none :=
 condGo_nomatch hk hf (by rw [nfC_pred hd]; exact h) (by rw [nfC_pred hd]; exact hm)
theorem condD_next (hd : d ≠ 0) (hk : k < cs.length) (hf : (fillL b (cs.getD k ([], [])).1).isSome = true) (h : (normC ar cr (d - 1) ((fillL b (cs.getD k ([], [])).1).getD [])).isSome = true) (hm : mGo ar ((normC ar cr (d - 1) ((fillL b (cs.getD k ([], [])).1).getD [])).getD []) (cs.getD k ([], [])).2 0 b = some b') : condD ar cr d b (cs.drop k) = condD ar cr d b' (cs.drop (k + 1)) :=
 condGo_next hk hf (by rw [nfC_pred hd]; exact h) (by rw [nfC_pred hd]; exact hm)
theorem stepD_none (h : givenD ar cr d (sub ar t q) x = none) : stepD ar cr d x t q = none := by unfold stepD; rw [h]
theorem stepD_nofill (h : givenD ar cr d (sub ar t q) x = some b) (hf : (fillL b x.2.1).isSome = false) : stepD ar cr d x t q = none := by
 unfold stepD
 rw [h]
 simp only
 cases hx : fillL b x.2.1 with
 | none => rfl
 | some v => rw [hx] at hf; cases hf
theorem stepD_put (h : givenD ar cr d (sub ar t q) x = some b) (hf : (fillL b x.2.1).isSome = true) : stepD ar cr d x t q = putL ar t q ((fillL b x.2.1).getD []) := by
 unfold stepD
 rw [h]
 simp only
 cases hx : fillL b x.2.1 with
 | none => rw [hx] at hf; cases hf
 | some v => rfl
theorem stepD_ok (hc : csysOk ar cr = true) (ht : termOk ar t = true) (hq : q < t.length) (hk : k < cr.length) (h : (stepD ar cr d (RD cr k) t q).isSome = true) : termOk ar ((stepD ar cr d (RD cr k) t q).getD []) = true := by
 obtain ⟨v, hv⟩ := Option.isSome_iff_exists.1 h
 rw [hv]
 exact stepCF_ok (nf := nfC ar cr d) (d0 := decide (d = 0)) (fun u w hu hw => nfC_ok hc d u w hu hw) hc ht hq hk hv
theorem RowsOk.nil24 : RowsOk ar (List.replicate 24 []) := fun i => .inl (by rw [List.getD_eq_getElem?_getD, List.getElem?_replicate]; split <;> simp)
theorem RowsOk.len (h : RowsOk ar b) : ∀ i, (b.getD i []).length ≤ 60 := fun i => by
 rcases h i with e | e
 ·rw [e]; simp
 ·exact (termOk_len e).2
theorem fill_okS (hb : RowsOk ar b) (ht : termOk ar t = true) (h : (fillL b t).isSome = true) : termOk ar ((fillL b t).getD []) = true := by
 obtain ⟨v, hv⟩ := Option.isSome_iff_exists.1 h
 rw [hv]
 exact fill_ok hb ht hv
theorem norm_okS (hc : csysOk ar cr = true) (ht : termOk ar t = true) (h : (normC ar cr d t).isSome = true) : termOk ar ((normC ar cr d t).getD []) = true := by
 obtain ⟨v, hv⟩ := Option.isSome_iff_exists.1 h
 rw [hv]
 exact normC_ok hc d t v ht hv
theorem given_ok (hc : csysOk ar cr = true) (hk : k < cr.length) (hu : termOk ar u = true) (h : givenD ar cr d u (RD cr k) = some b) : RowsOk ar b := givenC_ok (fun u w hu hw => nfC_ok hc d u w hu hw) (csysOk_at hc hk) hu h
theorem ruleG_hit (hk : k < cr.length) (h : (stepD ar cr d (RD cr k) t q).isSome = true) : ruleG ar cr d t q k = k := ruleC_hit hk h
theorem ruleG_miss (hk : k < cr.length) (h : (stepD ar cr d (RD cr k) t q).isSome = false) : ruleG ar cr d t q k = ruleG ar cr d t q (k + 1) := ruleC_miss hk h
theorem ruleG_end (hk : cr.length ≤ k) : ruleG ar cr d t q k = -1 := ruleC_end hk
theorem ruleD_var (hc : csysOk ar cr = true) (ht : termOk ar t = true) (hq : q < t.length) (hv : t.getD q 0 < 0) : ruleD ar cr d t q = -1 := ruleC_var hc ht hq hv
theorem LowD.start : LowD ar cr d t t.length t.length := Low.start
theorem LowD.cover (h : LowD ar cr d t (j + 1) lo) (ht : termOk ar t = true) (hj : j < t.length) (he : lo < endN ar t j) : LowD ar cr d t j lo := Low.cover ht hj h he
theorem LowD.rule (h : LowD ar cr d t (j + 1) lo) (hr : ruleD ar cr d t j < 0) : LowD ar cr d t j lo := Low.rule h hr
theorem LowD.take (h : LowD ar cr d t (j + 1) lo) (ht : termOk ar t = true) (hj : j < t.length) (he : ¬ lo < endN ar t j) (hr : 0 ≤ ruleD ar cr d t j) : LowD ar cr d t j j := Low.take ht hj h he hr
theorem LowD.done (h : LowD ar cr d t 0 lo) : pickD ar cr d t = lo := Low.done h
theorem LowD.le (h : LowD ar cr d t j lo) : lo ≤ t.length := by rcases h.1 with h | h <;> omega
def bestD (t : List Int) (lo : Nat) : Int := if lo = t.length then -1 else lo
noncomputable def ruleB (ar : List Int) (cr : List CR) (d : Nat) (t : List Int) (lo : Nat) : Int := if lo = t.length then 0 else ruleD ar cr d t lo
noncomputable def toB (ar : List Int) (cr : List CR) (d : Nat) (t : List Int) (lo : Nat) : List Int := if lo = t.length then [] else (stepD ar cr d (RD cr (ruleD ar cr d t lo).toNat) t lo).getD []
theorem bestD_start : bestD t t.length = -1 := if_pos rfl
theorem ruleB_start : ruleB ar cr d t t.length = 0 := if_pos rfl
theorem toB_start : toB ar cr d t t.length = [] := if_pos rfl
theorem bestD_at (h : lo < t.length) : bestD t lo = lo := if_neg (by omega)
theorem ruleB_at (h : lo < t.length) : ruleB ar cr d t lo = ruleD ar cr d t lo := if_neg (by omega)
theorem ruleB_hit (hj : j < t.length) (hk : k < cr.length) (hr : ruleD ar cr d t j = ruleG ar cr d t j k) (h : (stepD ar cr d (RD cr k) t j).isSome = true) : ruleB ar cr d t j = k := by rw [ruleB_at hj, hr, ruleG_hit hk h]
theorem toB_hit (hj : j < t.length) (hk : k < cr.length) (hr : ruleD ar cr d t j = ruleG ar cr d t j k) (h : (stepD ar cr d (RD cr k) t j).isSome = true) : toB ar cr d t j = (stepD ar cr d (RD cr k) t j).getD [] := by
 unfold toB
 rw [if_neg (by omega), hr, ruleG_hit hk h]
 rfl
theorem bestD_neg (h : lo ≤ t.length) : bestD t lo < 0 ↔ lo = t.length := by
 unfold bestD
 split <;> omega
theorem pickD_le : pickD ar cr d t ≤ t.length := pickC_le
theorem pickD_step (h : pickD ar cr d t ≠ t.length) : pickD ar cr d t < t.length ∧ 0 ≤ ruleD ar cr d t (pickD ar cr d t) ∧ (ruleD ar cr d t (pickD ar cr d t)).toNat < cr.length ∧ (stepD ar cr d (RD cr (ruleD ar cr d t (pickD ar cr d t)).toNat) t (pickD ar cr d t)).isSome = true := by
 obtain ⟨h1, h2, h3, u, hu⟩ := pickC_step (nf := nfC ar cr d) (d0 := decide (d = 0)) (ar := ar) (cr := cr) (t := t) h
 exact ⟨h1, h2, h3, by rw [show stepD ar cr d (RD cr (ruleD ar cr d t (pickD ar cr d t)).toNat) t (pickD ar cr d t) = some u from hu]; rfl⟩
theorem toB_ok (hc : csysOk ar cr = true) (ht : termOk ar t = true) (h : pickD ar cr d t ≠ t.length) : termOk ar (toB ar cr d t (pickD ar cr d t)) = true := by
 obtain ⟨h1, h2, h3, h4⟩ := pickD_step h
 unfold toB
 rw [if_neg h]
 exact stepD_ok hc ht h1 h3 h4
theorem normD_eq : normC ar cr d t = normD ar cr d 8 t := by rw [normC_eq]; rfl
theorem normD_nil (h : pickD ar cr d t = t.length) : normD ar cr d m t = some t := normGo_nil h
theorem normD_zero (h : pickD ar cr d t ≠ t.length) : normD ar cr d 0 t = none := normGo_zero h
theorem normD_next (h : pickD ar cr d t ≠ t.length) (hm : 0 < m) : normD ar cr d m t = normD ar cr d (m - 1) (toB ar cr d t (pickD ar cr d t)) := by
 obtain ⟨n, rfl⟩ : ∃ n, m = n + 1 := ⟨m - 1, by omega⟩
 unfold toB
 rw [if_neg h]
 exact normGo_next h
def depthB (ar : List Int) (cr : List CR) (t : List Int) (z : Int) : Bool := (csysOk ar cr && termOk ar t) && decide (0 ≤ z ∧ z ≤ 2)
theorem depth_iff {z : Int} : depthB ar cr t z = true ↔ (csysOk ar cr = true ∧ termOk ar t = true) ∧ 0 ≤ z ∧ z ≤ 2 := by simp [depthB, Bool.and_eq_true, and_assoc]
def Inm (ar : List Int) (cr : List CR) (d : Nat) (t : List Int) (q : Nat) : Prop := inmC (nfC ar cr d) (decide (d = 0)) ar cr t q
theorem Inm.mk (h : 0 ≤ ruleD ar cr d t q) (h2 : ∀ i, q < i → i < endN ar t q → ruleD ar cr d t i < 0) : Inm ar cr d t q := ⟨h, h2⟩
theorem pickD_first (h1 : Inm ar cr d t q) (hq : q < t.length) (h2 : ∀ i, i < q → ¬ Inm ar cr d t i) : pickD ar cr d t = q := pickC_eq (.inr ⟨hq, h1⟩) h2
theorem pickD_none (h2 : ∀ i, i < t.length → ¬ Inm ar cr d t i) : pickD ar cr d t = t.length := pickC_eq (.inl rfl) h2
end
end Go.Proofs.Ytenomejgjcpbdaa.M
set_option linter.unusedSimpArgs false
set_option linter.unusedVariables false
namespace Go.Proofs.Ytenomejgjcpbdaa.M
section
variable {ar t u w p : List Int} {cr : List CR} {cs : Rules} {d k j lo q m : Nat} {x : CR} {gs g : RowL} {ok : Bool}
def GivenAt (ar : List Int) (cr : List CR) (d : Nat) (u : List Int) (x : CR) (k : Nat) (gs : RowL) (ok : Bool) : Prop :=
 (ok = false ∧ givenD ar cr d u x = none) ∨ (ok = true ∧ RowsOk ar gs ∧ (k = 0 ∧ mGo ar u x.1 0 (List.replicate 24 []) = some gs ∨ d ≠ 0 ∧ givenD ar cr d u x = condD ar cr d gs (x.2.2.drop k)))
theorem GivenAt.start (hu : termOk ar u = true) (h : ∀ r, mGo ar u x.1 0 (List.replicate 24 []) = some r → gs = r) : GivenAt ar cr d u x 0 gs (mGo ar u x.1 0 (List.replicate 24 [])).isSome := by
 cases hx : mGo ar u x.1 0 (List.replicate 24 []) with
 | none => exact .inl ⟨rfl, given_none (by rw [hx]; rfl)⟩
 | some r =>
  obtain rfl := h r hx
  exact .inr ⟨rfl, mGo_ok hu _ _ _ _ hx RowsOk.nil24, .inl ⟨rfl, hx⟩⟩
theorem GivenAt.zero (h : GivenAt ar cr d u x k gs ok) (ho : ok = true) (hd : d = 0) (hk : k < x.2.2.length) : givenD ar cr d u x = none := by
 rcases h with h | ⟨_, _, h | h⟩
 ·exact h.2
 ·exact given_zero h.2 (by omega) hd
 ·exact absurd hd h.1
theorem GivenAt.go (h : GivenAt ar cr d u x k gs ok) (ho : ok = true) (hd : d ≠ 0) : RowsOk ar gs ∧ givenD ar cr d u x = condD ar cr d gs (x.2.2.drop k) := by
 rcases h with h | ⟨_, h1, h | h⟩
 ·rw [ho] at h; cases h.1
 ·refine ⟨h1, ?_⟩
  rw [h.1, given_go h.2 (.inr hd)]; rfl
 ·exact ⟨h1, h.2⟩
theorem GivenAt.next (hg : givenD ar cr d u x = condD ar cr d gs (x.2.2.drop k)) (hr : RowsOk ar gs) (hd : d ≠ 0) (hk : k < x.2.2.length) (hf : (fillL gs (x.2.2.getD k ([], [])).1).isSome = true) (hn : (normC ar cr (d - 1) ((fillL gs (x.2.2.getD k ([], [])).1).getD [])).isSome = true)
  (hw : termOk ar ((normC ar cr (d - 1) ((fillL gs (x.2.2.getD k ([], [])).1).getD [])).getD []) = true) (h : ∀ r, mGo ar ((normC ar cr (d - 1) ((fillL gs (x.2.2.getD k ([], [])).1).getD [])).getD []) (x.2.2.getD k ([], [])).2 0 gs = some r → g = r) :
  GivenAt ar cr d u x (k + 1) g (mGo ar ((normC ar cr (d - 1) ((fillL gs (x.2.2.getD k ([], [])).1).getD [])).getD []) (x.2.2.getD k ([], [])).2 0 gs).isSome := by
 cases hx : mGo ar ((normC ar cr (d - 1) ((fillL gs (x.2.2.getD k ([], [])).1).getD [])).getD []) (x.2.2.getD k ([], [])).2 0 gs with
 | none => exact .inl ⟨rfl, hg.trans (condD_nomatch hd hk hf hn (by rw [hx]; rfl))⟩
 | some r =>
  obtain rfl := h r hx
  exact .inr ⟨rfl, mGo_ok hw _ _ _ _ hx hr, .inr ⟨hd, hg.trans (condD_next hd hk hf hn hx)⟩⟩
theorem GivenAt.no (h : GivenAt ar cr d u x k gs ok) (ho : ok = false) : givenD ar cr d u x = none := by
 rcases h with h | h
 ·exact h.2
 ·rw [ho] at h; cases h.1
theorem GivenAt.yes (h : GivenAt ar cr d u x k gs ok) (ho : ok = true) (hk : x.2.2.length ≤ k) : givenD ar cr d u x = some gs := by
 rcases h with h | ⟨_, _, h | h⟩
 ·rw [ho] at h; cases h.1
 ·rw [given_go h.2 (.inl (by omega))]
  have := condD_end (ar := ar) (cr := cr) (d := d) (b := gs) (cs := x.2.2) (k := 0) (by omega)
  simpa using this
 ·rw [h.2, condD_end hk]
theorem GivenAt.is (h : GivenAt ar cr d u x k gs ok) (hk : x.2.2.length ≤ k ∨ ok = false) : (givenD ar cr d u x).isSome = ok ∧ ∀ r, givenD ar cr d u x = some r → gs = r := by
 cases hb : ok with
 | false => rw [h.no hb]; exact ⟨rfl, fun r hr => by cases hr⟩
 | true => rw [h.yes hb (by rcases hk with e | e; exact e; rw [hb] at e; cases e)]; exact ⟨rfl, fun r hr => Option.some.inj hr⟩
noncomputable def redsD (ar : List Int) (cr : List CR) (d : Nat) (t : List Int) (k : Nat) : List Int := (List.range k).map (ruleD ar cr d t)
theorem redsD_len : (redsD ar cr d t k).length = k := by simp [redsD]
theorem redsD_succ : redsD ar cr d t (k + 1) = redsD ar cr d t k ++ [ruleD ar cr d t k] := by simp [redsD, List.range_succ]
theorem redsD_get (h : q < k) : (redsD ar cr d t k).getD q 0 = ruleD ar cr d t q := by simp [redsD, List.getD, h]
noncomputable def pickV (ar : List Int) (cr : List CR) (d : Nat) (t : List Int) : Int × Int × Bool := if pickD ar cr d t = t.length then (0, 0, false) else (((pickD ar cr d t : Nat) : Int), ruleD ar cr d t (pickD ar cr d t), true)
theorem pickV_none (h : pickD ar cr d t = t.length) : pickV ar cr d t = (0, 0, false) := if_pos h
theorem pickV_at (h : pickD ar cr d t = q) (hq : q < t.length) : pickV ar cr d t = ((q : Int), ruleD ar cr d t q, true) := by
 unfold pickV
 rw [h, if_neg (by omega)]
theorem pickV_true (h : (pickV ar cr d t).2.2 = true) : pickD ar cr d t ≠ t.length ∧ (pickV ar cr d t).1 = ((pickD ar cr d t : Nat) : Int) ∧ (pickV ar cr d t).2.1 = ruleD ar cr d t (pickD ar cr d t) := by
 unfold pickV at h ⊢
 split at h
 ·cases h
 ·rename_i hn; rw [if_neg hn]; exact ⟨hn, rfl, rfl⟩
theorem pickV_false (h : (pickV ar cr d t).2.2 = false) : pickD ar cr d t = t.length := by
 unfold pickV at h
 split at h
 ·assumption
 ·cases h
theorem Inm.no1 (h : ruleD ar cr d t q < 0) : ¬ Inm ar cr d t q := fun hi => by have := hi.1; unfold ruleD at h; omega
def AllNo (ar : List Int) (cr : List CR) (d : Nat) (t : List Int) (q j : Nat) (ok : Bool) : Prop := ok = true ↔ ∀ i, q < i → i < j → ruleD ar cr d t i < 0
theorem AllNo.start : AllNo ar cr d t q (q + 1) true := ⟨fun _ i h1 h2 => by omega, fun _ => rfl⟩
theorem AllNo.next (h : AllNo ar cr d t q j ok) (hj : q < j) {ok2 : Bool} (h2 : ok2 = true ↔ ok = true ∧ ruleD ar cr d t j < 0) : AllNo ar cr d t q (j + 1) ok2 := by
 unfold AllNo at h ⊢
 rw [h2, h]
 constructor
 ·rintro ⟨h3, h4⟩ i h5 h6
  rcases Nat.lt_or_ge i j with g | g
  ·exact h3 i h5 g
  ·obtain rfl : i = j := by omega
   exact h4
 ·exact fun h3 => ⟨fun i h5 h6 => h3 i h5 (by omega), h3 j hj (by omega)⟩
theorem AllNo.yes (h : AllNo ar cr d t q j ok) (ho : ok = true) (hr : ¬ ruleD ar cr d t q < 0) (hj : endN ar t q ≤ j) : Inm ar cr d t q := Inm.mk (by omega) (fun i h1 h2 => h.1 ho i h1 (by omega))
theorem AllNo.no (h : AllNo ar cr d t q j ok) (ho : ok = false) (hj : j ≤ endN ar t q) : ¬ Inm ar cr d t q := fun hi => by
 have := h.2 (fun i h1 h2 => hi.2 i h1 (by omega))
 rw [ho] at this
 cases this
theorem any_badG {n : Int} {us : RowL} : decide (badG (fun u : List Int => !decide (n ∈ u)) us ≥ 0) = us.any (fun u => decide (n ∈ u)) := by
 have hb := badG_iff (q := fun u : List Int => !decide (n ∈ u)) (l := us)
 cases h : us.any (fun u => decide (n ∈ u)) with
 | true =>
  refine decide_eq_true (hb.2 ?_)
  obtain ⟨u, hu, hn⟩ := List.any_eq_true.1 h
  refine Bool.eq_false_iff.2 (fun hc => ?_)
  have := List.all_eq_true.1 hc u hu
  rw [hn] at this
  cases this
 | false =>
  refine decide_eq_false (fun hc => ?_)
  have h2 := hb.1 hc
  rw [List.all_eq_false] at h2
  obtain ⟨u, hu, hn⟩ := h2
  rw [List.any_eq_false] at h
  exact h u hu (by simpa using hn)
theorem eqOk_both {e : List Int × List Int} (h : eqOkL ar e = true) : termOk ar e.1 = true ∧ termOk ar e.2 = true := by simpa only [eqOkL, Bool.and_eq_true] using h
theorem rows_snoc60 {os : RowL} {t : List Int} (h : ∀ i, i < os.length → (os.getD i []).length ≤ 60) (ht : t.length ≤ 60) : ∀ i, i < (os ++ [t]).length → ((os ++ [t]).getD i []).length ≤ 60 := fun i hi => by
 rcases Nat.lt_or_ge i os.length with g | g
 ·have := h i g; simpa [List.getD, List.getElem?_append_left g] using this
 ·obtain rfl : i = os.length := by simp at hi; omega
  simpa [List.getD] using ht
theorem cruleOk_no1 {l r : List Int} (h : termOk ar l = true → termOk ar r = true → 0 ≤ l.getD 0 0 → cs.length ≤ 2 → False) : cruleOk ar (l, r, cs) = false := by
 refine Bool.eq_false_iff.2 (fun hc => ?_)
 have := cruleOk_facts hc
 exact h this.left this.right this.head this.len
theorem cruleOk_no2 {l r : List Int} (h : cOkGo ar [l] cs = none) : cruleOk ar (l, r, cs) = false := by
 unfold cruleOk
 rw [h, Bool.and_false]
theorem cruleOk_yes {l r : List Int} {us : RowL} (hl : termOk ar l = true) (hr : termOk ar r = true) (h0 : 0 ≤ l.getD 0 0) (hn : cs.length ≤ 2) (h : cOkGo ar [l] cs = some us) : cruleOk ar (l, r, cs) = knownL r us := by
 unfold cruleOk
 rw [h, hl, hr, decide_eq_true (show 0 ≤ l.getD 0 0 ∧ cs.length ≤ 2 from ⟨h0, hn⟩)]
 rfl
end
end Go.Proofs.Ytenomejgjcpbdaa.M
set_option linter.unusedSimpArgs false
set_option linter.unusedVariables false
namespace Go.Proofs.Ytenomejgjcpbdaa.X
open Go
def CRuleO (E2 e : TypeId) (es : List Value) (x : CRuleT) (K : List HP) : Prop := ∃ a b c, es = [a, b, c] ∧ K = [intsH e a x.1, intsH e b x.2.1, pairsD e E2 c x.2.2]
abbrev crulesD (e E2 E : TypeId) (v : Value) (xs : List CRuleT) : HP := deepH 3 (CRuleO E2 e) E v xs
section
variable {e E2 E : TypeId} {F G : FH} {v : Value} {cs : List Value} {xs : List CRuleT} {L : List HP}
theorem CRuleO.fz (es : List Value) (x : CRuleT) (K : List HP) (h : CRuleO E2 e es x K) (hz : ∃ l, star K l ∧ ∀ p ∈ l, F.cells p.1 = some p.2) : CRuleF F es x := by
 obtain ⟨a, b, c, rfl, rfl⟩ := h
 exact ⟨a, b, c, rfl, intsH.fz (E := e) (frozen_star hz _ (by simp)), intsH.fz (E := e) (frozen_star hz _ (by simp)), pairsD.fz (e := e) (E := E2) (frozen_star hz _ (by simp))⟩
theorem crulesD.fz (h : Fz (crulesD e E2 E v xs) F) : CRulesF F v xs := deepH.fz CRuleO.fz h
theorem DeepL.crulesNil (h : DeepL 3 (CRuleO E2 e) cs xs L) (hz : star L []) : CRulesC F cs xs := h.co CRuleO.fz ⟨[], hz, fun p hp => absurd hp (by simp)⟩
theorem nilPairsD : pairsD e E2 (.slice none 0 0) [] [] := ⟨[], [], DeepL.nil, [], [], slH_nil E2 2 none, rfl, rfl⟩
theorem deepNilsC (E2 e : TypeId) (n : Nat) : ∃ Ls, DeepL 3 (CRuleO E2 e) ((List.range (n * 3)).map fun i => [Value.slice none 0 0, Value.slice none 0 0, Value.slice none 0 0].toArray[i % [Value.slice none 0 0, Value.slice none 0 0, Value.slice none 0 0].toArray.size]!) (List.replicate n ([], [], [])) Ls ∧ star Ls [] :=
 deepNilsR (e := e) (s := 3) (R := CRuleO E2 e) (d := (([], [], []) : CRuleT)) (z := [Value.slice none 0 0, Value.slice none 0 0, Value.slice none 0 0]) (K := [intsH e (.slice none 0 0) [], intsH e (.slice none 0 0) [], pairsD e E2 (.slice none 0 0) []]) (by decide) rfl ⟨_, _, _, rfl, rfl⟩ ⟨[], [], nilLeaf, ⟨[], [], nilLeaf, ⟨[], [], nilPairsD, rfl, rfl⟩, rfl⟩, rfl⟩ n
theorem CRulesC.set {a b c : Value} {x y : List Int} {z : List (List Int × List Int)} (h : CRulesC F cs xs) {j : Nat} (hj : j < xs.length) (ha : IntsF F a x) (hb : IntsF F b y) (hc : PairsF F c z) : CRulesC F (cs.take (j * 3) ++ [a, b, c] ++ cs.drop (j * 3 + 3)) (xs.set j (x, y, z)) := CO.setN h hj rfl ⟨a, b, c, rfl, ha, hb, hc⟩
end
end Go.Proofs.Ytenomejgjcpbdaa.X
set_option linter.unusedSimpArgs false
set_option linter.unusedVariables false
namespace Go.Proofs.Ytenomejgjcpbdaa.M
def lenC (x : CR) : Nat := (x.1.length + x.2.1.length) + szR x.2.2
def flatC (x : CR) : List Int := (x.1 ++ x.2.1) ++ x.2.2.flatMap flatPair
theorem flatC_len (l : List CR) : (l.flatMap flatC).length ≤ szG lenC l := by
 unfold szG gTo
 rw [List.take_length, List.length_flatMap]
 induction l with
 | nil => simp
 | cons x l ih =>
  have h := flatPair_len x.2.2
  simp only [List.map_cons, List.sum_cons, List.length_cons, flatC, lenC, List.length_append] at ih ⊢
  omega
theorem szC_le {l : List CR} : l.length ≤ szG lenC l ∧ ∀ i, i < l.length → (l.getD i ([], [], [])).1.length ≤ szG lenC l ∧ (l.getD i ([], [], [])).2.1.length ≤ szG lenC l ∧ (l.getD i ([], [], [])).2.2.length ≤ szG lenC l ∧ ∀ q, q < (l.getD i ([], [], [])).2.2.length → ((l.getD i ([], [], [])).2.2.getD q ([], [])).1.length ≤ szG lenC l ∧ ((l.getD i ([], [], [])).2.2.getD q ([], [])).2.length ≤ szG lenC l := by
 obtain ⟨h1, h2⟩ := szG_le (f := lenC) (l := l) (([], [], []) : CR)
 refine ⟨h1, fun i hi => ?_⟩
 have h3 := h2 i hi
 have h4 := szR_le (rs := (l.getD i ([], [], [])).2.2)
 unfold lenC at h3 ⊢
 refine ⟨by omega, by omega, by omega, fun q hq => ?_⟩
 have := h4.2 q hq
 omega
section
variable {ar t : List Int} {cr : List CR} {p r z : Int}
def cstepOk (ar : List Int) (cr : List CR) (t : List Int) (p r z : Int) : Prop := depthB ar cr t z = true ∧ (0 ≤ p ∧ p < (t.length : Int)) ∧ 0 ≤ r ∧ r < (cr.length : Int)
instance : Decidable (cstepOk ar cr t p r z) := by unfold cstepOk; infer_instance
noncomputable def cstepF (ar : List Int) (cr : List CR) (t : List Int) (p r z : Int) : Option (List Int) := if cstepOk ar cr t p r z then stepD ar cr z.toNat (RD cr r.toNat) t p.toNat else none
theorem cstepF_no (h : ¬ cstepOk ar cr t p r z) : cstepF ar cr t p r z = none := if_neg h
theorem cstepF_yes (h : cstepOk ar cr t p r z) : cstepF ar cr t p r z = stepD ar cr z.toNat (RD cr r.toNat) t p.toNat := if_pos h
theorem cstepF_len : ((cstepF ar cr t p r z).getD []).length ≤ 60 := by
 unfold cstepF
 split
 ·rename_i h
  obtain ⟨h1, ⟨h2, h3⟩, h4, h5⟩ := h
  have hd := depth_iff.1 h1
  cases hs : (stepD ar cr z.toNat (RD cr r.toNat) t p.toNat).isSome with
  | true => exact (termOk_len (stepD_ok hd.1.1 hd.1.2 (by omega) (by omega) hs)).2
  | false =>
   cases hx : stepD ar cr z.toNat (RD cr r.toNat) t p.toNat with
   | none => simp
   | some v => rw [hx] at hs; cases hs
 ·simp
end
end Go.Proofs.Ytenomejgjcpbdaa.M
set_option linter.unusedSimpArgs false
set_option linter.unusedVariables false
namespace Go.Proofs.Ytenomejgjcpbdaa.X
open Go Go.WideShapes Go.ChangeShapes Go.RowKit
def fhOf (w : World) : FH := ⟨fun b => w.heap[b]?, w.os, w.output, w.tape⟩
theorem holds_fhOf (w : World) : Holds (fhOf w) [] w := ⟨rfl, rfl, rfl, fun _ _ h => h, [], rfl, List.nodup_nil, fun p hp => absurd hp (by simp)⟩
theorem cell_fhOf (w : World) (a : Addr) : (fhOf w).cell? a = w.cell? a := by
 unfold FH.cell? World.cell? fhOf
 rfl
theorem below_of_holds {w w' : World} {F' : FH} {L' : List HP} (le : fhOf w ≤ F') (h : Holds F' L' w') : Below w.heap.size w w' := by
 have key : ∀ k o, w.heap[k]? = some o → w'.heap[k]? = some o := fun k o hk => h.cells k o (le.cells k o hk)
 refine ⟨h.os.trans le.os, h.tape.trans le.tape, h.output.trans le.output, ?_, fun k hk => ?_⟩
 ·rcases Nat.eq_zero_or_pos w.heap.size with h0 | h0
  ·omega
  ·have h1 : w.heap[w.heap.size - 1]? = some (w.heap[w.heap.size - 1]'(by omega)) := Array.getElem?_eq_getElem (by omega)
   have h2 := (Array.getElem?_eq_some_iff.1 (key _ _ h1)).1
   omega
 ·have h1 : w.heap[k]? = some (w.heap[k]'hk) := Array.getElem?_eq_getElem hk
  rw [h1]
  exact key _ _ h1
def Opens (P : Program) (t : TypeId) {α : Type} (R : FH → List Value → α → Prop) (B : α → Prop) : Prop :=
 ∀ (H : Type) (enc : TypeId × Value → H) (w : World) (base : Nat) (spare : Nat → Bool) (held : Bool) (fuel : Nat) (cs : List Value) (x : DataW H × List MemPlace),
  DataW.trod enc P w base spare held fuel t cs = some x → ∃ a, R (fhOf w) cs a ∧ B a
variable {P : Program} {t e : TypeId}
theorem opens_ints (ht : P.underlying t = some (.slice e)) (he : P.underlying e = some (.int .i64)) (hc : P.cellsOf e = 1) : Opens P t RowF (fun xs => xs.length ≤ 9223372036854775807) := by
 intro H enc w base spare held fuel cs x h
 rcases open_ints ht he hc h with ⟨rfl, _⟩ | ⟨a, len, cap, zs, rfl, hb, hl, hm, hz, _, hcell, _⟩
 ·exact ⟨[], ⟨_, rfl, by simp, none, 0, rfl, by simp, fun _ => rfl, fun a h => by cases h⟩, by simp⟩
 ·have hlz : len ≤ zs.length := by rw [hz]; split <;> omega
  have e1 : (zs.take len).length = len := by rw [List.length_take]; omega
  refine ⟨zs.take len, ⟨_, rfl, by simp, some a, cap, by rw [e1], by omega, (fun h => by cases h), ?_⟩, by unfold maxLen at hm; omega⟩
  intro a' ha i u hu
  obtain rfl := Option.some.inj ha
  have hi : i < len := by have := (List.getElem?_eq_some_iff.1 hu).1; simp at this; omega
  rw [cell_fhOf, hcell i (by omega)]
  rw [List.getElem?_map, List.getElem?_take, if_pos hi, List.getElem?_eq_getElem (by omega)] at hu
  simp only [Option.map_some, Option.some.injEq] at hu
  rw [← hu]
  simp [List.getD, List.getElem?_eq_getElem (show i < zs.length by omega)]
theorem opens_slice {α : Type} {R : FH → List Value → α → Prop} {B : α → Prop} {s : Nat} (d : α) (ht : P.underlying t = some (.slice e)) (hc : P.cellsOf e = s) (ho : Opens P e R B) :
  Opens P t (fun F cs (xs : List α) => ∃ v, cs = [v] ∧ SlOf s R d F v xs) (fun xs => xs.length ≤ 9223372036854775807 ∧ ∀ i, i < xs.length → B (xs.getD i d)) := by
 intro H enc w base spare held fuel cs x h
 rcases Go.Deep.open_slice ht h with ⟨rfl, _⟩ | ⟨a, len, cap, m, n, D, Pl, rfl, hb, hl, hm, hmm, _, hx⟩
 ·exact ⟨[], ⟨_, rfl, [], ⟨by simp, none, 0, rfl, by simp, fun _ => rfl, fun a h => by cases h⟩, fun i hi => by simp at hi⟩, by simp, fun i hi => by simp at hi⟩
 ·have hlm : len ≤ m := by rw [hmm]; split <;> omega
  rw [hc] at hx
  have each : ∀ i, i < len → ∃ q : α, ∃ cs' : List Value, cs'.length = s ∧ (∀ r, r < s → w.cell? (a.add (i * s + r)) = cs'[r]?) ∧ R (fhOf w) cs' q ∧ B q := by
   intro i hi
   obtain ⟨cs', h1, h2⟩ := hx i (by omega)
   obtain ⟨_, hlen, hcell⟩ := World.cells?_some h1
   obtain ⟨q, hq, hbq⟩ := ho H enc w base spare held n cs' _ h2
   exact ⟨q, cs', hlen, fun r hr => by rw [← hcell r hr, add_add], hq, hbq⟩
  have ⟨q, hq⟩ : ∃ q : Nat → α, ∀ i, i < len → ∃ cs' : List Value, cs'.length = s ∧ (∀ r, r < s → w.cell? (a.add (i * s + r)) = cs'[r]?) ∧ R (fhOf w) cs' (q i) ∧ B (q i) := by
   haveI : Inhabited α := ⟨d⟩
   exact Go.Deep.choose_lt each
  let V : Nat → Value := fun j => (w.cell? (a.add j)).getD undef
  have hV : ∀ j, j < len * s → w.cell? (a.add j) = some (V j) := by
   intro j hj
   have hs : 0 < s := by rcases Nat.eq_zero_or_pos s with h0 | h0; subst h0; simp at hj; exact h0
   have hdiv : j / s < len := (Nat.div_lt_iff_lt_mul hs).2 hj
   obtain ⟨cs', hl', hcell, _⟩ := hq (j / s) hdiv
   have hr := hcell (j % s) (Nat.mod_lt _ hs)
   have e1 : j / s * s + j % s = j := by rw [Nat.mul_comm]; exact Nat.div_add_mod j s
   rw [e1] at hr
   have hlt : j % s < cs'.length := by rw [hl']; exact Nat.mod_lt _ hs
   rw [List.getElem?_eq_getElem hlt] at hr
   show w.cell? (a.add j) = some ((w.cell? (a.add j)).getD undef)
   rw [hr]; rfl
  have hxl : ((List.range len).map q).length = len := by simp
  have hgd : ∀ i, i < len → ((List.range len).map q).getD i d = q i := fun i hi => by simp [List.getD, hi]
  refine ⟨(List.range len).map q, ⟨_, rfl, (List.range (len * s)).map V, ⟨by simp, some a, cap, by rw [hxl], by omega, (fun h => by cases h), ?_⟩, ?_⟩, by rw [hxl]; unfold maxLen at hm; omega, fun i hi => ?_⟩
  ·intro a' ha i u hu
   obtain rfl := Option.some.inj ha
   have hi : i < len * s := by have := (List.getElem?_eq_some_iff.1 hu).1; simpa using this
   rw [cell_fhOf, hV i hi]
   rw [List.getElem?_map, List.getElem?_range hi] at hu
   exact hu
  ·intro i hi
   rw [hxl] at hi
   obtain ⟨cs', hl', hcell, hR, _⟩ := hq i hi
   refine ⟨cs', hl', ?_, by rw [hgd i hi]; exact hR⟩
   have hle : i * s + s ≤ len * s := by
    have : (i + 1) * s ≤ len * s := Nat.mul_le_mul_right s hi
    rwa [Nat.succ_mul] at this
   apply List.ext_getElem?
   intro r
   rcases Nat.lt_or_ge r s with hr | hr
   ·rw [List.getElem?_take, if_pos hr, List.getElem?_drop, List.getElem?_map, List.getElem?_range (by omega), ← hcell r hr, hV _ (by omega)]; rfl
   ·rw [List.getElem?_eq_none (by simp; omega), List.getElem?_eq_none (by omega)]
  ·rw [hxl] at hi
   obtain ⟨_, _, _, _, hB⟩ := hq i hi
   rw [hgd i hi]
   exact hB
theorem opens_struct1 {α : Type} {R : FH → List Value → α → Prop} {B : α → Prop} {f0 : Field} (ht : P.underlying t = some (.struct #[f0])) (ho : f0.offset = 0) (hc : P.cellsOf f0.type = P.cellsOf t) (h0 : Opens P f0.type R B) : Opens P t R B := by
 intro H enc w base spare held fuel cs x h
 obtain ⟨y0, n, _, hl, h⟩ := trod_struct1 ht h
 rw [ho, hc, List.drop_zero, ← hl, List.take_length] at h
 exact h0 H enc w base spare held n cs _ h
theorem opens_struct2 {α β : Type} {R0 : FH → List Value → α → Prop} {B0 : α → Prop} {R1 : FH → List Value → β → Prop} {B1 : β → Prop} {f0 f1 : Field} (ht : P.underlying t = some (.struct #[f0, f1])) (o0 : f0.offset = 0) (o1 : f1.offset = P.cellsOf f0.type)
  (hc : P.cellsOf f0.type + P.cellsOf f1.type = P.cellsOf t) (h0 : Opens P f0.type R0 B0) (h1 : Opens P f1.type R1 B1) : Opens P t (fun F cs (x : α × β) => ∃ a b, cs = a ++ b ∧ R0 F a x.1 ∧ R1 F b x.2) (fun x => B0 x.1 ∧ B1 x.2) := by
 intro H enc w base spare held fuel cs x h
 obtain ⟨y0, y1, n, _, hl, g0, g1⟩ := trod_struct2 ht h
 rw [o0, List.drop_zero] at g0
 rw [o1] at g1
 obtain ⟨a, ha, ba⟩ := h0 H enc w base spare held n _ _ g0
 obtain ⟨b, hb, bb⟩ := h1 H enc w base spare held n _ _ g1
 refine ⟨(a, b), ⟨_, _, ?_, ha, hb⟩, ba, bb⟩
 rw [List.take_of_length_le (l := cs.drop _) (by rw [List.length_drop]; omega), List.take_append_drop]
theorem opens_struct3 {α β γ : Type} {R0 : FH → List Value → α → Prop} {B0 : α → Prop} {R1 : FH → List Value → β → Prop} {B1 : β → Prop} {R2 : FH → List Value → γ → Prop} {B2 : γ → Prop} {f0 f1 f2 : Field} (ht : P.underlying t = some (.struct #[f0, f1, f2]))
  (o0 : f0.offset = 0) (o1 : f1.offset = P.cellsOf f0.type) (o2 : f2.offset = P.cellsOf f0.type + P.cellsOf f1.type) (hc : P.cellsOf f0.type + P.cellsOf f1.type + P.cellsOf f2.type = P.cellsOf t)
  (h0 : Opens P f0.type R0 B0) (h1 : Opens P f1.type R1 B1) (h2 : Opens P f2.type R2 B2) : Opens P t (fun F cs (x : α × β × γ) => ∃ a b c, cs = a ++ (b ++ c) ∧ R0 F a x.1 ∧ R1 F b x.2.1 ∧ R2 F c x.2.2) (fun x => B0 x.1 ∧ B1 x.2.1 ∧ B2 x.2.2) := by
 intro H enc w base spare held fuel cs x h
 obtain ⟨xs, n, _, _, hl, hlen, hf⟩ := DataW.trod_struct ht h
 match xs, hlen with
 | [y0, y1, y2], _ =>
  have g0 := hf 0 f0 rfl
  have g1 := hf 1 f1 rfl
  have g2 := hf 2 f2 rfl
  rw [o0, List.drop_zero] at g0
  rw [o1] at g1
  rw [o2] at g2
  obtain ⟨a, ha, ba⟩ := h0 H enc w base spare held n _ _ g0
  obtain ⟨b, hb, bb⟩ := h1 H enc w base spare held n _ _ g1
  obtain ⟨c, hc', bc⟩ := h2 H enc w base spare held n _ _ g2
  refine ⟨(a, b, c), ⟨_, _, _, ?_, ha, hb, hc'⟩, ba, bb, bc⟩
  rw [List.take_of_length_le (l := cs.drop (P.cellsOf f0.type + P.cellsOf f1.type)) (by rw [List.length_drop]; omega), ← List.drop_drop, List.take_append_drop, List.take_append_drop]
theorem Opens.mono {α : Type} {R R' : FH → List Value → α → Prop} {B B' : α → Prop} (h : Opens P t R B) (hR : ∀ F cs a, R F cs a → R' F cs a) (hB : ∀ a, B a → B' a) : Opens P t R' B' := fun H enc w base spare held fuel cs x hx =>
 let ⟨a, h1, h2⟩ := h H enc w base spare held fuel cs x hx
 ⟨a, hR _ _ _ h1, hB _ h2⟩
abbrev M63 : Nat := 9223372036854775807
theorem opens_pairs {f0 f1 : Field} {q0 q1 : TypeId} (ht : P.underlying t = some (.slice e)) (he : P.underlying e = some (.struct #[f0, f1])) (ce : P.cellsOf e = 2) (o0 : f0.offset = 0) (o1 : f1.offset = 1)
  (c0 : P.cellsOf f0.type = 1) (c1 : P.cellsOf f1.type = 1) (u0 : P.underlying f0.type = some (.slice q0)) (u1 : P.underlying f1.type = some (.slice q1)) (w0 : P.underlying q0 = some (.int .i64)) (w1 : P.underlying q1 = some (.int .i64))
  (k0 : P.cellsOf q0 = 1) (k1 : P.cellsOf q1 = 1) :
  Opens P t (fun F cs (xs : List (List Int × List Int)) => ∃ v, cs = [v] ∧ PairsF F v xs) (fun xs => xs.length ≤ M63 ∧ ∀ i, i < xs.length → (xs.getD i ([], [])).1.length ≤ M63 ∧ (xs.getD i ([], [])).2.length ≤ M63) :=
 opens_slice ([], []) ht ce ((opens_struct2 he o0 (by rw [o1, c0]) (by rw [c0, c1, ce]) (opens_ints u0 w0 k0) (opens_ints u1 w1 k1)).mono
  (by rintro F cs x ⟨_, _, rfl, ⟨a, rfl, ha⟩, ⟨b, rfl, hb⟩⟩; exact ⟨a, b, rfl, ha, hb⟩) (fun _ h => h))
theorem opens_s1 {t0 : TypeId} {n : Nat} {α : Type} {R : FH → List Value → α → Prop} {B : α → Prop} {f0 : Field} (ht : P.underlying t = some (.struct #[f0])) (e0 : f0.type = t0) (o0 : f0.offset = 0) (c0 : P.cellsOf t0 = n) (ct : P.cellsOf t = n) (h0 : Opens P t0 R B) : Opens P t R B := by
 subst e0
 exact opens_struct1 ht o0 (c0.trans ct.symm) h0
theorem opens_s2 {t0 t1 : TypeId} {n0 n1 n : Nat} {α β : Type} {R0 : FH → List Value → α → Prop} {B0 : α → Prop} {R1 : FH → List Value → β → Prop} {B1 : β → Prop} {f0 f1 : Field} (ht : P.underlying t = some (.struct #[f0, f1]))
  (e0 : f0.type = t0) (e1 : f1.type = t1) (o0 : f0.offset = 0) (o1 : f1.offset = n0) (c0 : P.cellsOf t0 = n0) (c1 : P.cellsOf t1 = n1) (ct : P.cellsOf t = n) (hn : n0 + n1 = n) (h0 : Opens P t0 R0 B0) (h1 : Opens P t1 R1 B1) :
  Opens P t (fun F cs (x : α × β) => ∃ a b, cs = a ++ b ∧ R0 F a x.1 ∧ R1 F b x.2) (fun x => B0 x.1 ∧ B1 x.2) := by
 subst e0 e1
 exact opens_struct2 ht o0 (o1.trans c0.symm) (by rw [c0, c1, ct, hn]) h0 h1
theorem opens_ps {t0 t1 : TypeId} {f0 f1 : Field} {q0 q1 : TypeId} (ht : P.underlying t = some (.slice e)) (he : P.underlying e = some (.struct #[f0, f1])) (e0 : f0.type = t0) (e1 : f1.type = t1) (o0 : f0.offset = 0) (o1 : f1.offset = 1) (ce : P.cellsOf e = 2)
  (c0 : P.cellsOf t0 = 1) (c1 : P.cellsOf t1 = 1) (u0 : P.underlying t0 = some (.slice q0)) (u1 : P.underlying t1 = some (.slice q1)) (w0 : P.underlying q0 = some (.int .i64)) (w1 : P.underlying q1 = some (.int .i64)) (k0 : P.cellsOf q0 = 1) (k1 : P.cellsOf q1 = 1) :
  Opens P t (fun F cs (xs : List (List Int × List Int)) => ∃ v, cs = [v] ∧ PairsF F v xs) (fun xs => xs.length ≤ M63 ∧ ∀ i, i < xs.length → (xs.getD i ([], [])).1.length ≤ M63 ∧ (xs.getD i ([], [])).2.length ≤ M63) := by
 subst e0 e1
 exact opens_pairs ht he ce o0 o1 c0 c1 u0 u1 w0 w1 k0 k1
theorem Opens.slv {α : Type} {R : FH → List Value → α → Prop} {B : α → Prop} (h : Opens P t R B) (ht : P.underlying t = some (.slice e)) {H : Type} {enc : TypeId × Value → H} {w : World} {r : Reach} {base b0 : Nat} {spare : Nat → Bool} {held : Bool} {v : Value} {d : DataW H} {ps : List MemPlace}
  (hv : Value.okWide P w r b0 t v) (ht' : DataW.Trod enc P w base spare held t v d ps) : ∃ a, R (fhOf w) [v] a ∧ B a := by
 obtain ⟨a, l, c, rfl⟩ := okWide_slice ht hv
 obtain ⟨n, hn⟩ := ht'
 exact h H enc w base spare held n _ _ hn
theorem Opens.agg {α : Type} {R : FH → List Value → α → Prop} {B : α → Prop} (h : Opens P t R B) {fs : Array Field} (ht : P.underlying t = some (.struct fs)) {H : Type} {enc : TypeId × Value → H} {w : World} {r : Reach} {base b0 : Nat} {spare : Nat → Bool} {held : Bool} {v : Value} {d : DataW H} {ps : List MemPlace}
  (hv : Value.okWide P w r b0 t v) (ht' : DataW.Trod enc P w base spare held t v d ps) : ∃ cs : List Value, v = .agg cs.toArray ∧ ∃ a, R (fhOf w) cs a ∧ B a := by
 obtain ⟨cs, rfl, _⟩ := okWide_struct ht hv
 obtain ⟨n, hn⟩ := ht'
 exact ⟨cs.toList, by simp, h H enc w base spare held n _ _ hn⟩
theorem Opens.int {k : IntKind} (ht : P.underlying t = some (.int k)) {H : Type} {enc : TypeId × Value → H} {w : World} {r : Reach} {base b0 : Nat} {spare : Nat → Bool} {held : Bool} {v : Value} {d : DataW H} {ps : List MemPlace}
  (hv : Value.okWide P w r b0 t v) (ht' : DataW.Trod enc P w base spare held t v d ps) : ∃ n, v = .int k n ∧ (Lit.int k n).wf = true := by
 obtain ⟨n, rfl, _, _, hw⟩ := open_int ht hv ht'
 exact ⟨n, rfl, hw⟩
theorem trodAll_below {H : Type} {enc : TypeId × Value → H} (hl : laidOutB P = true) {W W' : World} (hb : Below W.heap.size W W') {sp : Nat → Bool} :
  ∀ {ts : List TypeId} {vs : List Value} {ds : List (DataW H)} {ps : List MemPlace}, (ts.all fun t => P.readableRec t && decide (t < P.types.size)) = true → DataW.TrodAll enc P W 0 (fun _ => true) true ts vs ds ps →
   (∀ x ∈ ps, x.block < W.heap.size) → (∀ p ∈ ps, sp p.block = true) → DataW.TrodAll enc P W' 0 sp true ts vs ds ps
 | [], [], [], _, _, h, _, _ => h
 | [], _ :: _, _, _, _, h, _, _ => by cases h
 | [], [], _ :: _, _, _, h, _, _ => by cases h
 | _ :: _, [], _, _, _, h, _, _ => by cases h
 | _ :: _, _ :: _, [], _, _, h, _, _ => by cases h
 | t :: ts, v :: vs, d :: ds, ps, hr, h, hlt, hsp => by
  obtain ⟨p, q, h1, h2, rfl⟩ := h
  simp only [List.all_cons, Bool.and_eq_true, decide_eq_true_eq] at hr
  exact ⟨p, q, Go.WideElems.Trod_stays hl hr.1.1 hr.1.2 h1 (fun x hx => hb.same (hlt x (List.mem_append_left _ hx))) (fun x hx => hsp x (List.mem_append_left _ hx)),
   trodAll_below hl hb hr.2 h2 (fun x hx => hlt x (List.mem_append_right _ hx)) (fun x hx => hsp x (List.mem_append_right _ hx)), rfl⟩
theorem post_of_law {H : Type} {enc : TypeId × Value → H} {f : Func} {s : ChangeSpec} {apart fresh handsOn : Bool} {W W' : World} {args : Array Value} {ds gs : List (DataW H)} {before : List MemPlace} {tb : TypeId}
  (hs : s.vars = []) (hfn : s.fn H (ds ++ gs) = { results := [.lit (.bool true)], args := ds }) (hl : laidOutB P = true) (hr : (f.params.toList.all fun t => P.readableRec t && decide (t < P.types.size)) = true)
  (hres : f.resultTypes = #[tb]) (htb : P.underlying tb = some .bool) (hW : DataW.Whole enc P f.params.toList s.vars apart W args.toList ds gs before) (hb : Below W.heap.size W W') : s.post enc P f apart fresh handsOn false W args (.bool true) W' := by
 have hlt := hW.lt
 have hW' := hW
 obtain ⟨p, q, hA, hV, rfl, _, _⟩ := hW
 rw [hs] at hV
 obtain ⟨rfl, rfl⟩ := trodVars_none hV
 refine ⟨ds, [], p ++ [], [], p, [], hW', ?_, ?_, ?_, ?_, fun h => by cases h⟩
 ·rw [hfn, hres]
  exact trodAll_cons_mk (shut_bool htb _) trodAll_mk0
 ·rw [hfn]
  exact trodAll_below hl hb hr hA (fun x hx => hlt x (by simpa using hx)) (fun x hx => by simpa using hlt x (by simpa using hx))
 ·rw [hfn, hs]; rfl
 ·exact World.keptBut_mono (fun x hx => ⟨hx, .inr (.inl (by simpa using hx))⟩) (hb.frame (· ∈ p ++ []))
theorem Does.atTop {f : FuncId} {args : List Value} {W : World} (h : Does P f args (fhOf W) [] fun v _ _ => v = .bool true) : Calls P f args.toArray W fun e W' => e = .returned (.bool true) ∧ Below W.heap.size W W' :=
 (h W (holds_fhOf W)).mono fun _ _ ⟨_, _, _, he, le, H, hv⟩ => ⟨by rw [he, hv], below_of_holds le H⟩
end Go.Proofs.Ytenomejgjcpbdaa.X
set_option linter.unusedSimpArgs false
set_option linter.unusedVariables false
namespace Go.Proofs.Ytenomejgjcpbdaa.X
open Go Go.WideShapes Go.ChangeShapes Go.RowKit
variable {P : Program} {t e : TypeId}
end Go.Proofs.Ytenomejgjcpbdaa.X
set_option linter.unusedSimpArgs false
set_option linter.unusedVariables false
namespace Go.Proofs.Ytenomejgjcpbdaa.X
open Go Go.ChangeShapes Go.WideShapes Go.ChangeAt
variable {P : Program} {t e : TypeId}
theorem opens_crs {t0 t1 t2 : TypeId} {f0 f1 f2 : Field} {q0 q1 : TypeId} (ht : P.underlying t = some (.slice e)) (he : P.underlying e = some (.struct #[f0, f1, f2])) (e0 : f0.type = t0) (e1 : f1.type = t1) (e2 : f2.type = t2) (o0 : f0.offset = 0) (o1 : f1.offset = 1) (o2 : f2.offset = 2) (ce : P.cellsOf e = 3)
  (c0 : P.cellsOf t0 = 1) (c1 : P.cellsOf t1 = 1) (c2 : P.cellsOf t2 = 1) (u0 : P.underlying t0 = some (.slice q0)) (u1 : P.underlying t1 = some (.slice q1)) (w0 : P.underlying q0 = some (.int .i64)) (w1 : P.underlying q1 = some (.int .i64)) (k0 : P.cellsOf q0 = 1) (k1 : P.cellsOf q1 = 1)
  (h2 : Opens P t2 (fun F cs (xs : List (List Int × List Int)) => ∃ v, cs = [v] ∧ PairsF F v xs) (fun xs => xs.length ≤ M63 ∧ ∀ i, i < xs.length → (xs.getD i ([], [])).1.length ≤ M63 ∧ (xs.getD i ([], [])).2.length ≤ M63)) :
  Opens P t (fun F cs (xs : List CRuleT) => ∃ v, cs = [v] ∧ CRulesF F v xs) (fun xs => xs.length ≤ M63 ∧ ∀ i, i < xs.length → (xs.getD i ([], [], [])).1.length ≤ M63 ∧ (xs.getD i ([], [], [])).2.1.length ≤ M63 ∧ (xs.getD i ([], [], [])).2.2.length ≤ M63 ∧ ∀ q, q < (xs.getD i ([], [], [])).2.2.length → ((xs.getD i ([], [], [])).2.2.getD q ([], [])).1.length ≤ M63 ∧ ((xs.getD i ([], [], [])).2.2.getD q ([], [])).2.length ≤ M63) := by
 subst e0 e1 e2
 exact opens_slice (R := CRuleF) (B := fun x : CRuleT => x.1.length ≤ M63 ∧ x.2.1.length ≤ M63 ∧ x.2.2.length ≤ M63 ∧ ∀ q, q < x.2.2.length → (x.2.2.getD q ([], [])).1.length ≤ M63 ∧ (x.2.2.getD q ([], [])).2.length ≤ M63) (([], [], []) : CRuleT) ht ce
  ((opens_struct3 he o0 (by rw [o1, c0]) (by rw [o2, c0, c1]) (by rw [c0, c1, c2, ce]) (opens_ints u0 w0 k0) (opens_ints u1 w1 k1) h2).mono
   (by rintro F cs x ⟨_, _, _, rfl, ⟨a, rfl, ha⟩, ⟨b, rfl, hb⟩, ⟨c, rfl, hc⟩⟩; exact ⟨a, b, c, rfl, ha, hb, hc⟩) (fun _ h => ⟨h.1, h.2.1, h.2.2.1, h.2.2.2⟩))
end Go.Proofs.Ytenomejgjcpbdaa.X
