/-
  What the walks rest on (part 2).
-/
import Derived.Orders
import Derived.Tactics
import Derived.Below
import Derived.Laws.CopyRow
import Derived.Laws.AppendOwn
import Derived.IntWalk
import Derived.Lib.AppendZeros
import Derived.OrdersIn
import Derived.TacticsIn
import Derived.RangeFuncSeq
import Derived.RangeFuncRecord
import Derived.RangeFuncLeaves
import Derived.Scope
import Derived.Laws.Append
import Derived.WalkKit
import Derived.ProofKit
import Derived.OpenShut
import Derived.JoinedCond
import Derived.Carry
import Derived.Deep.Slices
import Derived.Test.YtcdjpapjjoldeaaQSL0
set_option linter.unusedSimpArgs false
set_option linter.unusedVariables false
namespace Go.Proofs.Ytcdjpapjjoldeaa.X
open Go
abbrev FoundT := List Int × Int × StepT × Int
def FoundF (F : FH) (es : List Value) (x : FoundT) : Prop := ∃ a0 a4, es = [a0, .int .i64 x.2.1, .int .i64 x.2.2.1.1, .int .i64 x.2.2.1.2.1, a4, .int .i64 x.2.2.2] ∧ IntsF F a0 x.1 ∧ IntsF F a4 x.2.2.1.2.2
theorem FoundF.mono {F F' : FH} (le : F ≤ F') (es : List Value) (x : FoundT) (h : FoundF F es x) : FoundF F' es x := by
 obtain ⟨a0, a4, e, h0, h4⟩ := h
 exact ⟨a0, a4, e, h0.mono le, h4.mono le⟩
def FoundsF (F : FH) (v : Value) (xs : List FoundT) (cs : List Value) : Prop := ArrF F 6 v xs.length cs ∧ CO 6 FoundF ([], 0, (0, 0, []), 0) F cs xs
theorem FoundsF.mono {F F' : FH} {v : Value} {xs : List FoundT} {cs : List Value} (h : FoundsF F v xs cs) (le : F ≤ F') : FoundsF F' v xs cs := ⟨h.1.mono le, CO.mono (FoundF.mono le) h.2⟩
theorem FoundsF.slv {F : FH} {L : List HP} {v : Value} {xs : List FoundT} {cs : List Value} (h : FoundsF F v xs cs) : SlV F L v xs.length := SlV.arr h.1
theorem FoundsF.isSl {F : FH} {v : Value} {xs : List FoundT} {cs : List Value} (h : FoundsF F v xs cs) : IsSl v := h.1.isSl
theorem FoundsF.rd {F : FH} {v : Value} {xs : List FoundT} {cs : List Value} (h : FoundsF F v xs cs) {i : Nat} (hi : i < xs.length) : ∃ a0 a4, IntsF F a0 (xs.getD i ([], 0, (0, 0, []), 0)).1 ∧ IntsF F a4 (xs.getD i ([], 0, (0, 0, []), 0)).2.2.1.2.2 ∧ (∀ L j u, ([a0, .int .i64 (xs.getD i ([], 0, (0, 0, []), 0)).2.1, .int .i64 (xs.getD i ([], 0, (0, 0, []), 0)).2.2.1.1, .int .i64 (xs.getD i ([], 0, (0, 0, []), 0)).2.2.1.2.1, a4, .int .i64 (xs.getD i ([], 0, (0, 0, []), 0)).2.2.2] : List Value)[j]? = some u → Rd F L (elemA v (i * 6 + j)) u) ∧ (∀ j u, ([a0, .int .i64 (xs.getD i ([], 0, (0, 0, []), 0)).2.1, .int .i64 (xs.getD i ([], 0, (0, 0, []), 0)).2.2.1.1, .int .i64 (xs.getD i ([], 0, (0, 0, []), 0)).2.2.1.2.1, a4, .int .i64 (xs.getD i ([], 0, (0, 0, []), 0)).2.2.2] : List Value)[j]? = some u → cs[i * 6 + j]? = some u) := by
 obtain ⟨es, h1, h2, a0, a4, rfl, h0, h4⟩ := h.2.2 i hi
 refine ⟨a0, a4, h0, h4, fun L j u hu => ?_, fun j u hu => ?_⟩
 ·have := Rd.arrN (L := L) (k := i * 6) (vs := [a0, .int .i64 (xs.getD i ([], 0, (0, 0, []), 0)).2.1, .int .i64 (xs.getD i ([], 0, (0, 0, []), 0)).2.2.1.1, .int .i64 (xs.getD i ([], 0, (0, 0, []), 0)).2.2.1.2.1, a4, .int .i64 (xs.getD i ([], 0, (0, 0, []), 0)).2.2.2]) h.1 (by rw [h1]; exact h2) j u hu
  rwa [elemA_add] at this
 ·rw [← h2, List.getElem?_take] at hu
  split at hu
  ·rwa [List.getElem?_drop] at hu
  ·cases hu
def FoundsC (F : FH) (cs : List Value) (xs : List FoundT) : Prop := CO 6 FoundF ([], 0, (0, 0, []), 0) F cs xs
theorem FoundsC.mono {F F' : FH} {cs : List Value} {xs : List FoundT} (h : FoundsC F cs xs) (le : F ≤ F') : FoundsC F' cs xs := CO.mono (FoundF.mono le) h
theorem FoundsC.snoc {F : FH} {cs : List Value} {xs : List FoundT} {a0 a4 : Value} {y0 : List Int} {y1 : Int} {y2 : Int} {y3 : Int} {y4 : List Int} {y5 : Int} (h : FoundsC F cs xs) (h0 : IntsF F a0 y0) (h4 : IntsF F a4 y4) : FoundsC F (cs ++ [a0, .int .i64 y1, .int .i64 y2, .int .i64 y3, a4, .int .i64 y5]) (xs ++ [(y0, y1, (y2, y3, y4), y5)]) := CO.snoc h rfl ⟨a0, a4, rfl, h0, h4⟩
theorem FoundsC.get {F : FH} {cs : List Value} {xs : List FoundT} (h : FoundsC F cs xs) {i : Nat} (hi : i < xs.length) : ∃ a0 a4, IntsF F a0 (xs.getD i ([], 0, (0, 0, []), 0)).1 ∧ IntsF F a4 (xs.getD i ([], 0, (0, 0, []), 0)).2.2.1.2.2 ∧ (∀ j u, ([a0, .int .i64 (xs.getD i ([], 0, (0, 0, []), 0)).2.1, .int .i64 (xs.getD i ([], 0, (0, 0, []), 0)).2.2.1.1, .int .i64 (xs.getD i ([], 0, (0, 0, []), 0)).2.2.1.2.1, a4, .int .i64 (xs.getD i ([], 0, (0, 0, []), 0)).2.2.2] : List Value)[j]? = some u → cs[i * 6 + j]? = some u) := by
 obtain ⟨es, hl, ⟨a0, a4, rfl, h0, h4⟩, hr⟩ := CO.get h hi
 exact ⟨a0, a4, h0, h4, hr⟩
theorem FoundsC.fz {F : FH} {cs : List Value} {xs : List FoundT} {E : TypeId} {v : Value} {n : Nat} (h : FoundsC F cs xs) (hn : n = xs.length) (hf : Fz (slH E 6 v n cs) F) : FoundsF F v xs cs := by
 subst hn
 exact ⟨hf.sl, h⟩
abbrev MoveT := Int × Int × Bool × List Int
def MoveF (F : FH) (es : List Value) (x : MoveT) : Prop := ∃ a3, es = [.int .i64 x.1, .int .i64 x.2.1, .bool x.2.2.1, a3] ∧ IntsF F a3 x.2.2.2
theorem MoveF.mono {F F' : FH} (le : F ≤ F') (es : List Value) (x : MoveT) (h : MoveF F es x) : MoveF F' es x := by
 obtain ⟨a3, e, h3⟩ := h
 exact ⟨a3, e, h3.mono le⟩
def MovesF : FH → Value → List MoveT → Prop := SlOf 4 MoveF (0, 0, false, [])
theorem MovesF.mono {F F' : FH} {v : Value} {xs : List MoveT} (h : MovesF F v xs) (le : F ≤ F') : MovesF F' v xs := SlOf.mono (MoveF.mono le) h le
theorem MovesF.slv {F : FH} {L : List HP} {v : Value} {xs : List MoveT} (h : MovesF F v xs) : SlV F L v xs.length := SlOf.slv h
theorem MovesF.isSl {F : FH} {v : Value} {xs : List MoveT} (h : MovesF F v xs) : IsSl v := by obtain ⟨_, h, _⟩ := h; exact h.isSl
theorem MovesF.rd {F : FH} {v : Value} {xs : List MoveT} (h : MovesF F v xs) {i : Nat} (hi : i < xs.length) : ∃ a3, IntsF F a3 (xs.getD i (0, 0, false, [])).2.2.2 ∧ (∀ L j u, ([.int .i64 (xs.getD i (0, 0, false, [])).1, .int .i64 (xs.getD i (0, 0, false, [])).2.1, .bool (xs.getD i (0, 0, false, [])).2.2.1, a3] : List Value)[j]? = some u → Rd F L (elemA v (i * 4 + j)) u) ∧ True := by
 obtain ⟨es, hl, ⟨a3, rfl, h3⟩, hr⟩ := SlOf.get h hi
 exact ⟨a3, h3, hr, trivial⟩
def MovesC (F : FH) (cs : List Value) (xs : List MoveT) : Prop := CO 4 MoveF (0, 0, false, []) F cs xs
theorem MovesC.mono {F F' : FH} {cs : List Value} {xs : List MoveT} (h : MovesC F cs xs) (le : F ≤ F') : MovesC F' cs xs := CO.mono (MoveF.mono le) h
theorem MovesC.snoc {F : FH} {cs : List Value} {xs : List MoveT} {a3 : Value} {y0 : Int} {y1 : Int} {y2 : Bool} {y3 : List Int} (h : MovesC F cs xs) (h3 : IntsF F a3 y3) : MovesC F (cs ++ [.int .i64 y0, .int .i64 y1, .bool y2, a3]) (xs ++ [(y0, y1, y2, y3)]) := CO.snoc h rfl ⟨a3, rfl, h3⟩
theorem MovesC.get {F : FH} {cs : List Value} {xs : List MoveT} (h : MovesC F cs xs) {i : Nat} (hi : i < xs.length) : ∃ a3, IntsF F a3 (xs.getD i (0, 0, false, [])).2.2.2 ∧ (∀ j u, ([.int .i64 (xs.getD i (0, 0, false, [])).1, .int .i64 (xs.getD i (0, 0, false, [])).2.1, .bool (xs.getD i (0, 0, false, [])).2.2.1, a3] : List Value)[j]? = some u → cs[i * 4 + j]? = some u) := by
 obtain ⟨es, hl, ⟨a3, rfl, h3⟩, hr⟩ := CO.get h hi
 exact ⟨a3, h3, hr⟩
abbrev PolyT := Int × List Int
def PolyF (F : FH) (es : List Value) (x : PolyT) : Prop := ∃ a1, es = [.int .i64 x.1, a1] ∧ IntsF F a1 x.2
theorem PolyF.mono {F F' : FH} (le : F ≤ F') (es : List Value) (x : PolyT) (h : PolyF F es x) : PolyF F' es x := by
 obtain ⟨a1, e, h1⟩ := h
 exact ⟨a1, e, h1.mono le⟩
def PolysF : FH → Value → List PolyT → Prop := SlOf 2 PolyF (0, [])
theorem PolysF.mono {F F' : FH} {v : Value} {xs : List PolyT} (h : PolysF F v xs) (le : F ≤ F') : PolysF F' v xs := SlOf.mono (PolyF.mono le) h le
theorem PolysF.slv {F : FH} {L : List HP} {v : Value} {xs : List PolyT} (h : PolysF F v xs) : SlV F L v xs.length := SlOf.slv h
theorem PolysF.isSl {F : FH} {v : Value} {xs : List PolyT} (h : PolysF F v xs) : IsSl v := by obtain ⟨_, h, _⟩ := h; exact h.isSl
theorem PolysF.rd {F : FH} {v : Value} {xs : List PolyT} (h : PolysF F v xs) {i : Nat} (hi : i < xs.length) : ∃ a1, IntsF F a1 (xs.getD i (0, [])).2 ∧ (∀ L j u, ([.int .i64 (xs.getD i (0, [])).1, a1] : List Value)[j]? = some u → Rd F L (elemA v (i * 2 + j)) u) ∧ True := by
 obtain ⟨es, hl, ⟨a1, rfl, h1⟩, hr⟩ := SlOf.get h hi
 exact ⟨a1, h1, hr, trivial⟩
def PolysC (F : FH) (cs : List Value) (xs : List PolyT) : Prop := CO 2 PolyF (0, []) F cs xs
theorem PolysC.mono {F F' : FH} {cs : List Value} {xs : List PolyT} (h : PolysC F cs xs) (le : F ≤ F') : PolysC F' cs xs := CO.mono (PolyF.mono le) h
theorem PolysC.snoc {F : FH} {cs : List Value} {xs : List PolyT} {a1 : Value} {y0 : Int} {y1 : List Int} (h : PolysC F cs xs) (h1 : IntsF F a1 y1) : PolysC F (cs ++ [.int .i64 y0, a1]) (xs ++ [(y0, y1)]) := CO.snoc h rfl ⟨a1, rfl, h1⟩
theorem PolysC.get {F : FH} {cs : List Value} {xs : List PolyT} (h : PolysC F cs xs) {i : Nat} (hi : i < xs.length) : ∃ a1, IntsF F a1 (xs.getD i (0, [])).2 ∧ (∀ j u, ([.int .i64 (xs.getD i (0, [])).1, a1] : List Value)[j]? = some u → cs[i * 2 + j]? = some u) := by
 obtain ⟨es, hl, ⟨a1, rfl, h1⟩, hr⟩ := CO.get h hi
 exact ⟨a1, h1, hr⟩
abbrev LineT := Int × List (List Int) × List Int
def LineF (F : FH) (es : List Value) (x : LineT) : Prop := ∃ a1 a2, es = [.int .i64 x.1, a1, a2] ∧ RowsF F a1 x.2.1 ∧ IntsF F a2 x.2.2
theorem LineF.mono {F F' : FH} (le : F ≤ F') (es : List Value) (x : LineT) (h : LineF F es x) : LineF F' es x := by
 obtain ⟨a1, a2, e, h1, h2⟩ := h
 exact ⟨a1, a2, e, h1.mono le, h2.mono le⟩
def LinesF : FH → Value → List LineT → Prop := SlOf 3 LineF (0, [], [])
theorem LinesF.mono {F F' : FH} {v : Value} {xs : List LineT} (h : LinesF F v xs) (le : F ≤ F') : LinesF F' v xs := SlOf.mono (LineF.mono le) h le
theorem LinesF.slv {F : FH} {L : List HP} {v : Value} {xs : List LineT} (h : LinesF F v xs) : SlV F L v xs.length := SlOf.slv h
theorem LinesF.isSl {F : FH} {v : Value} {xs : List LineT} (h : LinesF F v xs) : IsSl v := by obtain ⟨_, h, _⟩ := h; exact h.isSl
theorem LinesF.rd {F : FH} {v : Value} {xs : List LineT} (h : LinesF F v xs) {i : Nat} (hi : i < xs.length) : ∃ a1 a2, RowsF F a1 (xs.getD i (0, [], [])).2.1 ∧ IntsF F a2 (xs.getD i (0, [], [])).2.2 ∧ (∀ L j u, ([.int .i64 (xs.getD i (0, [], [])).1, a1, a2] : List Value)[j]? = some u → Rd F L (elemA v (i * 3 + j)) u) ∧ True := by
 obtain ⟨es, hl, ⟨a1, a2, rfl, h1, h2⟩, hr⟩ := SlOf.get h hi
 exact ⟨a1, a2, h1, h2, hr, trivial⟩
def LinesC (F : FH) (cs : List Value) (xs : List LineT) : Prop := CO 3 LineF (0, [], []) F cs xs
theorem LinesC.mono {F F' : FH} {cs : List Value} {xs : List LineT} (h : LinesC F cs xs) (le : F ≤ F') : LinesC F' cs xs := CO.mono (LineF.mono le) h
theorem LinesC.snoc {F : FH} {cs : List Value} {xs : List LineT} {a1 a2 : Value} {y0 : Int} {y1 : List (List Int)} {y2 : List Int} (h : LinesC F cs xs) (h1 : RowsF F a1 y1) (h2 : IntsF F a2 y2) : LinesC F (cs ++ [.int .i64 y0, a1, a2]) (xs ++ [(y0, y1, y2)]) := CO.snoc h rfl ⟨a1, a2, rfl, h1, h2⟩
theorem LinesC.get {F : FH} {cs : List Value} {xs : List LineT} (h : LinesC F cs xs) {i : Nat} (hi : i < xs.length) : ∃ a1 a2, RowsF F a1 (xs.getD i (0, [], [])).2.1 ∧ IntsF F a2 (xs.getD i (0, [], [])).2.2 ∧ (∀ j u, ([.int .i64 (xs.getD i (0, [], [])).1, a1, a2] : List Value)[j]? = some u → cs[i * 3 + j]? = some u) := by
 obtain ⟨es, hl, ⟨a1, a2, rfl, h1, h2⟩, hr⟩ := CO.get h hi
 exact ⟨a1, a2, h1, h2, hr⟩
abbrev CRuleT := List Int × List Int × List (List Int × List Int)
def CRuleF (F : FH) (es : List Value) (x : CRuleT) : Prop := ∃ a0 a1 a2, es = [a0, a1, a2] ∧ IntsF F a0 x.1 ∧ IntsF F a1 x.2.1 ∧ PairsF F a2 x.2.2
theorem CRuleF.mono {F F' : FH} (le : F ≤ F') (es : List Value) (x : CRuleT) (h : CRuleF F es x) : CRuleF F' es x := by
 obtain ⟨a0, a1, a2, e, h0, h1, h2⟩ := h
 exact ⟨a0, a1, a2, e, h0.mono le, h1.mono le, h2.mono le⟩
def CRulesF : FH → Value → List CRuleT → Prop := SlOf 3 CRuleF ([], [], [])
theorem CRulesF.mono {F F' : FH} {v : Value} {xs : List CRuleT} (h : CRulesF F v xs) (le : F ≤ F') : CRulesF F' v xs := SlOf.mono (CRuleF.mono le) h le
theorem CRulesF.slv {F : FH} {L : List HP} {v : Value} {xs : List CRuleT} (h : CRulesF F v xs) : SlV F L v xs.length := SlOf.slv h
theorem CRulesF.isSl {F : FH} {v : Value} {xs : List CRuleT} (h : CRulesF F v xs) : IsSl v := by obtain ⟨_, h, _⟩ := h; exact h.isSl
theorem CRulesF.rd {F : FH} {v : Value} {xs : List CRuleT} (h : CRulesF F v xs) {i : Nat} (hi : i < xs.length) : ∃ a0 a1 a2, IntsF F a0 (xs.getD i ([], [], [])).1 ∧ IntsF F a1 (xs.getD i ([], [], [])).2.1 ∧ PairsF F a2 (xs.getD i ([], [], [])).2.2 ∧ (∀ L j u, ([a0, a1, a2] : List Value)[j]? = some u → Rd F L (elemA v (i * 3 + j)) u) ∧ True := by
 obtain ⟨es, hl, ⟨a0, a1, a2, rfl, h0, h1, h2⟩, hr⟩ := SlOf.get h hi
 exact ⟨a0, a1, a2, h0, h1, h2, hr, trivial⟩
def CRulesC (F : FH) (cs : List Value) (xs : List CRuleT) : Prop := CO 3 CRuleF ([], [], []) F cs xs
theorem CRulesC.mono {F F' : FH} {cs : List Value} {xs : List CRuleT} (h : CRulesC F cs xs) (le : F ≤ F') : CRulesC F' cs xs := CO.mono (CRuleF.mono le) h
theorem CRulesC.snoc {F : FH} {cs : List Value} {xs : List CRuleT} {a0 a1 a2 : Value} {y0 : List Int} {y1 : List Int} {y2 : List (List Int × List Int)} (h : CRulesC F cs xs) (h0 : IntsF F a0 y0) (h1 : IntsF F a1 y1) (h2 : PairsF F a2 y2) : CRulesC F (cs ++ [a0, a1, a2]) (xs ++ [(y0, y1, y2)]) := CO.snoc h rfl ⟨a0, a1, a2, rfl, h0, h1, h2⟩
theorem CRulesC.get {F : FH} {cs : List Value} {xs : List CRuleT} (h : CRulesC F cs xs) {i : Nat} (hi : i < xs.length) : ∃ a0 a1 a2, IntsF F a0 (xs.getD i ([], [], [])).1 ∧ IntsF F a1 (xs.getD i ([], [], [])).2.1 ∧ PairsF F a2 (xs.getD i ([], [], [])).2.2 ∧ (∀ j u, ([a0, a1, a2] : List Value)[j]? = some u → cs[i * 3 + j]? = some u) := by
 obtain ⟨es, hl, ⟨a0, a1, a2, rfl, h0, h1, h2⟩, hr⟩ := CO.get h hi
 exact ⟨a0, a1, a2, h0, h1, h2, hr⟩
def XStepsF (F : FH) (v : Value) (xs : List StepT) (cs : List Value) : Prop := ArrF F 3 v xs.length cs ∧ StepsC F cs xs
theorem XStepsF.mono {F F' : FH} {v : Value} {xs : List StepT} {cs : List Value} (h : XStepsF F v xs cs) (le : F ≤ F') : XStepsF F' v xs cs := ⟨h.1.mono le, h.2.mono le⟩
theorem XStepsF.slv {F : FH} {L : List HP} {v : Value} {xs : List StepT} {cs : List Value} (h : XStepsF F v xs cs) : SlV F L v xs.length := SlV.arr h.1
theorem XStepsF.isSl {F : FH} {v : Value} {xs : List StepT} {cs : List Value} (h : XStepsF F v xs cs) : IsSl v := h.1.isSl
theorem XStepsF.rd {F : FH} {v : Value} {xs : List StepT} {cs : List Value} (h : XStepsF F v xs cs) {i : Nat} (hi : i < xs.length) : ∃ c, IntsF F c (xs.getD i (0, 0, [])).2.2 ∧ (∀ L, Rd F L (elemA v (i * 3)) (.int .i64 (xs.getD i (0, 0, [])).1)) ∧ (∀ L, Rd F L (elemA v (i * 3 + 1)) (.int .i64 (xs.getD i (0, 0, [])).2.1)) ∧ (∀ L, Rd F L (elemA v (i * 3 + 2)) c) ∧ cs[i * 3 + 2]? = some c := by
 obtain ⟨es, h1, h2, c, rfl, hc⟩ := h.2.2 i hi
 have hq : ∀ j u, ([.int .i64 (xs.getD i (0, 0, [])).1, .int .i64 (xs.getD i (0, 0, [])).2.1, c] : List Value)[j]? = some u → cs[i * 3 + j]? = some u := by
  intro j u hu
  rw [← h2, List.getElem?_take] at hu
  split at hu
  ·rwa [List.getElem?_drop] at hu
  ·cases hu
 have hr : ∀ L j u, ([.int .i64 (xs.getD i (0, 0, [])).1, .int .i64 (xs.getD i (0, 0, [])).2.1, c] : List Value)[j]? = some u → Rd F L (elemA v (i * 3 + j)) u := by
  intro L j u hu
  have := Rd.arrN (L := L) (k := i * 3) (vs := [.int .i64 (xs.getD i (0, 0, [])).1, .int .i64 (xs.getD i (0, 0, [])).2.1, c]) h.1 (by rw [h1]; exact h2) j u hu
  rwa [elemA_add] at this
 exact ⟨c, hc, fun L => by simpa using hr L 0 _ rfl, fun L => hr L 1 _ rfl, fun L => hr L 2 _ rfl, hq 2 _ rfl⟩
section
variable {F F' : FH} {A B M : List HP} {h : HP}
theorem Fresh.less (k : Fresh F F' (star (A ++ h :: B))) : Fresh F F' (star (A ++ B)) := by
 obtain ⟨m, hm, nd, hp⟩ := k
 obtain ⟨a, c, b, ha, hc, hb, rfl⟩ := star_mid.1 hm
 refine ⟨a ++ b, star_append.2 ⟨a, b, ha, hb, rfl⟩, ?_, fun p h' => hp p ?_⟩
 ·refine List.Nodup.sublist ?_ nd
  exact (List.Sublist.append_left (List.sublist_append_right c b) a).map _
 ·rcases List.mem_append.1 h' with h' | h'
  ·exact List.mem_append_left _ h'
  ·exact List.mem_append_right _ (List.mem_append_right _ h')
end
def FrStepsF (F0 F : FH) (e : TypeId) (v : Value) (xs : List StepT) : Prop := ∃ acs Ls, XStepsF F v xs acs ∧ DeepL 3 (StepO e) acs xs Ls ∧ Fresh F0 F (star Ls)
theorem FrStepsF.mono {F0 F F' : FH} {e : TypeId} {v : Value} {xs : List StepT} (h : FrStepsF F0 F e v xs) (le : F ≤ F') : FrStepsF F0 F' e v xs := by
 obtain ⟨acs, Ls, h1, h2, h3⟩ := h
 exact ⟨acs, Ls, h1.mono le, h2, h3.mono le⟩
theorem FrStepsF.base {F0 F F1 : FH} {e : TypeId} {v : Value} {xs : List StepT} (h : FrStepsF F1 F e v xs) (le : F0 ≤ F1) : FrStepsF F0 F e v xs := by
 obtain ⟨acs, Ls, h1, h2, h3⟩ := h
 exact ⟨acs, Ls, h1, h2, h3.base le⟩
theorem FrStepsF.isSl {F0 F : FH} {e : TypeId} {v : Value} {xs : List StepT} (h : FrStepsF F0 F e v xs) : IsSl v := by
 obtain ⟨acs, Ls, h1, _, _⟩ := h
 exact h1.isSl
end Go.Proofs.Ytcdjpapjjoldeaa.X
namespace Go.Proofs.Ytcdjpapjjoldeaa.M
section
variable {ar : List Int} {rs : Rules} {a b t : List Int} {ts : RowL} {n : Int} {m k : Nat}
end
section
variable {α : Type} {q : α → Bool} {l : List α} {d : α} {k : Nat}
end
section
variable {ar : List Int} {rs es : Rules} {a b : List Int} {n : Int} {m k : Nat}
end
abbrev StepV := Int × Int × List Int
section
variable {ar t : List Int} {rs : Rules} {p r k : Nat} {u : List Int}
end
abbrev FoundV := List Int × Int × StepV × Int
def isIn (all : List FoundV) (t : List Int) : Bool := all.any fun x => decide (x.1 = t)
def start0 (t : List Int) : List FoundV := [(t, -1, (0, 0, []), 0)]
section
variable {ar t : List Int} {rs : Rules} {n d : Int} {k f : Nat} {all : List FoundV} {ss : List StepV}
abbrev EL (all : List FoundV) (k : Nat) : FoundV := all.getD k ([], 0, (0, 0, []), 0)
def AllOk (ar : List Int) (all : List FoundV) : Prop := ∀ i, i < all.length → termOk ar (EL all i).1 = true
theorem AllOk.snoc {x : FoundV} (h : AllOk ar all) (hx : termOk ar x.1 = true) : AllOk ar (all ++ [x]) := by
 intro i hi
 rw [List.length_append, List.length_singleton] at hi
 rcases Nat.lt_or_ge i all.length with h1 | h1
 ·have := h i h1; unfold EL at *; rwa [List.getD_eq_getElem?_getD, List.getElem?_append_left h1, ← List.getD_eq_getElem?_getD]
 ·obtain rfl : i = all.length := by omega
  unfold EL; simp [List.getD]; exact hx
theorem AllOk.start (h : termOk ar t = true) : AllOk ar (start0 t) := by
 intro i hi
 obtain rfl : i = 0 := by simp [start0] at hi; exact hi
 exact h
def DeepOk (n : Int) (all : List FoundV) : Prop := ∀ i, i < all.length → 0 ≤ (EL all i).2.2.2 ∧ (EL all i).2.2.2 ≤ n
theorem DeepOk.snoc {x : FoundV} (h : DeepOk n all) (hx : 0 ≤ x.2.2.2 ∧ x.2.2.2 ≤ n) : DeepOk n (all ++ [x]) := by
 intro i hi
 rw [List.length_append, List.length_singleton] at hi
 rcases Nat.lt_or_ge i all.length with h1 | h1
 ·have := h i h1; unfold EL at *; rwa [List.getD_eq_getElem?_getD, List.getElem?_append_left h1, ← List.getD_eq_getElem?_getD]
 ·obtain rfl : i = all.length := by omega
  unfold EL; simp [List.getD]; exact hx
theorem DeepOk.start (hn : 0 ≤ n) : DeepOk n (start0 t) := by
 intro i hi
 obtain rfl : i = 0 := by simp [start0] at hi; exact hi
 exact ⟨by simp [EL, start0], by simpa [EL, start0] using hn⟩
theorem isIn_some {i : Nat} {u : List Int} (hi : i < all.length) (h : (EL all i).1 = u) : isIn all u = true := by
 unfold isIn
 rw [List.any_eq_true]
 refine ⟨EL all i, ?_, by simpa using h⟩
 unfold EL; simp [List.getD, hi]
end
section
variable {all : List FoundV} {x : FoundV} {i : Nat}
theorem EL_snoc {k : Nat} (hk : k < all.length) : EL (all ++ [x]) k = EL all k := by unfold EL; rw [List.getD_eq_getElem?_getD, List.getElem?_append_left hk, ← List.getD_eq_getElem?_getD]
end
end Go.Proofs.Ytcdjpapjjoldeaa.M
namespace Go.Proofs.Ytcdjpapjjoldeaa.X
open Go
theorem yielded_undef {n : Nat} {a : Act} {ρ : Env} (r : Rep n a ρ) {ops : Array Oper} {g : Nat} {t : Tmp} (ht : (ops[g]?).bind (·.dst) = some t) (hv : ρ t = undef) : yielded ops a.tmps g = none := by
 unfold yielded
 rw [ht]
 have := r.get t
 rw [hv, Array.getD_eq_getD_getElem?] at this
 cases hx : a.tmps[t]? with
 | none => simp [hx]
 | some x => rw [hx] at this; simp at this; subst this; simp [hx, undef]
theorem XL.noU {P : Program} {n : Nat} {ops : Array Oper} {l : List Oper} {Q : QX} {ρ : Env} {F : FH} {L : List HP}
  {d : Option Tmp} {op : Op} {ty : TypeId} {pos : String} {af : Array Edge} {g : Nat} {b : Bool} {t : Tmp} (ht : (ops[g]?).bind (·.dst) = some t) (hv : ρ t = undef)
  (h : XL P n ops l Q (putE ρ d undef) F L) : XL P n ops (⟨d, op, ty, pos, af, some (g, b)⟩ :: l) Q ρ F L := by
 intro ok a w r H
 simp only [opsOk, List.all_cons, Bool.and_eq_true] at ok
 unfold wpList
 rw [if_neg (by simp [Region.wanted, yielded_undef r ht hv])]
 exact h ok.2 _ _ (r.put ok.1 undef) H
def FrIntsF (F0 F : FH) (e : TypeId) (v : Value) (xs : List Int) : Prop := Fresh F0 F (intsH e v xs)
theorem FrIntsF.mono {F0 F F' : FH} {e : TypeId} {v : Value} {xs : List Int} (h : FrIntsF F0 F e v xs) (le : F ≤ F') : FrIntsF F0 F' e v xs := Fresh.mono h le
theorem FrIntsF.base {F0 F F1 : FH} {e : TypeId} {v : Value} {xs : List Int} (h : FrIntsF F1 F e v xs) (le : F0 ≤ F1) : FrIntsF F0 F e v xs := Fresh.base h le
def WJ (F0 : FH) (e ES T : TypeId) (bw : Nat) (fv : Value) (sg : List StepT) (tl : List HP) (k : Nat) (Fy : FH) (Ly : List HP) : Prop :=
 ∃ (sv : Value) (ss : List StepT) (cs : List Value) (Ls : List HP) (m : Nat), IsSl sv ∧ StepsC Fy cs ss ∧ m = ss.length ∧ DeepL 3 (StepO e) cs ss Ls ∧ Fresh F0 Fy (star Ls) ∧ ss = (sg.drop k).reverse ∧ Ly = cellsH bw [fv, sv] T :: slH ES 3 sv m cs :: tl
theorem WJ.start {F0 F : FH} {e ES T : TypeId} {bw : Nat} {fv : Value} {sg : List StepT} {tl : List HP} {b : Option Addr} : WJ F0 e ES T bw fv sg tl sg.length F (cellsH bw [fv, .slice b 0 0] T :: slH ES 3 (.slice b 0 0) 0 [] :: tl) :=
 ⟨_, [], [], [], 0, ⟨_, _, _, rfl⟩, CO.nil, rfl, .nil, .nilL, by simp, rfl⟩
section
variable {F F' G F1 F2 : FH} {D D' : HP} {L M : List HP} {P : Program} {o : Oper} {ρ : Env} {K : Post} {e E : TypeId}
theorem Fresh.perm {A B : List HP} (h : Fresh F F' (star A)) (p : A.Perm B) : Fresh F F' (star B) := by
 obtain ⟨m, hm, nd, hp⟩ := h
 obtain ⟨l, hl, pl⟩ := star_perm p m hm
 exact ⟨l, hl, ((pl.map Prod.fst).nodup_iff).2 nd, fun q hq => hp q (pl.mem_iff.1 hq)⟩
theorem StepsC.get {F : FH} {cs : List Value} {xs : List StepT} (h : StepsC F cs xs) {i : Nat} (hi : i < xs.length) :
  ∃ a, IntsF F a (xs.getD i (0, 0, [])).2.2 ∧ cs[i * 3]? = some (.int .i64 (xs.getD i (0, 0, [])).1) ∧ cs[i * 3 + 1]? = some (.int .i64 (xs.getD i (0, 0, [])).2.1) ∧ cs[i * 3 + 2]? = some a := by
 obtain ⟨es, _, ⟨a, rfl, ha⟩, hg⟩ := CO.get h hi
 exact ⟨a, ha, by simpa using hg 0 _ rfl, hg 1 _ rfl, hg 2 _ rfl⟩
def FreshsF (F0 F : FH) (D : HP) : Prop := Fresh F0 F D
theorem FreshsF.mono {F0 F F' : FH} {D : HP} (h : FreshsF F0 F D) (le : F ≤ F') : FreshsF F0 F' D := Fresh.mono h le
theorem slH.isSl {s n : Nat} {v : Value} {cs : List Value} {l : OH} (h : slH E s v n cs l) : IsSl v := by
 rcases h.2 with ⟨b, rfl, _⟩ | ⟨b, c, sp, rfl, _⟩
 ·exact ⟨_, _, _, rfl⟩
 ·exact ⟨_, _, _, rfl⟩
end
section
variable {F F' G : FH} {e E : TypeId} {v : Value}
def MoveO (e : TypeId) (es : List Value) (x : MoveT) (K : List HP) : Prop := ∃ c, es = [.int .i64 x.1, .int .i64 x.2.1, .bool x.2.2.1, c] ∧ K = [intsH e c x.2.2.2]
abbrev movesD (e E : TypeId) (v : Value) (xs : List MoveT) : HP := deepH 4 (MoveO e) E v xs
theorem MoveO.fz (es : List Value) (x : MoveT) (K : List HP) (h : MoveO e es x K) (hz : ∃ l, star K l ∧ ∀ p ∈ l, F.cells p.1 = some p.2) : MoveF F es x := by
 obtain ⟨c, rfl, rfl⟩ := h
 exact ⟨c, rfl, intsH.fz (E := e) (frozen_star hz _ (by simp))⟩
theorem movesD.fz {xs : List MoveT} (h : Fz (movesD e E v xs) F) : MovesF F v xs := deepH.fz MoveO.fz h
end
def WJM (F0 : FH) (e ES T : TypeId) (bw : Nat) (fv : Value) (tk : Nat → List MoveT) (tl : List HP) (k : Nat) (Fy : FH) (Ly : List HP) : Prop :=
 ∃ (sv : Value) (ms : List MoveT) (cs : List Value) (Ls : List HP) (m : Nat), IsSl sv ∧ MovesC Fy cs ms ∧ m = ms.length ∧ DeepL 4 (MoveO e) cs ms Ls ∧ Fresh F0 Fy (star Ls) ∧ ms = tk k ∧ Ly = cellsH bw [fv, sv] T :: slH ES 4 sv m cs :: tl
theorem WJM.start {F0 F : FH} {e ES T : TypeId} {bw k : Nat} {fv : Value} {tk : Nat → List MoveT} {tl : List HP} {b : Option Addr} (h : tk k = []) : WJM F0 e ES T bw fv tk tl k F (cellsH bw [fv, .slice b 0 0] T :: slH ES 4 (.slice b 0 0) 0 [] :: tl) :=
 ⟨_, [], [], [], 0, ⟨_, _, _, rfl⟩, CO.nil, rfl, .nil, .nilL, h.symm, rfl⟩
section
variable {P : Program} {ρ : Env} {F : FH} {L : List HP} {K : Post} {d : Option Tmp} {ty : TypeId} {pos : String} {af : Array Edge} {g : Option (Nat × Bool)}
theorem XOp.remC {x y : Operand} {t u : TypeId} {k : IntKind} {a b : Int} (hx : evO ρ x = .int k a) (hy : evO ρ y = .int k b) (h0 : 0 ≤ a) (hb : b ≠ 0) (kk : K (.int k (a % b)) F L) : XOp P ⟨d, .binOp .rem t x y u, ty, pos, af, g⟩ ρ F L K :=
 XOp.value (fun w _ => by simp [execOp, hx, hy, eqGuard, binOp, Op.intDiv, hb, IntWalk.rem_in _ _ h0]) kk
end
theorem StepsC.ones {F : FH} {cs : List Value} {xs : List StepT} (h : StepsC F cs xs) : ∀ u ∈ cs, u.oneCell' = true := by
 intro u hu
 obtain ⟨q, hq, rfl⟩ := List.getElem_of_mem hu
 have hl := h.1
 obtain ⟨es, h1, ⟨c, rfl, hc⟩, hg⟩ := CO.get h (i := q / 3) (by omega)
 have hj : q % 3 < 3 := Nat.mod_lt _ (by decide)
 have e : q / 3 * 3 + q % 3 = q := by omega
 have hx : ∀ v, [Value.int .i64 (xs.getD (q / 3) (0, 0, [])).1, .int .i64 (xs.getD (q / 3) (0, 0, [])).2.1, c][q % 3]? = some v → cs[q] = v := fun v hv => by
  have := hg (q % 3) v hv
  rw [e, List.getElem?_eq_getElem hq] at this
  exact Option.some.inj this
 obtain ⟨b, n, k, rfl⟩ := IntsF.isSl hc
 match hm : q % 3, hj with
 | 0, _ => rw [hx _ (by rw [hm]; rfl)]; rfl
 | 1, _ => rw [hx _ (by rw [hm]; rfl)]; rfl
 | 2, _ => rw [hx _ (by rw [hm]; rfl)]; rfl
def WKJ (F0 : FH) (e ES T : TypeId) (bw : Nat) (fv : Value) (tl : List HP) (I : Nat → List StepT → Prop) (k : Nat) (Fy : FH) (Ly : List HP) : Prop :=
 ∃ (sv : Value) (ss : List StepT) (cs : List Value) (Ls : List HP) (m : Nat), IsSl sv ∧ StepsC Fy cs ss ∧ m = ss.length ∧ DeepL 3 (StepO e) cs ss Ls ∧ Fresh F0 Fy (star Ls) ∧ I k ss ∧ Ly = cellsH bw [fv, sv] T :: slH ES 3 sv m cs :: tl
theorem WKJ.start {F0 F : FH} {e ES T : TypeId} {bw : Nat} {fv : Value} {tl : List HP} {I : Nat → List StepT → Prop} {b : Option Addr} (h : I 0 []) : WKJ F0 e ES T bw fv tl I 0 F (cellsH bw [fv, .slice b 0 0] T :: slH ES 3 (.slice b 0 0) 0 [] :: tl) :=
 ⟨_, [], [], [], 0, ⟨_, _, _, rfl⟩, CO.nil, rfl, .nil, .nilL, h, rfl⟩
theorem WKJ.mono {F0 F F' : FH} {e ES T : TypeId} {bw k : Nat} {fv : Value} {tl L : List HP} {I : Nat → List StepT → Prop} (h : WKJ F0 e ES T bw fv tl I k F L) (le : F ≤ F') : WKJ F0 e ES T bw fv tl I k F' L :=
 let ⟨sv, ss, cs, Ls, m, h1, h2, h3, h4, h5, h6, h7⟩ := h
 ⟨sv, ss, cs, Ls, m, h1, h2.mono le, h3, h4, h5.mono le, h6, h7⟩
section
variable {P : Program} {fn : Func} {Q : Post} {ρ : Env} {F F0 : FH} {L : List HP}
theorem Does.at {f : FuncId} {args : List Value} {Q : Value → FH → Prop} {h : HP} (A : List HP) {B : List HP} (H : Does P f args F (h :: (A ++ B)) fun v F' L' => Q v F' ∧ h :: (A ++ B) = L') : Does P f args F (A ++ h :: B) fun v F' L' => Q v F' ∧ A ++ h :: B = L' := fun w Hw =>
 (H w (Sub.front.holds Hw)).mono fun _ _ ⟨v, F', L', he, le, H', hq, hl⟩ => ⟨v, F', _, he, le, Sub.back.holds (hl ▸ H'), hq, rfl⟩
end
section
variable {P : Program} {ρ : Env} {F : FH} {L : List HP} {K : Post} {d : Option Tmp} {ty : TypeId} {pos : String} {af : Array Edge} {g : Option (Nat × Bool)}
end
section
variable {P : Program} {ρ : Env} {F : FH} {L : List HP} {K : Post} {d : Option Tmp} {ty : TypeId} {pos : String} {af : Array Edge} {g : Option (Nat × Bool)}
theorem XOp.addW {x y : Operand} {t u : TypeId} {k : IntKind} {a b : Int} (hx : evO ρ x = .int k a) (hy : evO ρ y = .int k b) (kk : ∀ r, K (.int k r) F L) : XOp P ⟨d, .binOp .add t x y u, ty, pos, af, g⟩ ρ F L K :=
 XOp.value (v := .int k (k.wrap (a + b))) (fun w _ => by simp [execOp, hx, hy, eqGuard, binOp, Op.intArith]) (kk _)
theorem XOp.mulW {x y : Operand} {t u : TypeId} {k : IntKind} {a b : Int} (hx : evO ρ x = .int k a) (hy : evO ρ y = .int k b) (kk : ∀ r, K (.int k r) F L) : XOp P ⟨d, .binOp .mul t x y u, ty, pos, af, g⟩ ρ F L K :=
 XOp.value (v := .int k (k.wrap (a * b))) (fun w _ => by simp [execOp, hx, hy, eqGuard, binOp, Op.intArith]) (kk _)
theorem XOp.xorW {x y : Operand} {t u : TypeId} {k : IntKind} {a b : Int} (hx : evO ρ x = .int k a) (hy : evO ρ y = .int k b) (kk : ∀ r, K (.int k r) F L) : XOp P ⟨d, .binOp .xor t x y u, ty, pos, af, g⟩ ρ F L K :=
 XOp.value (v := .int k (k.wrap (BitVec.ofInt k.bits a ^^^ BitVec.ofInt k.bits b).toNat)) (fun w _ => by simp [execOp, hx, hy, eqGuard, binOp, Op.intBits]) (kk _)
theorem XOp.shrW {x y : Operand} {t u : TypeId} {k k' : IntKind} {a b : Int} (hx : evO ρ x = .int k a) (hy : evO ρ y = .int k' b) (hb : 0 ≤ b) (kk : ∀ r, K (.int k r) F L) : XOp P ⟨d, .binOp .shr t x y u, ty, pos, af, g⟩ ρ F L K :=
 XOp.value (v := .int k (a.fdiv (2 ^ min b.toNat k.bits))) (fun w _ => by simp [execOp, hx, hy, eqGuard, binOp, Op.shift, show ¬ b < 0 by omega]) (kk _)
theorem and_range {k : IntKind} (hk : k.bits = 64) {a b : Int} (hb : 0 ≤ b ∧ b < 4611686018427387904) : 0 ≤ k.wrap (BitVec.ofInt k.bits a &&& BitVec.ofInt k.bits b).toNat ∧ k.wrap (BitVec.ofInt k.bits a &&& BitVec.ofInt k.bits b).toNat ≤ b := by
 have h1 : ((BitVec.ofInt k.bits a &&& BitVec.ofInt k.bits b).toNat : Int) ≤ b := by
  rw [BitVec.toNat_and]
  have h2 : (BitVec.ofInt k.bits a).toNat &&& (BitVec.ofInt k.bits b).toNat ≤ (BitVec.ofInt k.bits b).toNat := Nat.and_le_right
  have h3 : ((BitVec.ofInt k.bits b).toNat : Int) = b := by
   rw [BitVec.toNat_ofInt, hk]
   have : b % ((2 ^ 64 : Nat) : Int) = b := Int.emod_eq_of_lt hb.1 (by omega)
   rw [this]; omega
  omega
 have h0 : (0 : Int) ≤ ((BitVec.ofInt k.bits a &&& BitVec.ofInt k.bits b).toNat : Int) := Int.natCast_nonneg _
 generalize ((BitVec.ofInt k.bits a &&& BitVec.ofInt k.bits b).toNat : Int) = r at h0 h1
 have e : k.wrap r = r := by
  cases k <;> first | exact IntWalk.i64_in _ ⟨by omega, by omega⟩ | exact IntWalk.u64_in _ ⟨by omega, by omega⟩ | (exfalso; revert hk; decide)
 rw [e]
 exact ⟨h0, h1⟩
theorem XOp.andW {x y : Operand} {t u : TypeId} {k : IntKind} {a b : Int} (hk : k.bits = 64) (hx : evO ρ x = .int k a) (hy : evO ρ y = .int k b) (hb : 0 ≤ b ∧ b < 4611686018427387904) (kk : ∀ r, 0 ≤ r ∧ r ≤ b → K (.int k r) F L) : XOp P ⟨d, .binOp .and t x y u, ty, pos, af, g⟩ ρ F L K :=
 XOp.value (v := .int k (k.wrap (BitVec.ofInt k.bits a &&& BitVec.ofInt k.bits b).toNat)) (fun w _ => by simp [execOp, hx, hy, eqGuard, binOp, Op.intBits]) (kk _ (and_range hk hb))
theorem XOp.remV {x y : Operand} {t u : TypeId} {k : IntKind} {a b : Int} (hx : evO ρ x = .int k a) (hy : evO ρ y = .int k b) (h0 : 0 ≤ a) (hb : 0 < b) (kk : ∀ r, 0 ≤ r ∧ r < b → K (.int k r) F L) : XOp P ⟨d, .binOp .rem t x y u, ty, pos, af, g⟩ ρ F L K :=
 XOp.remC hx hy h0 (by omega) (kk _ ⟨Int.emod_nonneg a (by omega), Int.emod_lt_of_pos a hb⟩)
end
def ByteE (F : FH) (es : List Value) (x : Int) : Prop := es = [.int .u8 x] ∧ 0 ≤ x ∧ x ≤ 255
theorem ByteE.mono {F F' : FH} (es : List Value) (x : Int) (h : ByteE F es x) : ByteE F' es x := h
def BytesF : FH → Value → List Int → Prop := SlOf 1 ByteE 0
theorem BytesF.mono {F F' : FH} {v : Value} {xs : List Int} (h : BytesF F v xs) (le : F ≤ F') : BytesF F' v xs := SlOf.mono ByteE.mono h le
theorem BytesF.slv {F : FH} {L : List HP} {v : Value} {xs : List Int} (h : BytesF F v xs) : SlV F L v xs.length := SlOf.slv h
theorem BytesF.isSl {F : FH} {v : Value} {xs : List Int} (h : BytesF F v xs) : IsSl v := by obtain ⟨_, h, _⟩ := h; exact h.isSl
theorem BytesF.rd {F : FH} {v : Value} {xs : List Int} (h : BytesF F v xs) {i : Nat} (hi : i < xs.length) : ∀ L, Rd F L (elemA v i) (.int .u8 (xs.getD i 0)) := by
 obtain ⟨es, hl, ⟨rfl, _⟩, hr⟩ := SlOf.get h hi
 intro L
 have := hr L 0 _ rfl
 simpa using this
theorem BytesF.range {F : FH} {v : Value} {xs : List Int} (h : BytesF F v xs) {i : Nat} (hi : i < xs.length) : 0 ≤ xs.getD i 0 ∧ xs.getD i 0 ≤ 255 := by
 obtain ⟨es, hl, ⟨rfl, h2⟩, hr⟩ := SlOf.get h hi
 exact h2
def curH (k : IntKind) (E : TypeId) (b : Nat) (bv : Value) (n : Nat) : HP := fun l => ∃ i h : Int, 0 ≤ i ∧ i ≤ n ∧ cellsH b [bv, .int .i64 i, .int k h] E l
theorem curH.of {k : IntKind} {E : TypeId} {b : Nat} {bv : Value} {n : Nat} {i h : Int} (h0 : 0 ≤ i) (h1 : i ≤ n) : ∀ l, cellsH b [bv, .int .i64 i, .int k h] E l → curH k E b bv n l := fun l hl => ⟨i, h, h0, h1, hl⟩
theorem Holds.uncur {k : IntKind} {E : TypeId} {b : Nat} {bv : Value} {n : Nat} {F : FH} {L : List HP} {w : World} (H : Holds F (curH k E b bv n :: L) w) : ∃ i h : Int, 0 ≤ i ∧ i ≤ n ∧ Holds F (cellsH b [bv, .int .i64 i, .int k h] E :: L) w := by
 obtain ⟨h1, h2, h3, h4, l, hl, nd, hp⟩ := H
 obtain ⟨a, c, ⟨i, h, q1, q2, hm⟩, hc, rfl⟩ := hl
 exact ⟨i, h, q1, q2, h1, h2, h3, h4, _, ⟨a, c, hm, hc, rfl⟩, nd, hp⟩
theorem Does.cur {P : Program} {f : FuncId} {args : List Value} {k : IntKind} {E : TypeId} {b : Nat} {bv : Value} {n : Nat} {F : FH} {L : List HP} {Q : Value → FH → Prop}
  (H : ∀ i h : Int, 0 ≤ i → i ≤ n → Does P f args F (cellsH b [bv, .int .i64 i, .int k h] E :: L) fun v F' L' => Q v F' ∧ ∃ i' h' : Int, 0 ≤ i' ∧ i' ≤ n ∧ cellsH b [bv, .int .i64 i', .int k h'] E :: L = L') :
  Does P f args F (curH k E b bv n :: L) fun v F' L' => Q v F' ∧ curH k E b bv n :: L = L' := by
 intro w Hw
 obtain ⟨i, h, q1, q2, Hw'⟩ := Hw.uncur
 refine (H i h q1 q2 w Hw').mono ?_
 rintro e w' ⟨v, F', L', he, le, H', hq, i', h', q3, q4, rfl⟩
 exact ⟨v, F', _, he, le, (Sub.keep (curH.of q3 q4) (Sub.refl _)).holds H', hq, rfl⟩
def intAt : Value → Int
 | .int _ n => n
 | _ => 0
def boolAt : Value → Bool
 | .bool b => b
 | _ => false
theorem Holds.ex {ι : Type} {h : HP} {k : ι → HP} {p : ι → Prop} {F : FH} {A B : List HP} {w : World} (e : ∀ l, h l → ∃ i, p i ∧ k i l) (H : Holds F (A ++ h :: B) w) : ∃ i, p i ∧ Holds F (A ++ k i :: B) w := by
 obtain ⟨h1, h2, h3, h4, l, hl, nd, hp⟩ := H
 obtain ⟨a, m, c, ha, hm, hc, rfl⟩ := star_mid.1 hl
 obtain ⟨i, hi, hk⟩ := e m hm
 exact ⟨i, hi, h1, h2, h3, h4, _, star_mid.2 ⟨a, m, c, ha, hk, hc, rfl⟩, nd, hp⟩
def drawnH (e : TypeId) (v : Value) (Q : List Int → Prop) : HP := fun l => ∃ t, Q t ∧ intsH e v t l
theorem drawnH.of {e : TypeId} {v : Value} {Q : List Int → Prop} {t : List Int} (h : Q t) : ∀ l, intsH e v t l → drawnH e v Q l := fun l hl => ⟨t, h, hl⟩
section
variable {P : Program} {n : Nat} {ops : Array Oper} {l : List Oper} {Q : QX} {ρ : Env} {F : FH} {L : List HP} {c : Code}
theorem XL.undraw {e : TypeId} {v : Value} {R : List Int → Prop} (A : List HP) {B : List HP} (hL : L = A ++ drawnH e v R :: B) (h : ∀ t, R t → XL P n ops l Q ρ F (A ++ intsH e v t :: B)) : XL P n ops l Q ρ F L := by
 subst hL
 intro ok a w r H
 obtain ⟨t, ht, H'⟩ := Holds.ex (fun _ h => h) H
 exact h t ht ok a w r H'
end
def SomesF (F : FH) (v : Value) (Q : List Int → Prop) : Prop := ∃ t, IntsF F v t ∧ Q t
theorem SomesF.mono {F F' : FH} {v : Value} {Q : List Int → Prop} (h : SomesF F v Q) (le : F ≤ F') : SomesF F' v Q := let ⟨t, h1, h2⟩ := h; ⟨t, h1.mono le, h2⟩
theorem SomesF.isSl {F : FH} {v : Value} {Q : List Int → Prop} (h : SomesF F v Q) : IsSl v := let ⟨_, h1, _⟩ := h; h1.isSl
def SomeRowsF (F : FH) (v : Value) (Q : List (List Int) → Prop) : Prop := ∃ t, RowsF F v t ∧ Q t
theorem SomeRowsF.mono {F F' : FH} {v : Value} {Q : List (List Int) → Prop} (h : SomeRowsF F v Q) (le : F ≤ F') : SomeRowsF F' v Q := let ⟨t, h1, h2⟩ := h; ⟨t, h1.mono le, h2⟩
theorem SomeRowsF.isSl {F : FH} {v : Value} {Q : List (List Int) → Prop} (h : SomeRowsF F v Q) : IsSl v := let ⟨_, h1, _⟩ := h; h1.isSl
theorem Does.atO {P : Program} {f : FuncId} {args : List Value} {F : FH} {ι : Type} {O : ι → HP} {Q : ι → Value → FH → Prop} {h : HP} (A : List HP) {B : List HP} (H : Does P f args F (h :: (A ++ B)) fun v F' L' => ∃ i, Q i v F' ∧ O i :: h :: (A ++ B) = L') :
  Does P f args F (A ++ h :: B) fun v F' L' => ∃ i, Q i v F' ∧ O i :: (A ++ h :: B) = L' := fun w Hw =>
 (H w (Sub.front.holds Hw)).mono fun _ _ ⟨v, F', L', he, le, H', i, hq, hl⟩ => ⟨v, F', _, he, le, (Sub.cons Sub.back).holds (hl ▸ H'), i, hq, rfl⟩
section
variable {P : Program} {ρ : Env} {F : FH} {L : List HP} {K : Post} {d : Option Tmp} {ty : TypeId} {pos : String} {af : Array Edge} {g : Option (Nat × Bool)}
end
end Go.Proofs.Ytcdjpapjjoldeaa.X
namespace Go.Proofs.Ytcdjpapjjoldeaa.M
section
variable {ar : List Int} {rs : Rules} {a b t : List Int} {ts : RowL} {n : Int} {k : Nat}
end
section
variable {ar t u : List Int} {n : Nat} {f : Int}
def goodN (ar t : List Int) (n : Nat) : Prop := (∀ x ∈ t, -24 ≤ x) ∧ ∀ r, endGo ar (t ++ r) n = some t.length
def goodT (ar t : List Int) : Prop := goodN ar t 1
theorem goodN.nil : goodN ar [] 0 := ⟨fun x hx => (List.not_mem_nil hx).elim, fun r => by cases r <;> rfl⟩
theorem goodN.snoc (h : goodN ar t n) (k : goodT ar u) : goodN ar (t ++ u) (n + 1) := by
 refine ⟨fun x hx => (List.mem_append.1 hx).elim (h.1 x) (k.1 x), fun r => ?_⟩
 have h1 := h.2 (u ++ r)
 have h2 : endGo ar ((t ++ (u ++ r)).drop t.length) 1 = some u.length := by rw [List.drop_left]; exact k.2 r
 rw [List.append_assoc, endGo_join h1 h2, List.length_append]
theorem goodT.one (hf : -24 ≤ f) (hl : f < ar.length) (ha : arity ar f = 0) : goodT ar [f] := by
 refine ⟨fun x hx => by obtain rfl := List.mem_singleton.1 hx; exact hf, fun r => ?_⟩
 show endGo ar (f :: r) (0 + 1) = some 1
 unfold endGo
 rw [if_pos hl, ha]
 cases r <;> rfl
theorem goodT.var (hf : -24 ≤ f) (h0 : f < 0) : goodT ar [f] := goodT.one hf (by omega) (by rw [arity, if_pos h0])
theorem goodT.node (h0 : 0 ≤ f) (hl : f < ar.length) (ha : arity ar f = (n : Int)) (h : goodN ar t n) : goodT ar (f :: t) := by
 refine ⟨fun x hx => (List.mem_cons.1 hx).elim (fun e => by omega) (h.1 x), fun r => ?_⟩
 show endGo ar (f :: (t ++ r)) (0 + 1) = some (t.length + 1)
 unfold endGo
 rw [if_pos hl, ha, show 0 + (n : Int).toNat = n from by omega, h.2 r]
 rfl
theorem goodT.ok (hs : sigOk ar = true) (hl : 1 ≤ t.length ∧ t.length ≤ 60) (h : goodT ar t) : termOk ar t = true := by
 have e := h.2 []
 rw [List.append_nil] at e
 exact termOk_iff.2 ⟨hs, hl.1, hl.2, h.1, e⟩
def szB : Nat → Nat
 | 0 => 1
 | d + 1 => 1 + 2 * szB d
def szT : Nat → Nat
 | 0 => 1
 | d + 1 => 1 + 3 * szT d
theorem szB_pos : ∀ d, 1 ≤ szB d
 | 0 => by simp [szB]
 | d + 1 => by simp only [szB]; omega
theorem szB_next {d : Nat} (h : 1 ≤ d) : szB d = 1 + 2 * szB (d - 1) := by
 obtain ⟨e, rfl⟩ : ∃ e, d = e + 1 := ⟨d - 1, by omega⟩
 rfl
theorem szB_le : ∀ {d e : Nat}, d ≤ e → szB d ≤ szB e
 | 0, e, _ => szB_pos e
 | d + 1, 0, h => by omega
 | d + 1, e + 1, h => by have := szB_le (d := d) (e := e) (by omega); simp only [szB]; omega
theorem szT_pos : ∀ d, 1 ≤ szT d
 | 0 => by simp [szT]
 | d + 1 => by simp only [szT]; omega
theorem szT_next {d : Nat} (h : 1 ≤ d) : szT d = 1 + 3 * szT (d - 1) := by
 obtain ⟨e, rfl⟩ : ∃ e, d = e + 1 := ⟨d - 1, by omega⟩
 rfl
theorem szT_le : ∀ {d e : Nat}, d ≤ e → szT d ≤ szT e
 | 0, e, _ => szT_pos e
 | d + 1, 0, h => by omega
 | d + 1, e + 1, h => by have := szT_le (d := d) (e := e) (by omega); simp only [szT]; omega
theorem sigOk_snoc {x : Int} (h : sigOk ar = true) (hl : ar.length ≤ 7) (hx : 0 ≤ x ∧ x ≤ 3) : sigOk (ar ++ [x]) = true := by
 have h1 := sigOk_spec h
 refine sigOk_of (by simp) (by simp; omega) (fun i hi => ?_)
 rcases Nat.lt_or_ge i ar.length with h' | h'
 ·have := h1.2.2 i h'
  simpa [List.getD, List.getElem?_append_left h'] using this
 ·have e : i = ar.length := by simp at hi; omega
  subst e
  simpa [List.getD] using hx
theorem rows_snoc {N : Nat} {os : List (List Int)} {x : List Int} (h : ∀ i, (os.getD i []).length ≤ N) (hx : x.length ≤ N) : ∀ i, ((os ++ [x]).getD i []).length ≤ N := fun i => by
 rcases Nat.lt_or_ge i os.length with h' | h'
 ·have := h i
  simpa [List.getD, List.getElem?_append_left h'] using this
 ·rcases Nat.eq_or_lt_of_le h' with e | e
  ·subst e; simpa [List.getD] using hx
  ·simp [List.getD, List.getElem?_eq_none (show (os ++ [x]).length ≤ i by simp; omega)]
theorem fill_le60 {s : RowL} {t : List Int} : ((fillL s t).getD []).length ≤ 60 := by
 cases h : fillL s t with
 | none => simp
 | some u => exact (fillL_len h).1
def smallR (rs : Rules) : Prop := ∀ i, i < rs.length → (rs.getD i ([], [])).1.length ≤ 2000 ∧ (rs.getD i ([], [])).2.length ≤ 2000
theorem smallR.nil : smallR [] := fun i hi => by simp at hi
theorem smallR.snoc {l r : List Int} {rs : Rules} (h : smallR rs) (hl : l.length ≤ 2000) (hr : r.length ≤ 2000) : smallR (rs ++ [(l, r)]) := fun i hi => by
 rcases Nat.lt_or_ge i rs.length with h' | h'
 ·have := h i h'
  simpa [List.getD, List.getElem?_append_left h'] using this
 ·have e : i = rs.length := by simp at hi; omega
  subst e
  simpa [List.getD] using And.intro hl hr
variable {rs : Rules} {a b : List Int} {ts : RowL} {m : Int} {i k : Nat}
end
section
variable {ar t : List Int} {rs : Rules} {p r : Int} {k : Nat}
end
section
variable {ar : List Int} {rs : Rules} {t f now : List Int} {ss acc : List StepL} {s : RowL} {k : Nat}
end
def Link (all : List FoundV) : Prop := (0 < all.length ∧ (EL all 0).2.1 = -1 ∧ (EL all 0).2.2.2 = 0) ∧ ∀ i, 0 < i → i < all.length → 0 ≤ (EL all i).2.1 ∧ (EL all i).2.1 < (i : Int) ∧ (EL all i).2.2.2 = (EL all (EL all i).2.1.toNat).2.2.2 + 1 ∧ (EL all i).2.2.1.2.2 = (EL all i).1
def Dist (all : List FoundV) : Prop := ∀ i j, i < j → j < all.length → (EL all i).1 ≠ (EL all j).1
section
variable {ar t : List Int} {rs : Rules} {n : Int} {all : List FoundV}
theorem EL_last {x : FoundV} : EL (all ++ [x]) all.length = x := by unfold EL; simp [List.getD]
theorem Link.start : Link (start0 t) := ⟨⟨by simp [start0], rfl, rfl⟩, fun i h0 hi => by simp [start0] at hi; omega⟩
theorem Link.snoc {k : Nat} {s : StepV} {d : Int} (h : Link all) (hk : k < all.length) (hd : d = (EL all k).2.2.2) : Link (all ++ [(s.2.2, (k : Int), s, d + 1)]) := by
 obtain ⟨⟨h0, h2, h3⟩, h4⟩ := h
 refine ⟨⟨by simp, by rw [EL_snoc h0]; exact h2, by rw [EL_snoc h0]; exact h3⟩, fun i hi hl => ?_⟩
 rw [List.length_append, List.length_singleton] at hl
 rcases Nat.lt_or_ge i all.length with h | h
 ·obtain ⟨a, b, c, d⟩ := h4 i hi h
  rw [EL_snoc h]
  exact ⟨a, b, by rw [EL_snoc (by omega)]; exact c, d⟩
 ·obtain rfl : i = all.length := by omega
  rw [EL_last]
  refine ⟨by dsimp only; omega, by dsimp only; omega, ?_, rfl⟩
  dsimp only
  rw [show ((k : Int)).toNat = k from by omega, EL_snoc hk, hd]
theorem Dist.snoc {x : FoundV} (h : Dist all) (hx : isIn all x.1 = false) : Dist (all ++ [x]) := by
 intro i j hij hj
 rw [List.length_append, List.length_singleton] at hj
 rcases Nat.lt_or_ge j all.length with h1 | h1
 ·rw [EL_snoc h1, EL_snoc (by omega)]; exact h i j hij h1
 ·obtain rfl : j = all.length := by omega
  rw [EL_last, EL_snoc hij]
  intro he
  rw [isIn_some hij he] at hx
  cases hx
end
def WalkB (f : List Int) (ss : List StepV) : Prop := f.length ≤ 60 ∧ ss.length ≤ 60 ∧ (∀ i, i < ss.length → (ss.getD i (0, 0, [])).2.2.length ≤ 60) ∧ (ss.flatMap flatStep).length ≤ 4000
theorem WalkB.nil : WalkB [] [] := ⟨by simp, by simp, fun i hi => by simp at hi, by simp⟩
theorem WalkB.mk {f : List Int} {ss : List StepV} (hf : f.length ≤ 60) (hs : ss.length ≤ 60) (h : ∀ s ∈ ss, s.2.2.length ≤ 60) : WalkB f ss := by
 have h0 : ∀ i, i < ss.length → (ss.getD i (0, 0, [])).2.2.length ≤ 60 := fun i hi => h _ (by simp [List.getD, hi])
 refine ⟨hf, hs, h0, ?_⟩
 have h1 := flatStep_len ss
 have h2 := gTo_bound h0 _ (Nat.le_refl _)
 have h4 : ss.length * 60 ≤ 60 * 60 := Nat.mul_le_mul_right 60 hs
 omega
section
variable {ar t u a b : List Int} {rs : Rules} {n : Int} {all : List FoundV} {k : Nat}
end
section
variable {ar f g : List Int} {rs : Rules} {xs ys : List StepV}
end
end Go.Proofs.Ytcdjpapjjoldeaa.M
namespace Go.Proofs.Ytcdjpapjjoldeaa.X
open Go
section
variable {P : Program} {ρ : Env} {F : FH} {L : List HP} {K : Post} {d : Option Tmp} {ty : TypeId} {pos : String} {af : Array Edge} {g : Option (Nat × Bool)}
end
end Go.Proofs.Ytcdjpapjjoldeaa.X
namespace Go.Proofs.Ytcdjpapjjoldeaa.M
section
variable {ar t u f : List Int} {rs : Rules} {ss : List StepL} {st n : Int}
end
section
variable {ar t f u v w g A R : List Int} {rs : Rules} {p q r : Nat} {ss xs : List StepL}
theorem endN_of {e : Nat} (h : endGo ar (t.drop p) 1 = some e) : endN ar t p = p + e := by simp [endN, endAt, h]
theorem stepAtL_iff {p r : Int} : stepAtL ar rs t p r = some u ↔ stepAtOk ar rs t p r = true ∧ stepL ar rs t p.toNat r.toNat = some u := by
 unfold stepAtL
 split
 ·rename_i h; exact ⟨fun e => ⟨h, e⟩, fun e => e.2⟩
 ·rename_i h; exact ⟨fun e => (by cases e), fun e => absurd e.1 h⟩
theorem stepAtOk_iff {p r : Int} : stepAtOk ar rs t p r = true ↔ (sysOk ar rs = true ∧ termOk ar t = true) ∧ (0 ≤ p ∧ p < (t.length : Int)) ∧ 0 ≤ r ∧ r < (rs.length : Int) := by
 simp only [stepAtOk, Bool.and_eq_true, decide_eq_true_eq, right_iff, and_assoc]
end
section
variable {ar t f u v w g : List Int} {rs : Rules} {p q r k n : Nat} {ss xs : List StepL} {s b b' : RowL}
abbrev FM (s : RowL) (t : List Int) : List Int := t.flatMap (lk s)
theorem getD_zero_drop {l : List Int} {i : Nat} : l.getD i 0 = (l.drop i).getD 0 0 := by simp [List.getD]
theorem fillGo_of : ∀ (t acc : List Int), (acc ++ FM s t).length ≤ 60 → fillGo s t acc = some (acc ++ FM s t)
 | [], acc, h => by simp [fillGo]
 | n :: t, acc, h => by
  have e : acc ++ FM s (n :: t) = (acc ++ lk s n) ++ FM s t := by simp [FM]
  rw [e] at h ⊢
  rw [fillGo, if_neg (by rw [List.length_append] at h; omega)]
  exact fillGo_of t _ h
theorem fillL_of (h : (FM s t).length ≤ 60) : fillL s t = some (FM s t) := fillGo_of t [] h
end
section
variable {ar t f : List Int} {rs : Rules} {ss xs : List StepL} {k : Nat}
end
section
variable {f : List Int} {ss : List StepL} {s : StepL} {k : Nat}
def smallT (ss : List StepL) : Prop := ∀ i, (ss.getD i (0, 0, [])).2.2.length ≤ 2000
theorem smallT.nil : smallT [] := fun i => by simp
theorem smallT.snoc (h : smallT ss) (hs : s.2.2.length ≤ 2000) : smallT (ss ++ [s]) := fun i => by
 rcases Nat.lt_trichotomy i ss.length with g | g | g
 ·rw [List.getD_eq_getElem?_getD, List.getElem?_append_left g, ← List.getD_eq_getElem?_getD]; exact h i
 ·subst g; simpa [List.getD_eq_getElem?_getD] using hs
 ·rw [List.getD_eq_getElem?_getD, List.getElem?_eq_none (by simp; omega)]; simp
theorem smallT.set (h : smallT ss) (hs : s.2.2.length ≤ 2000) (k : Nat) : smallT (ss.set k s) := fun i => by
 by_cases e : k = i
 ·subst e
  rcases Nat.lt_or_ge k ss.length with g | g
  ·simpa [List.getD_eq_getElem?_getD, g] using hs
  ·rw [List.set_eq_of_length_le g]; exact h k
 ·rw [List.getD_eq_getElem?_getD, List.getElem?_set_ne e, ← List.getD_eq_getElem?_getD]; exact h i
theorem smallT.take (h : smallT ss) (k : Nat) : smallT (ss.take k) := fun i => by
 rcases Nat.lt_or_ge i k with g | g
 ·rw [List.getD_eq_getElem?_getD, List.getElem?_take, if_pos g, ← List.getD_eq_getElem?_getD]; exact h i
 ·rw [List.getD_eq_getElem?_getD, List.getElem?_take, if_neg (by omega)]; simp
theorem smallT.drop (h : smallT ss) (k : Nat) : smallT (ss.drop k) := fun i => by
 rw [List.getD_eq_getElem?_getD, List.getElem?_drop, ← List.getD_eq_getElem?_getD]; exact h _
end
def argsGo (ar t : List Int) : Nat → Nat → List Int
 | 0, _ => []
 | n + 1, q => (q : Int) :: argsGo ar t n (endN ar t q)
def argsL (ar t : List Int) (p : Nat) : List Int := argsGo ar t (arity ar (t.getD p 0)).toNat (p + 1)
def Stand (ar t : List Int) (n q e : Nat) : Prop := endGo ar (t.drop q) n = some (e - q) ∧ q ≤ e ∧ e ≤ t.length
theorem stand_start {ar t : List Int} (h : termOk ar t = true) {p : Nat} (hp : p < t.length) : Stand ar t (arity ar (t.getD p 0)).toNat (p + 1) (endN ar t p) := by
 have he := endN_spec h hp
 obtain ⟨e, h1, h2, h3⟩ := endAt_some h hp
 have hN : endN ar t p = e := by simp [endN, h1]
 unfold endAt at h1
 rw [endGo_step (by omega) hp (termOk_lt h hp)] at h1
 rw [Nat.sub_self, Nat.zero_add] at h1
 refine ⟨?_, by omega, by omega⟩
 cases hg : endGo ar (t.drop (p + 1)) (arity ar (t.getD p 0)).toNat with
 | none => rw [hg] at h1; cases h1
 | some q => rw [hg] at h1; simp only [Option.map_some, Option.some.injEq] at h1; rw [Option.some.injEq]; omega
theorem stand_step {ar t : List Int} (h : termOk ar t = true) {n q e : Nat} (hs : Stand ar t (n + 1) q e) : q < t.length ∧ Stand ar t n (endN ar t q) e ∧ q < endN ar t q ∧ endN ar t q ≤ e := by
 obtain ⟨h1, h2, h3⟩ := hs
 have hpos := endGo_pos h1
 have hq : q < t.length := by omega
 have h1' := h1
 rw [Nat.add_comm] at h1
 obtain ⟨e1, e2, g1, g2, g3⟩ := endGo_split h1
 have hN : endN ar t q = q + e1 := by simp [endN, endAt, g1]
 have hE := endN_spec h hq
 rw [List.drop_drop] at g2
 refine ⟨hq, ⟨?_, by omega, h3⟩, by omega, by omega⟩
 rw [hN, g2]; congr 1; omega
theorem argsGo_len (ar t : List Int) : ∀ n q, (argsGo ar t n q).length = n
 | 0, _ => rfl
 | n + 1, q => by simp [argsGo, argsGo_len ar t n]
theorem argsGo_in {ar t : List Int} (h : termOk ar t = true) : ∀ {n q e : Nat}, Stand ar t n q e → ∀ k, k < n → (q : Int) ≤ (argsGo ar t n q).getD k 0 ∧ (argsGo ar t n q).getD k 0 < (e : Int)
 | 0, _, _, _, k, hk => absurd hk (by omega)
 | n + 1, q, e, hs, k, hk => by
  obtain ⟨h1, h2, h3, h4⟩ := stand_step h hs
  cases k with
  | zero => simp only [argsGo, List.getD_cons_zero]; omega
  | succ k =>
   have := argsGo_in h h2 k (by omega)
   simp only [argsGo, List.getD_cons_succ]; omega
theorem argsGo_cover {ar t : List Int} (h : termOk ar t = true) : ∀ {n q e : Nat}, Stand ar t n q e → ∀ x : Nat, q ≤ x → x < e → ∃ k, k < n ∧ (argsGo ar t n q).getD k 0 ≤ (x : Int) ∧ (x : Int) < (endN ar t ((argsGo ar t n q).getD k 0).toNat : Int)
 | 0, q, e, hs, x, hx, hxe => by
  have := hs.1; simp [endGo] at this; have := hs.2.1; omega
 | n + 1, q, e, hs, x, hx, hxe => by
  obtain ⟨h1, h2, h3, h4⟩ := stand_step h hs
  rcases Nat.lt_or_ge x (endN ar t q) with hlt | hge
  ·exact ⟨0, by omega, by simp only [argsGo, List.getD_cons_zero]; omega, by simp only [argsGo, List.getD_cons_zero, Int.toNat_natCast]; omega⟩
  ·obtain ⟨k, hk, ha, hb⟩ := argsGo_cover h h2 x hge hxe
   exact ⟨k + 1, by omega, by simp only [argsGo, List.getD_cons_succ]; exact ha, by simp only [argsGo, List.getD_cons_succ]; exact hb⟩
theorem argsL_len {ar t : List Int} {p : Nat} : (argsL ar t p).length = (arity ar (t.getD p 0)).toNat := argsGo_len ..
theorem argsL_le {ar t : List Int} (h : termOk ar t = true) {p : Nat} (hp : p < t.length) : (argsL ar t p).length ≤ 3 := by
 have := arity_le (termOk_sig h) (termOk_lt h hp)
 rw [argsL_len]; omega
theorem argsL_in {ar t : List Int} (h : termOk ar t = true) {p : Nat} (hp : p < t.length) {k : Nat} (hk : k < (argsL ar t p).length) : (p : Int) < (argsL ar t p).getD k 0 ∧ (argsL ar t p).getD k 0 < (endN ar t p : Int) ∧ (argsL ar t p).getD k 0 < (t.length : Int) := by
 rw [argsL_len] at hk
 have h1 := stand_start h hp
 have := argsGo_in h h1 k hk
 have := endN_spec h hp
 unfold argsL; omega
theorem args_next {ar t : List Int} (h : termOk ar t = true) {p n q : Nat} {os : List Int} (hn : 1 ≤ n) (he : argsL ar t p = os ++ argsGo ar t n q) : argsL ar t p = (os ++ [(q : Int)]) ++ argsGo ar t (n - 1) (endN ar t q) := by
 obtain ⟨m, rfl⟩ : ∃ m, n = m + 1 := ⟨n - 1, by omega⟩
 rw [he, argsGo, Nat.add_sub_cancel, List.append_assoc]; rfl
def inAt (ar t : List Int) (x : Nat) (q : Int) : Bool := decide (q ≤ (x : Int) ∧ (x : Int) < (endN ar t q.toNat : Int))
def nextK (ar t : List Int) (x p : Nat) : Nat := (argsL ar t p).findIdx (inAt ar t x)
def pathGo (ar t : List Int) (x : Nat) : Nat → Nat → List Int
 | 0, _ => []
 | f + 1, p => if p = x then [] else (nextK ar t x p : Int) :: pathGo ar t x f ((argsL ar t p).getD (nextK ar t x p) 0).toNat
def pathL (ar t : List Int) (x : Nat) : List Int := pathGo ar t x t.length 0
theorem args_some {ar t : List Int} (h : termOk ar t = true) {x p : Nat} (hp : p < x) (hx : x < endN ar t p) (hl : x < t.length) (hall : ∀ i, i < (argsL ar t p).length → inAt ar t x ((argsL ar t p).getD i 0) = false) : False := by
 have h1 := stand_start h (show p < t.length by omega)
 obtain ⟨k, hk, ha, hb⟩ := argsGo_cover h h1 x (by omega) hx
 have h2 := hall k (by rw [argsL_len]; exact hk)
 unfold inAt argsL at h2
 simp only [decide_eq_false_iff_not] at h2
 exact h2 ⟨ha, hb⟩
theorem endN_zero {ar t : List Int} (h : termOk ar t = true) : endN ar t 0 = t.length := by
 have hw := (termOk_iff.1 h).whole
 simp [endN, endAt, hw]
theorem inAt_iff {ar t : List Int} {x : Nat} {q : Int} : inAt ar t x q = true ↔ (q ≤ (x : Int) ∧ (x : Int) < (endN ar t q.toNat : Int)) := by unfold inAt; rw [decide_eq_true_eq]
def placeGo (ar t : List Int) : List Int → Nat → Int
 | [], p => p
 | i :: r, p => if 0 ≤ i ∧ i < ((argsL ar t p).length : Int) then placeGo ar t r ((argsL ar t p).getD i.toNat 0).toNat else -1
def placeL (ar t path : List Int) : Int := if termOk ar t = true then placeGo ar t path 0 else -1
def peakArgs (ar : List Int) (rs : Rules) (at' under over : Int) : Bool :=
 decide (0 ≤ over ∧ over < (rs.length : Int)) && decide (0 ≤ under ∧ under < (rs.length : Int)) && decide (¬ (at' = 0 ∧ over = under)) && decide (0 ≤ at' ∧ at' < ((rs.getD over.toNat ([], [])).1.length : Int)) && decide (0 ≤ (rs.getD over.toNat ([], [])).1.getD at'.toNat 0)
abbrev peakAtL (ar : List Int) (rs : Rules) (top : List Int) (at' over : Int) : Int := placeL ar top (pathL ar (rs.getD over.toNat ([], [])).1 at'.toNat)
def peakL (ar : List Int) (rs : Rules) (top left right : List Int) (at' under over : Int) : Bool :=
 sysOk ar rs && peakArgs ar rs at' under over && decide (stepAtL ar rs top 0 over = some right) && decide (stepAtL ar rs top (peakAtL ar rs top at' over) under = some left)
theorem peakArgs_iff {ar : List Int} {rs : Rules} {a u o : Int} : peakArgs ar rs a u o = true ↔ (0 ≤ o ∧ o < (rs.length : Int)) ∧ (0 ≤ u ∧ u < (rs.length : Int)) ∧ ¬ (a = 0 ∧ o = u) ∧ (0 ≤ a ∧ a < ((rs.getD o.toNat ([], [])).1.length : Int)) ∧ 0 ≤ (rs.getD o.toNat ([], [])).1.getD a.toNat 0 := by
 unfold peakArgs; simp only [Bool.and_eq_true, decide_eq_true_eq]; constructor
 ·rintro ⟨⟨⟨⟨h1, h2⟩, h3⟩, h4⟩, h5⟩; exact ⟨h1, h2, h3, h4, h5⟩
 ·rintro ⟨h1, h2, h3, h4, h5⟩; exact ⟨⟨⟨⟨h1, h2⟩, h3⟩, h4⟩, h5⟩
theorem peakL_iff {ar : List Int} {rs : Rules} {top left right : List Int} {a u o : Int} : peakL ar rs top left right a u o = true ↔ sysOk ar rs = true ∧ peakArgs ar rs a u o = true ∧ stepAtL ar rs top 0 o = some right ∧ stepAtL ar rs top (peakAtL ar rs top a o) u = some left := by
 unfold peakL; simp only [Bool.and_eq_true, decide_eq_true_eq]; constructor
 ·rintro ⟨⟨⟨h1, h2⟩, h3⟩, h4⟩; exact ⟨h1, h2, h3, h4⟩
 ·rintro ⟨h1, h2, h3, h4⟩; exact ⟨⟨⟨h1, h2⟩, h3⟩, h4⟩
end Go.Proofs.Ytcdjpapjjoldeaa.M
namespace Go.Proofs.Ytcdjpapjjoldeaa.X
open Go
abbrev PPost := List PanicEntry → FH → List HP → Prop
def DoesP (P : Program) (f : FuncId) (args : List Value) (F : FH) (L : List HP) (Q : Post) (K : PPost) : Prop :=
 ∀ w, Holds F L w → Calls P f args.toArray w fun e w' =>
  (∃ v F' L', e = .returned v ∧ F ≤ F' ∧ Holds F' L' w' ∧ Q v F' L') ∨ (∃ ch F' L', e = .panicked ch ∧ F ≤ F' ∧ Holds F' L' w' ∧ K ch F' L')
theorem DoesP.mono {P : Program} {f : FuncId} {args : List Value} {F : FH} {L : List HP} {Q Q' : Post} {K K' : PPost} (h : DoesP P f args F L Q K) (hq : ∀ v F' L', F ≤ F' → Q v F' L' → Q' v F' L') (hk : ∀ c F' L', F ≤ F' → K c F' L' → K' c F' L') : DoesP P f args F L Q' K' := fun w H =>
 (h w H).mono fun e w' he => by
  rcases he with ⟨v, F', L', a, b, c, d⟩ | ⟨v, F', L', a, b, c, d⟩
  ·exact .inl ⟨v, F', L', a, b, c, hq _ _ _ b d⟩
  ·exact .inr ⟨v, F', L', a, b, c, hk _ _ _ b d⟩
theorem DoesP.weaken {P : Program} {f : FuncId} {args : List Value} {F : FH} {L L' : List HP} {Q : Post} {K : PPost} (s : Sub L L') (h : DoesP P f args F L' Q K) : DoesP P f args F L Q K := fun w H => h w (s.holds H)
theorem XL.callP {P : Program} {n : Nat} {ops : Array Oper} {l : List Oper} {Q : QX} {ρ : Env} {F : FH} {L : List HP} {d : Option Tmp} {ty : TypeId} {pos : String} {af : Array Edge} {f : FuncId} {as : List Operand} {ts : Array TypeId} {Qr : Post} {K : PPost}
  (args : List Value) (hf : ∀ args w, (callFunc f args).run P w = .ok (.enter f args) w) (ha : as.map (evO ρ) = args) (h : DoesP P f args F L Qr K)
  (hp : ∀ ch F' L', F ≤ F' → K ch F' L' → Q (.panic ch) ρ F' L') (hk : ∀ v F' L', F ≤ F' → Qr v F' L' → XL P n ops l Q (putE ρ d v) F' L') :
  XL P n ops (⟨d, .call { callee := .value (.func f), args := as.toArray, argTypes := ts }, ty, pos, af, none⟩ :: l) Q ρ F L := by
 subst ha
 intro ok a w r H
 simp only [opsOk, List.all_cons, Bool.and_eq_true] at ok
 unfold wpList
 rw [if_pos (by simp [Region.wanted])]
 refine .inl ?_
 unfold Oper.wp
 rw [r.eval]
 have he : (execOp (evO ρ) ⟨d, .call { callee := .value (.func f), args := as.toArray, argTypes := ts }, ty, pos, af, none⟩).run P w = .ok (.enter f (as.map (evO ρ)).toArray) w := by
  simp [execOp, resolve, evO, Deferred.ofValue, invoke, hf]
 rw [he]
 refine (h w H).mono ?_
 rintro e w'' (⟨v, F', L', rfl, le, H', q⟩ | ⟨ch, F', L', rfl, le, H', q⟩)
 ·exact wpList_mono (fun _ _ _ q => low_le le q) _ _ _ (hk v F' L' le q ok.2 _ _ (r.put ok.1 v) H')
 ·exact ⟨ρ, F', L', r, le, H', hp ch F' L' le q⟩
theorem XL.panicI {P : Program} {n : Nat} {ops : Array Oper} {l : List Oper} {Q : QX} {ρ : Env} {F : FH} {L : List HP} {d : Option Tmp} {ty : TypeId} {pos : String} {af : Array Edge} {x : Operand} {T : TypeId} {u : Value}
  (hx : evO ρ x = .iface T u) (hp : Q (.panic [{ v := .iface T u, recovered := false }]) ρ F L) : XL P n ops (⟨d, .panic x, ty, pos, af, none⟩ :: l) Q ρ F L := by
 intro ok a w r H
 unfold wpList
 rw [if_pos (by simp [Region.wanted])]
 refine .inl ?_
 unfold Oper.wp
 rw [r.eval]
 have he : (execOp (evO ρ) ⟨d, .panic x, ty, pos, af, none⟩).run P w = .halt (.panic (.iface T u)) w := by
  simp [execOp, hx, Instr.panic, goPanic]
 rw [he]
 exact ⟨ρ, F, L, r, FLe.refl F, H, hp⟩
theorem XOp.iface {P : Program} {ρ : Env} {F : FH} {L : List HP} {K : Post} {d : Option Tmp} {ty : TypeId} {pos : String} {af : Array Edge} {g : Option (Nat × Bool)} {T : TypeId} {x : Operand} {v : Value} {fs : Array Field}
  (hu : ∀ w, (underlying T).run P w = .ok (.struct fs) w) (hx : evO ρ x = v) (k : K (.iface T v) F L) : XOp P ⟨d, .makeInterface T x, ty, pos, af, g⟩ ρ F L K :=
 XOp.value (fun w H => by simp [execOp, hx, Instr.makeInterface, hu]) k
theorem XOp.assertOk {P : Program} {ρ : Env} {F : FH} {L : List HP} {K : Post} {d : Option Tmp} {ty : TypeId} {pos : String} {af : Array Edge} {g : Option (Nat × Bool)} {S T : TypeId} {x : Operand} {v : Value} {fs : Array Field}
  (hu : ∀ w, (underlying T).run P w = .ok (.struct fs) w) (hx : evO ρ x = .iface T v) (k : K (.tuple #[v, .bool true]) F L) : XOp P ⟨d, .typeAssert x S T true, ty, pos, af, g⟩ ρ F L K :=
 XOp.value (fun w H => by simp [execOp, hx, Instr.typeAssert, hu]) k
def retQP (P : Program) (fn : Func) (F0 : FH) (Q : Post) (K : PPost) : QX := fun e ρ F L => retQ P fn F0 Q e ρ F L ∨ ∃ ch, e = .panic ch ∧ K ch F L
theorem DoesP.of_X {P : Program} {f : FuncId} {fn : Func} {c : Code} {args : List Value} {F : FH} {L : List HP} {Q : Post} {K : PPost}
  (hf : P.funcs[f]? = some fn) (hb : fn.body = some c) (hd : cOk fn.ntmps c = true) (hn : Nat.ble args.length fn.ntmps = true)
  (h : X P fn.ntmps c (retQP P fn F Q K) (env0 args) F L) : DoesP P f args F L Q K := by
 intro w H
 refine calls_of_wp hf hb (Code.wp_mono ?_ (h hd _ w ⟨?_, rfl, fun i => ?_⟩ H))
 ·rintro e a' w' ⟨ρ', F', L', r', le, H', (⟨he, vs, L'', F2, hv, l1, l2, hsub, q⟩ | ⟨ch, rfl, k⟩)⟩
  ·have hr := results_run (P := P) (w := w') r' H' hv
   rcases he with rfl | rfl
   ·exact ⟨r'.defers, _, hr, .inl ⟨_, F2, L'', rfl, l1, hsub.holds (H'.forget l2), q⟩⟩
   ·exact ⟨r'.defers, _, hr, .inl ⟨_, F2, L'', rfl, l1, hsub.holds (H'.forget l2), q⟩⟩
  ·exact ⟨r'.defers, .inr ⟨ch, F', L', rfl, le, H', k⟩⟩
 ·have := Nat.le_of_ble_eq_true hn
  simp
  omega
 ·simp only [env0, Array.getD_eq_getD_getElem?, List.getD_eq_getElem?_getD, Array.getElem?_append, List.size_toArray, List.getElem?_toArray, Array.getElem?_replicate]
  split
  ·rfl
  ·rename_i hi
   rw [List.getElem?_eq_none (Nat.le_of_not_lt hi)]
   split <;> rfl
theorem retEndP {P : Program} {fn : Func} {F0 F2 : FH} {Q : Post} {K : PPost} {ρ : Env} {F : FH} {L L' : List HP} (vs : List Value) (v : Value) (hr : ResAll P F L ρ fn.results.toList vs) (hv : oneOr vs = v) (l1 : F0 ≤ F2) (l2 : F2 ≤ F) (s : Sub L L') (h : Q v F2 L') : retQP P fn F0 Q K .ret ρ F L := .inl (retEnd vs v hr hv l1 l2 s h)
theorem retEndNP {P : Program} {fn : Func} {F0 F2 : FH} {Q : Post} {K : PPost} {ρ : Env} {F : FH} {L L' : List HP} (vs : List Value) (v : Value) (hr : ResAll P F L ρ fn.results.toList vs) (hv : oneOr vs = v) (l1 : F0 ≤ F2) (l2 : F2 ≤ F) (s : Sub L L') (h : Q v F2 L') : retQP P fn F0 Q K .normal ρ F L := .inl (retEndN vs v hr hv l1 l2 s h)
theorem wp_of_X {P : Program} {n : Nat} {c : Code} {Q : QX} {a : Act} {w : World} {F : FH} {L : List HP} (l : List (Nat × Value)) (hsz : a.tmps.size = n) (hd : a.defers = []) (hs : sat (fun i => a.tmps.getD i undef) l) (hok : cOk n c = true) (h : ∀ rE, X P n c Q (envs l rE) F L) (H : Holds F L w) :
  c.wp P (low n F Q) a w := by
 have := h (fun i => a.tmps.getD i undef)
 rw [envs_of_sat hs] at this
 exact this hok a w ⟨hsz, hd, fun i => rfl⟩ H
theorem wpList_one {P : Program} {ops : Array Oper} {Q : Exit → Act → World → Prop} {o : Oper} {l : List Oper} {a : Act} {w : World} (hg : o.guard = none) (h : o.wp P a w (wpList P ops Q l) Q) : wpList P ops Q (o :: l) a w := by
 unfold wpList
 rw [if_pos (by simp [Region.wanted, hg])]
 exact .inl h
theorem eval_raw (a : Act) : a.eval = evO (fun i => a.tmps.getD i undef) := by
 funext x
 cases x <;> rfl
theorem wp_XOp_raw {P : Program} {o : Oper} {a : Act} {w : World} {F : FH} {L : List HP} {K : Post} {N : Act → World → Prop} {Q : Exit → Act → World → Prop} (h : XOp P o (fun i => a.tmps.getD i undef) F L K) (H : Holds F L w)
  (hN : ∀ v F' L' w', F ≤ F' → Holds F' L' w' → K v F' L' → N (a.put o.dst v) w') : o.wp P a w N Q := by
 unfold Oper.wp
 rw [eval_raw]
 rcases h w H with ⟨v, w', F', L', h1, h2, h3, h4⟩ | ⟨w', F', L', h1, h2, h3, h4⟩ | ⟨f, args, w', h1, h2⟩
 ·rw [h1]; exact hN v F' L' w' h2 h3 h4
 ·rw [h1]; exact hN undef F' L' w' h2 h3 h4
 ·rw [h1]
  refine h2.mono fun e w'' ⟨v, F', L', he, hle, hH, hk⟩ => ?_
  subst he
  exact hN v F' L' w'' hle hH hk
theorem get_1 {bs : List Value} {s a : Value} {i : Nat} (h : bs[i]? = some a) : (s :: bs)[1 + i]? = some a := by rw [Nat.add_comm]; simpa using h
theorem set_1 {bs : List Value} {s a : Value} {i : Nat} : (s :: bs).set (1 + i) a = s :: bs.set i a := by rw [Nat.add_comm]; rfl
theorem blt_1 {bs : List Value} {s : Value} {i : Nat} (h : i < bs.length) : Nat.blt (1 + i) (s :: bs).length = true := by
 simp only [Nat.blt, List.length_cons]; exact Nat.ble_eq_true_of_le (by omega)
theorem ne_of_notNil {a : Value} {x : List Int} (hn : isNil a = decide (x = [])) (h : (!isNil a) = true) : x ≠ [] := fun e => by rw [hn, decide_eq_true e] at h; cases h
theorem eq_of_isNil {a : Value} {x : List Int} (hn : isNil a = decide (x = [])) (h : (!isNil a) = false) : x = [] := by
 rw [hn] at h
 exact of_decide_eq_true (by simpa using h)
abbrev bools (ss : List Bool) : List Value := ss.map Value.bool
theorem bools_get {ss : List Bool} {i : Nat} (h : i < ss.length) : (bools ss)[i]? = some (.bool (ss.getD i false)) := by simp [bools, List.getD, h]
theorem bools_set {ss : List Bool} {i : Nat} {b : Bool} : (bools ss).set i (.bool b) = bools (ss.set i b) := by simp [bools, List.map_set]
theorem bools_blt {ss : List Bool} {i : Nat} (h : i < ss.length) : Nat.blt i (bools ss).length = true := by
 simp only [Nat.blt, bools, List.length_map]; exact Nat.ble_eq_true_of_le (by omega)
end Go.Proofs.Ytcdjpapjjoldeaa.X
namespace Go.Proofs.Ytcdjpapjjoldeaa.M
def nm (t : List Int) : List Int := t.map fun x => if x < 0 then -1 else x
section
variable {ar t : List Int} {p n q e : Nat}
theorem nm_len : (nm t).length = t.length := by simp [nm]
theorem nm_drop : (nm t).drop p = nm (t.drop p) := by simp [nm, List.map_drop]
theorem nm_take : (nm t).take p = nm (t.take p) := by simp [nm, List.map_take]
theorem nm_get (hp : p < t.length) : (nm t).getD p 0 = if t.getD p 0 < 0 then -1 else t.getD p 0 := by simp [nm, List.getD, hp]
theorem arity_nm {x : Int} : arity ar (if x < 0 then -1 else x) = arity ar x := by
 by_cases hx : x < 0
 ·rw [if_pos hx]; unfold arity; rw [if_pos (by omega), if_pos hx]
 ·rw [if_neg hx]
theorem endGo_nm : ∀ (r : List Int) (n : Nat), endGo ar (nm r) n = endGo ar r n
 | r, 0 => by simp [endGo]
 | [], n + 1 => rfl
 | x :: r, n + 1 => by
  show endGo ar ((if x < 0 then -1 else x) :: nm r) (n + 1) = _
  simp only [endGo, arity_nm, endGo_nm r]
  by_cases hx : x < 0
  ·rw [if_pos hx, if_pos (by omega), if_pos (by omega)]
  ·rw [if_neg hx]
theorem endAt_nm : endAt ar (nm t) p = endAt ar t p := by unfold endAt; rw [nm_drop, endGo_nm]
theorem endN_nm : endN ar (nm t) p = endN ar t p := by unfold endN; rw [endAt_nm]
theorem endZ_nm : endZ ar (nm t) p = endZ ar t p := by unfold endZ; rw [endAt_nm]
theorem sub_nm : sub ar (nm t) p = nm (sub ar t p) := by unfold sub; rw [nm_drop, endN_nm, nm_take]
structure TermW (ar t : List Int) : Prop where
 sig : sigOk ar = true
 len : 1 ≤ t.length ∧ t.length ≤ 60
 whole : endGo ar t 1 = some t.length
 ge : ∀ x ∈ t, -48 ≤ x
theorem TermW.nm (h : TermW ar t) : termOk ar (nm t) = true := termOk_iff.2 (by
 have := h.len
 refine ⟨h.sig, by rw [nm_len]; omega, by rw [nm_len]; omega, ?_, by rw [endGo_nm, nm_len]; exact h.whole⟩
 intro x hx
 obtain ⟨y, _, rfl⟩ := List.mem_map.1 hx
 split <;> omega)
theorem termW_of (h : termOk ar t = true) : TermW ar t := by
 have h1 := termOk_iff.1 h
 exact ⟨h1.sig, ⟨h1.pos, h1.len⟩, h1.whole, fun x hx => by have := h1.ge x hx; omega⟩
theorem TermW.endN (h : TermW ar t) (hp : p < t.length) : p < endN ar t p ∧ M.endN ar t p ≤ t.length := by
 have := endN_spec h.nm (p := p) (by rw [nm_len]; exact hp)
 rwa [endN_nm, nm_len] at this
theorem TermW.endZ (h : TermW ar t) (hp : p < t.length) : endZ ar t p = (M.endN ar t p : Int) := by
 have := endZ_endN h.nm (p := p) (by rw [nm_len]; exact hp)
 rwa [endN_nm, endZ_nm] at this
theorem TermW.lt (h : TermW ar t) (hp : p < t.length) : t.getD p 0 < ar.length := by
 have := termOk_lt h.nm (p := p) (by rw [nm_len]; exact hp)
 rw [nm_get hp] at this
 split at this <;> omega
theorem TermW.geD (h : TermW ar t) (hp : p < t.length) : -48 ≤ t.getD p 0 := getD_all h.ge hp
theorem mem_sub {x : Int} (h : x ∈ sub ar t p) : x ∈ t := List.mem_of_mem_drop (List.mem_of_mem_take h)
theorem TermW.sub (h : TermW ar t) (hp : p < t.length) : TermW ar (sub ar t p) := by
 have := termOk_iff.1 (sub_ok h.nm (p := p) (by rw [nm_len]; exact hp))
 rw [sub_nm] at this
 have h1 := this.pos
 have h2 := this.len
 have h3 := this.whole
 rw [nm_len] at h1 h2 h3
 rw [endGo_nm] at h3
 exact ⟨h.sig, ⟨h1, h2⟩, h3, fun x hx => h.ge x (mem_sub hx)⟩
theorem Stand_nm : Stand ar (nm t) n q e ↔ Stand ar t n q e := by unfold Stand; rw [nm_drop, endGo_nm, nm_len]
theorem arityD_nm : arity ar ((nm t).getD p 0) = arity ar (t.getD p 0) := by
 by_cases hp : p < t.length
 ·rw [nm_get hp, arity_nm]
 ·simp [List.getD, nm, List.getElem?_eq_none (Nat.le_of_not_lt hp)]
theorem argsGo_nm : ∀ n q, argsGo ar (nm t) n q = argsGo ar t n q
 | 0, _ => rfl
 | n + 1, q => by rw [argsGo, argsGo, endN_nm, argsGo_nm]
theorem argsL_nm : argsL ar (nm t) p = argsL ar t p := by unfold argsL; rw [arityD_nm, argsGo_nm]
theorem TermW.stand0 (h : TermW ar t) (hp : p < t.length) : Stand ar t (arity ar (t.getD p 0)).toNat (p + 1) (M.endN ar t p) := by
 have := stand_start h.nm (p := p) (by rw [nm_len]; exact hp)
 rwa [Stand_nm, arityD_nm, endN_nm] at this
theorem TermW.stand (h : TermW ar t) (hs : Stand ar t (n + 1) q e) : q < t.length ∧ Stand ar t n (M.endN ar t q) e ∧ q < M.endN ar t q ∧ M.endN ar t q ≤ e := by
 have := stand_step h.nm (Stand_nm.2 hs)
 rwa [Stand_nm, nm_len, endN_nm] at this
theorem TermW.args_le (h : TermW ar t) (hp : p < t.length) : (argsL ar t p).length ≤ 3 := by
 have := argsL_le h.nm (p := p) (by rw [nm_len]; exact hp)
 rwa [argsL_nm] at this
theorem TermW.args_in (h : TermW ar t) (hp : p < t.length) {k : Nat} (hk : k < (argsL ar t p).length) : (p : Int) < (argsL ar t p).getD k 0 ∧ (argsL ar t p).getD k 0 < (M.endN ar t p : Int) := by
 have := argsL_in h.nm (p := p) (by rw [nm_len]; exact hp) (k := k) (by rw [argsL_nm]; exact hk)
 rw [argsL_nm, endN_nm] at this
 exact ⟨this.1, this.2.1⟩
theorem TermW.end0 (h : TermW ar t) : M.endN ar t 0 = t.length := by
 unfold M.endN endAt
 rw [List.drop_zero, h.whole]; simp
theorem TermW.ne (h : TermW ar t) : t ≠ [] := fun e => by have := h.len.1; rw [e] at this; simp at this
def WF (ar r : List Int) (n : Nat) : Prop := endGo ar r n = some r.length
theorem WF_nil : WF ar [] 0 := rfl
theorem WF_cons {x : Int} {r : List Int} : WF ar (x :: r) (n + 1) ↔ x < ar.length ∧ WF ar r (n + (arity ar x).toNat) := by
 unfold WF
 simp only [endGo, List.length_cons]
 by_cases hx : x < ar.length
 ·rw [if_pos hx]
  cases hr : endGo ar r (n + (arity ar x).toNat) with
  | none => simp
  | some k => simp [hx]
 ·rw [if_neg hx]; simp [hx]
theorem WF_app {a b : List Int} {m : Nat} (h : WF ar a n) (k : WF ar b m) : WF ar (a ++ b) (n + m) := by
 have := endGo_join (endGo_more (b := b) h) (m := m) (e2 := b.length) (by rw [List.drop_left]; exact k)
 unfold WF
 rw [List.length_append]; exact this
theorem WF_same {a b s r : List Int} (h : WF ar a n) (k : WF ar b n) (e : a ++ s = b ++ r) : a = b ∧ s = r := by
 have h1 := endGo_more (b := s) h
 rw [e, endGo_more (b := r) k] at h1
 exact List.append_inj e (Option.some.inj h1).symm
theorem WF.zero {r : List Int} (h : WF ar r 0) : r = [] := by
 unfold WF at h
 simp only [endGo, Option.some.injEq] at h
 exact List.eq_nil_of_length_eq_zero h.symm
theorem WF.pos {r : List Int} (h : WF ar r (n + 1)) : r ≠ [] := fun e => by subst e; simp [WF, endGo] at h
theorem TermW.wf (h : TermW ar t) : WF ar t 1 := h.whole
theorem WF.var {x : Int} (hx : x < 0) : WF ar [x] 1 := WF_cons.2 ⟨by omega, by rw [show arity ar x = 0 from by unfold arity; rw [if_pos hx]]; exact WF_nil⟩
theorem WF.one {x : Int} {r : List Int} (h : WF ar (x :: r) 1) (hx : x < 0) : r = [] := by
 have := (WF_cons.1 h).2
 rw [show arity ar x = 0 from by unfold arity; rw [if_pos hx]] at this
 exact this.zero
theorem TermW.isvar (h : TermW ar t) (hx : t.getD 0 0 < 0) : t = [t.getD 0 0] := by
 cases t with
 | nil => exact absurd rfl h.ne
 | cons x r => simp only [List.getD_cons_zero] at hx ⊢; rw [h.wf.one hx]
theorem wf_sub (h : TermW ar t) (hp : p < t.length) : t.drop p = sub ar t p ++ t.drop (M.endN ar t p) := by
 have := h.endN hp
 unfold sub
 rw [show t.drop (M.endN ar t p) = (t.drop p).drop (M.endN ar t p - p) from by rw [List.drop_drop]; congr 1; omega, List.take_append_drop]
end
abbrev Sbs := Int → List Int
def ap (θ : Sbs) (t : List Int) : List Int := t.flatMap θ
structure GoodS (ar : List Int) (θ : Sbs) : Prop where
 sym : ∀ n, 0 ≤ n → θ n = [n]
 var : ∀ n, n < 0 → WF ar (θ n) 1
section
variable {ar t s r : List Int} {θ σ : Sbs} {n : Nat} {x : Int}
@[simp] theorem ap_nil : ap θ [] = [] := rfl
theorem ap_cons : ap θ (x :: t) = θ x ++ ap θ t := by simp [ap]
theorem ap_app : ap θ (t ++ s) = ap θ t ++ ap θ s := by simp [ap]
theorem ap_one : ap θ [x] = θ x := by simp [ap]
theorem ap_ap : ap θ (ap σ t) = ap (fun n => ap θ (σ n)) t := by
 induction t with
 | nil => rfl
 | cons x t ih => rw [ap_cons, ap_app, ih, ap_cons]
theorem ap_congr (h : ∀ x ∈ t, θ x = σ x) : ap θ t = ap σ t := by
 induction t with
 | nil => rfl
 | cons x t ih => rw [ap_cons, ap_cons, h x (by simp), ih (fun y hy => h y (by simp [hy]))]
theorem mem_ap {y : Int} : y ∈ ap θ t ↔ ∃ x ∈ t, y ∈ θ x := by simp [ap]
theorem GoodS.pos (h : GoodS ar θ) : 1 ≤ (θ x).length := by
 rcases Int.lt_or_le x 0 with hx | hx
 ·have := (h.var x hx).pos
  cases hl : θ x with
  | nil => exact absurd hl this
  | cons => simp
 ·rw [h.sym x hx]; simp
theorem GoodS.len (h : GoodS ar θ) : t.length ≤ (ap θ t).length := by
 induction t with
 | nil => simp
 | cons x t ih => rw [ap_cons, List.length_append, List.length_cons]; have := h.pos (x := x); omega
theorem GoodS.len_mem (h : GoodS ar θ) (hx : x ∈ t) : (θ x).length + t.length ≤ (ap θ t).length + 1 := by
 induction t with
 | nil => cases hx
 | cons y t ih =>
  rw [ap_cons, List.length_append, List.length_cons]
  rcases List.mem_cons.1 hx with rfl | hx
  ·have := h.len (t := t); omega
  ·have := ih hx; have := h.pos (x := y); omega
theorem ap_wf (h : GoodS ar θ) : ∀ {r : List Int} {n : Nat}, WF ar r n → WF ar (ap θ r) n
 | [], 0, _ => WF_nil
 | [], n + 1, k => absurd rfl k.pos
 | x :: r, 0, k => by have := k.zero; cases this
 | x :: r, n + 1, k => by
  obtain ⟨h1, h2⟩ := WF_cons.1 k
  rw [ap_cons]
  rcases Int.lt_or_le x 0 with hx | hx
  ·rw [show arity ar x = 0 from by unfold arity; rw [if_pos hx]] at h2
   rw [Nat.add_comm]
   exact WF_app (h.var x hx) (ap_wf h h2)
  ·rw [h.sym x hx]
   exact WF_cons.2 ⟨h1, ap_wf h h2⟩
theorem GoodS.id : GoodS ar (fun n => [n]) := ⟨fun _ _ => rfl, fun _ h => WF.var h⟩
theorem ap_id : ap (fun n => [n]) t = t := by simp [ap]
def partsL (ar t : List Int) : RowL := (argsL ar t 0).map fun q => sub ar t q.toNat
theorem parts_go (h : TermW ar t) : ∀ {n q e : Nat}, Stand ar t n q e → ((argsGo ar t n q).map fun q => sub ar t q.toNat).flatten = (t.drop q).take (e - q)
 | 0, q, e, hs => by
  have := hs.1
  simp only [endGo, Option.some.injEq] at this
  have := hs.2
  simp [argsGo, show e - q = 0 by omega]
 | n + 1, q, e, hs => by
  obtain ⟨h1, h2, h3, h4⟩ := h.stand hs
  rw [argsGo, List.map_cons, List.flatten_cons, parts_go h h2, Int.toNat_natCast]
  unfold sub
  rw [show e - q = (M.endN ar t q - q) + (e - M.endN ar t q) from by omega, List.take_add, List.drop_drop, show q + (M.endN ar t q - q) = M.endN ar t q from by omega]
theorem parts_flat (h : TermW ar t) : t = t.getD 0 0 :: (partsL ar t).flatten := by
 have hl := h.len
 unfold partsL argsL
 rw [parts_go h (h.stand0 (p := 0) (by omega)), h.end0, List.take_of_length_le (by rw [List.length_drop]; omega)]
 cases t with
 | nil => exact absurd rfl h.ne
 | cons x r => simp
theorem parts_wf (h : TermW ar t) : ∀ s ∈ partsL ar t, TermW ar s := by
 intro s hs
 unfold partsL at hs
 obtain ⟨q, hq, rfl⟩ := List.mem_map.1 hs
 obtain ⟨k, hk, rfl⟩ := List.getElem_of_mem hq
 have hl := h.len
 have := h.args_in (p := 0) (by omega) hk
 rw [h.end0] at this
 have e : (argsL ar t 0)[k] = (argsL ar t 0).getD k 0 := by simp [List.getD, hk]
 rw [e]
 exact h.sub (by omega)
theorem parts_len : (partsL ar t).length = (arity ar (t.getD 0 0)).toNat := by unfold partsL; rw [List.length_map, argsL_len]
theorem flat_same : ∀ {as bs : RowL}, as.length = bs.length → (∀ a ∈ as, WF ar a 1) → (∀ b ∈ bs, WF ar b 1) → as.flatten = bs.flatten → as = bs
 | [], [], _, _, _, _ => rfl
 | [], _ :: _, h, _, _, _ => by simp at h
 | _ :: _, [], h, _, _, _ => by simp at h
 | a :: as, b :: bs, h, ha, hb, e => by
  simp only [List.flatten_cons] at e
  obtain ⟨e1, e2⟩ := WF_same (ha a (by simp)) (hb b (by simp)) e
  rw [e1, flat_same (by simpa using h) (fun x hx => ha x (by simp [hx])) (fun x hx => hb x (by simp [hx])) e2]
theorem ap_flat {as : RowL} : ap θ as.flatten = (as.map (ap θ)).flatten := by
 induction as with
 | nil => rfl
 | cons a as ih => rw [List.flatten_cons, ap_app, ih, List.map_cons, List.flatten_cons]
theorem ap_parts {a c : List Int} (g : GoodS ar θ) (ha : TermW ar a) (hc : TermW ar c) (h0 : 0 ≤ a.getD 0 0) (he : a.getD 0 0 = c.getD 0 0) :
  ap θ a = ap θ c ↔ ∀ i, i < (partsL ar a).length → ap θ ((partsL ar a).getD i []) = ap θ ((partsL ar c).getD i []) := by
 have hl : (partsL ar a).length = (partsL ar c).length := by rw [parts_len, parts_len, he]
 have e1 : ap θ a = ap θ c ↔ (partsL ar a).map (ap θ) = (partsL ar c).map (ap θ) := by
  have ea : ap θ a = θ (a.getD 0 0) ++ ((partsL ar a).map (ap θ)).flatten := by
   have := congrArg (ap θ) (parts_flat ha); rwa [ap_cons, ap_flat] at this
  have ec : ap θ c = θ (a.getD 0 0) ++ ((partsL ar c).map (ap θ)).flatten := by
   have := congrArg (ap θ) (parts_flat hc); rwa [ap_cons, ap_flat, ← he] at this
  rw [ea, ec]
  constructor
  ·intro h
   exact flat_same (ar := ar) (by simp [hl]) (fun x hx => by obtain ⟨y, hy, rfl⟩ := List.mem_map.1 hx; exact ap_wf g (parts_wf ha y hy).wf) (fun x hx => by obtain ⟨y, hy, rfl⟩ := List.mem_map.1 hx; exact ap_wf g (parts_wf hc y hy).wf) (List.append_cancel_left h)
  ·intro h; rw [h]
 rw [e1]
 constructor
 ·intro h i hi
  have := congrArg (fun l : RowL => l.getD i []) h
  simpa [List.getD, hi, show i < (partsL ar c).length by omega] using this
 ·intro h
  refine List.ext_getElem (by simp [hl]) fun i h1 h2 => ?_
  have hi : i < (partsL ar a).length := by simpa using h1
  have := h i hi
  simpa [List.getD, hi, show i < (partsL ar c).length by omega] using this
theorem ap_heads {a c : List Int} (g : GoodS ar θ) (ha : TermW ar a) (hc : TermW ar c) (h0 : 0 ≤ a.getD 0 0) (h1 : 0 ≤ c.getD 0 0) (hn : a.getD 0 0 ≠ c.getD 0 0) : ap θ a ≠ ap θ c := by
 intro h
 have ea := congrArg (ap θ) (parts_flat ha)
 have ec := congrArg (ap θ) (parts_flat hc)
 rw [ap_cons, g.sym _ h0] at ea
 rw [ap_cons, g.sym _ h1] at ec
 rw [ea, ec] at h
 exact hn (List.cons.inj h).1
theorem part_lt (g : GoodS ar θ) (ha : TermW ar t) {i : Nat} (hi : i < (partsL ar t).length) : (ap θ ((partsL ar t).getD i [])).length < (ap θ t).length := by
 have e : ap θ t = θ (t.getD 0 0) ++ ap θ (partsL ar t).flatten := by
  have := congrArg (ap θ) (parts_flat ha); rwa [ap_cons] at this
 have hp := g.pos (x := t.getD 0 0)
 rw [e, List.length_append, ap_flat]
 have : ∀ (l : RowL) (j : Nat), j < l.length → (ap θ (l.getD j [])).length ≤ (l.map (ap θ)).flatten.length := by
  intro l
  induction l with
  | nil => intro j hj; simp at hj
  | cons x l ih =>
   intro j hj
   rw [List.map_cons, List.flatten_cons, List.length_append]
   cases j with
   | zero => simp
   | succ j => have := ih j (by simpa using hj); simp only [List.getD_cons_succ]; omega
 have := this _ i hi
 omega
end
def SatB (b : RowL) (θ : Sbs) : Prop := ∀ n, n < 0 → lkN b n ≠ [] → θ n = ap θ (lkN b n)
def Sol (b : RowL) (σ : Sbs) : Prop := ∀ n, σ n = if lkN b n = [] then [n] else ap σ (lkN b n)
def Acyc (b : RowL) (ρ : Int → Nat) : Prop := ∀ n, n < 0 → ∀ m ∈ lkN b n, m < 0 → ρ m < ρ n
structure BOk (ar : List Int) (b : RowL) : Prop where
 len : b.length = 48
 wt : ∀ n, n < 0 → lkN b n ≠ [] → TermW ar (lkN b n)
 acyc : ∃ ρ, Acyc b ρ
section
variable {ar t s : List Int} {b : RowL} {θ σ : Sbs} {ρ : Int → Nat} {x n : Int}
def solGo (b : RowL) : Nat → Sbs
 | 0, n => [n]
 | k + 1, n => if lkN b n = [] then [n] else ap (solGo b k) (lkN b n)
theorem solGo_sym (h : 0 ≤ n) : ∀ k, solGo b k n = [n]
 | 0 => rfl
 | k + 1 => by rw [solGo, if_pos (lkN_pos h)]
theorem solGo_stable (ha : Acyc b ρ) : ∀ (r : Nat) (n : Int), n < 0 → ρ n = r → ∀ k, r < k → solGo b k n = solGo b (r + 1) n := by
 intro r
 induction r using Nat.strongRecOn with
 | _ r ih =>
  intro n hn hr k hk
  obtain ⟨k, rfl⟩ : ∃ j, k = j + 1 := ⟨k - 1, by omega⟩
  rw [solGo, solGo]
  split
  ·rfl
  ·refine ap_congr fun m hm => ?_
   rcases Int.lt_or_le m 0 with h0 | h0
   ·have := ha n hn m hm h0
    rw [ih (ρ m) (by omega) m h0 rfl k (by omega), ih (ρ m) (by omega) m h0 rfl r (by omega)]
   ·rw [solGo_sym h0, solGo_sym h0]
theorem sol_exists (ha : Acyc b ρ) : ∃ σ, Sol b σ := by
 refine ⟨fun n => solGo b (ρ n + 1) n, fun n => ?_⟩
 dsimp only
 rw [solGo]
 split
 ·rfl
 ·refine ap_congr fun m hm => ?_
  rcases Int.lt_or_le m 0 with h0 | h0
  ·rcases Int.lt_or_le n 0 with hn | hn
   ·exact solGo_stable ha _ m h0 rfl _ (ha n hn m hm h0)
   ·rw [lkN_pos hn] at hm; cases hm
  ·rw [solGo_sym h0, solGo_sym h0]
theorem Sol.sym (h : Sol b σ) (hn : 0 ≤ n) : σ n = [n] := by rw [h n, if_pos (lkN_pos hn)]
theorem Sol.free (h : Sol b σ) (hn : lkN b n = []) : σ n = [n] := by rw [h n, if_pos hn]
theorem Sol.bound (h : Sol b σ) (hn : lkN b n ≠ []) : σ n = ap σ (lkN b n) := by rw [h n, if_neg hn]
theorem Sol.sat (h : Sol b σ) : SatB b σ := fun n _ hn => h.bound hn
theorem Sol.good (hb : BOk ar b) (h : Sol b σ) : GoodS ar σ := by
 obtain ⟨ρ, ha⟩ := hb.acyc
 refine ⟨fun n hn => h.sym hn, ?_⟩
 have key : ∀ (r : Nat) (n : Int), n < 0 → ρ n = r → WF ar (σ n) 1 := by
  intro r
  induction r using Nat.strongRecOn with
  | _ r ih =>
   intro n hn hr
   by_cases hl : lkN b n = []
   ·rw [h.free hl]; exact WF.var hn
   ·rw [h.bound hl]
    have g : GoodS ar (fun m => if m ∈ lkN b n then σ m else [m]) := by
     refine ⟨fun m hm => ?_, fun m hm => ?_⟩
     ·split
      ·exact h.sym hm
      ·rfl
     ·split
      ·rename_i hmem
       exact ih (ρ m) (by have := ha n hn m hmem hm; omega) m hm rfl
      ·exact WF.var hm
    rw [ap_congr (σ := fun m => if m ∈ lkN b n then σ m else [m]) (fun m hm => by simp [hm])]
    exact ap_wf g (hb.wt n hn hl).wf
 exact fun n hn => key _ n hn rfl
theorem Sol.most (ha : Acyc b ρ) (h : Sol b σ) (hs : ∀ n, 0 ≤ n → θ n = [n]) (hθ : SatB b θ) : ∀ n, ap θ (σ n) = θ n := by
 have key : ∀ (r : Nat) (n : Int), n < 0 → ρ n = r → ap θ (σ n) = θ n := by
  intro r
  induction r using Nat.strongRecOn with
  | _ r ih =>
   intro n hn hr
   by_cases hl : lkN b n = []
   ·rw [h.free hl, ap_one]
   ·rw [h.bound hl, ap_ap, hθ n hn hl]
    refine ap_congr fun m hm => ?_
    rcases Int.lt_or_le m 0 with h0 | h0
    ·exact ih (ρ m) (by have := ha n hn m hm h0; omega) m h0 rfl
    ·rw [h.sym h0, ap_one]
 intro n
 rcases Int.lt_or_le n 0 with h0 | h0
 ·exact key _ n h0 rfl
 ·rw [h.sym h0, ap_one]
theorem Sol.most_t (hb : BOk ar b) (h : Sol b σ) (g : GoodS ar θ) (hθ : SatB b θ) : ap θ (ap σ t) = ap θ t := by
 obtain ⟨ρ, ha⟩ := hb.acyc
 rw [ap_ap]
 exact ap_congr fun m _ => h.most ha g.sym hθ m
theorem BOk.sol (hb : BOk ar b) : ∃ σ, Sol b σ := let ⟨_, ha⟩ := hb.acyc; sol_exists ha
theorem lkN_nils : lkN (List.replicate 48 []) n = [] := by
 unfold lkN
 split
 ·rfl
 ·simp only [List.getD, List.getElem?_replicate]
  split <;> rfl
theorem BOk.nils : BOk ar (List.replicate 48 []) := ⟨by simp, fun n _ h => absurd lkN_nils h, ⟨fun _ => 0, fun n _ m hm => by rw [lkN_nils] at hm; cases hm⟩⟩
theorem SatB.nils : SatB (List.replicate 48 []) θ := fun n _ h => absurd lkN_nils h
theorem varIx_inj {x y : Int} (hx : x < 0) (hy : y < 0) (h : varIx x = varIx y) : x = y := by unfold varIx at h; omega
theorem lkN_set (hb : b.length = 48) (hx : x < 0) (hx48 : -48 ≤ x) : lkN (b.set (varIx x) t) n = if n = x then t else lkN b n := by
 unfold lkN
 by_cases hn : 0 ≤ n
 ·rw [if_pos hn, if_pos hn, if_neg (by omega)]
 ·rw [if_neg hn, if_neg hn]
  by_cases h : n = x
  ·subst h
   rw [if_pos rfl]
   simp only [List.getD, List.getElem?_set_self (show varIx n < b.length by rw [hb]; unfold varIx; omega), Option.getD_some]
  ·rw [if_neg h]
   simp only [List.getD]
   rw [List.getElem?_set_ne]
   intro e
   exact h (varIx_inj (by omega) hx e.symm)
theorem reach_mem {y : Int} (h : Sol b σ) (hm : n ∈ lkN b y) (hxn : x ∈ σ n) : x ∈ σ y := by
 rw [h.bound (fun e => by rw [e] at hm; cases hm)]
 exact mem_ap.2 ⟨n, hm, hxn⟩
theorem maxRank (l : List Int) (ρ : Int → Nat) : ∃ N, ∀ m ∈ l, ρ m < N := by
 induction l with
 | nil => exact ⟨0, fun _ h => by cases h⟩
 | cons x l ih =>
  obtain ⟨N, hN⟩ := ih
  refine ⟨N + ρ x + 1, fun m hm => ?_⟩
  rcases List.mem_cons.1 hm with rfl | hm
  ·omega
  ·have := hN m hm; omega
theorem BOk.bind (hb : BOk ar b) (h : Sol b σ) (hx : x < 0) (hx48 : -48 ≤ x) (hf : lkN b x = []) (ht : TermW ar t) (hno : x ∉ ap σ t) : BOk ar (b.set (varIx x) t) := by
 obtain ⟨ρ, ha⟩ := hb.acyc
 refine ⟨by rw [List.length_set]; exact hb.len, fun n hn hl => ?_, ?_⟩
 ·rw [lkN_set hb.len hx hx48] at hl ⊢
  split
  ·exact ht
  ·rename_i hne; rw [if_neg hne] at hl; exact hb.wt n hn hl
 ·obtain ⟨N, hN⟩ := maxRank t ρ
  refine ⟨fun y => if x ∈ σ y then ρ y + N else ρ y, fun n hn m hm h0 => ?_⟩
  dsimp only
  rw [lkN_set hb.len hx hx48] at hm
  split at hm
  ·rename_i he
   subst he
   have h1 : n ∉ σ m := fun hc => hno (mem_ap.2 ⟨m, hm, hc⟩)
   have h2 : n ∈ σ n := by rw [h.free hf]; simp
   rw [if_neg h1, if_pos h2]
   have := hN m hm; omega
  ·have := ha n hn m hm h0
   by_cases h1 : x ∈ σ m
   ·rw [if_pos h1, if_pos (reach_mem h hm h1)]; omega
   ·rw [if_neg h1]; split <;> omega
theorem SatB.bind (hb : b.length = 48) (hx : x < 0) (hx48 : -48 ≤ x) (hf : lkN b x = []) (ht : t ≠ []) : SatB (b.set (varIx x) t) θ ↔ SatB b θ ∧ θ x = ap θ t := by
 unfold SatB
 constructor
 ·intro h
  refine ⟨fun n hn hl => ?_, ?_⟩
  ·have := h n hn
   rw [lkN_set hb hx hx48, if_neg (fun e => by subst e; exact hl hf)] at this
   exact this hl
  ·have := h x hx
   rw [lkN_set hb hx hx48, if_pos rfl] at this
   exact this ht
 ·intro ⟨h1, h2⟩ n hn hl
  rw [lkN_set hb hx hx48] at hl ⊢
  split
  ·rename_i e; rw [e]; exact h2
  ·rename_i e; rw [if_neg e] at hl; exact h1 n hn hl
theorem no_occurs (hb : BOk ar b) (h : Sol b σ) (g : GoodS ar θ) (hθ : SatB b θ) (hx : x ∈ ap σ t) (h2 : 2 ≤ (ap σ t).length) : θ x ≠ ap θ t := by
 intro e
 rw [← h.most_t hb g hθ] at e
 have := g.len_mem hx
 have := congrArg List.length e
 omega
inductive RootOf (b : RowL) : List Int → List Int → Prop
 | here {t : List Int} (h : 0 ≤ t.getD 0 0 ∨ lkN b (t.getD 0 0) = []) : RootOf b t t
 | step {t u : List Int} (h0 : t.getD 0 0 < 0) (hl : lkN b (t.getD 0 0) ≠ []) (h : RootOf b (lkN b (t.getD 0 0)) u) : RootOf b t u
end
section
variable {ar t a c u w x y A C : List Int} {b b1 b2 : RowL} {θ σ : Sbs} {ρ : Int → Nat} {n m : Int} {k j N : Nat} {sn s1 s2 : List Bool} {E E1 E2 : Sbs → Prop}
def ClearM (σ : Sbs) (ρ : Int → Nat) (n : Int) (k : Nat) (sn : List Bool) : Prop := ∀ m : Int, m < 0 → sn.getD (varIx m) false = true → ρ m < k → n ∉ σ m
def MarkR (σ : Sbs) (n : Int) (sn s1 : List Bool) : Prop := ∀ m : Int, m < 0 → s1.getD (varIx m) false = true → sn.getD (varIx m) false = true ∨ n ∉ σ m
theorem MarkR.refl : MarkR σ n sn sn := fun _ _ h => .inl h
theorem set_mark (hl : s1.length = 48) (hm : m < 0) (hg : -48 ≤ m) (hy : n < 0) : (s1.set (varIx m) true).getD (varIx n) false = true ↔ n = m ∨ s1.getD (varIx n) false = true := by
 by_cases e : n = m
 ·subst e
  simp only [List.getD, List.getElem?_set_self (show varIx n < s1.length by rw [hl]; unfold varIx; omega), Option.getD_some, true_or]
 ·have : varIx m ≠ varIx n := fun h => e (varIx_inj hy hm h.symm)
  simp only [List.getD, List.getElem?_set_ne this, e, false_or]
theorem MarkR.step (h : MarkR σ n sn s1) (hl : s1.length = 48) (hm : m < 0) (hg : -48 ≤ m) (h2 : MarkR σ n (s1.set (varIx m) true) s2) (hno : n ∉ σ m) : MarkR σ n sn s2 := by
 intro y hy hs
 rcases h2 y hy hs with h3 | h3
 ·rcases (set_mark hl hm hg hy).1 h3 with rfl | h4
  ·exact .inr hno
  ·exact h y hy h4
 ·exact .inr h3
theorem MarkR.set (h : MarkR σ n sn s1) (hl : s1.length = 48) (hm : m < 0) (hg : -48 ≤ m) (hno : n ∉ σ m) : MarkR σ n sn (s1.set (varIx m) true) := h.step hl hm hg .refl hno
theorem ClearM.down (h : ClearM σ ρ n k sn) (h1 : MarkR σ n sn s1) (hl : s1.length = 48) (hm : m < 0) (hg : -48 ≤ m) (hk : ρ m < k) : ClearM σ ρ n (ρ m) (s1.set (varIx m) true) := by
 intro y hy hs hr
 rcases (set_mark hl hm hg hy).1 hs with rfl | h4
 ·omega
 ·rcases h1 y hy h4 with h5 | h5
  ·exact h y hy h5 (by omega)
  ·exact h5
theorem ClearM.seen (h : ClearM σ ρ n k sn) (h1 : MarkR σ n sn s1) (hm : m < 0) (hs : s1.getD (varIx m) false = true) (hk : ρ m < k) : n ∉ σ m := by
 rcases h1 m hm hs with h5 | h5
 ·exact h m hm h5 hk
 ·exact h5
theorem ClearM.nils : ClearM σ ρ n k (List.replicate N false) := by
 intro m hm h
 simp only [List.getD, List.getElem?_replicate] at h
 split at h <;> simp at h
theorem occ_here (hf : lkN b n = []) (h : Sol b σ) (hj : j < t.length) (he : t.getD j 0 = n) : n ∈ ap σ t := mem_ap.2 ⟨n, mem_of_getD hj he, by rw [h.free hf]; simp⟩
theorem occ_in (h : Sol b σ) (hj : j < t.length) (hm : t.getD j 0 = m) (hl : lkN b m ≠ []) (ho : n ∈ ap σ (lkN b m)) : n ∈ ap σ t := mem_ap.2 ⟨m, mem_of_getD hj hm, by rw [h.bound hl]; exact ho⟩
theorem occ_not (hall : ∀ i, i < t.length → n ∉ σ (t.getD i 0)) : n ∉ ap σ t := by
 intro h
 obtain ⟨x, hx, hn⟩ := mem_ap.1 h
 obtain ⟨i, hi, rfl⟩ := List.getElem_of_mem hx
 have := hall i hi
 simp only [List.getD, List.getElem?_eq_getElem hi, Option.getD_some] at this
 exact this hn
theorem sym_no (h : Sol b σ) (hn : n < 0) (hm : 0 ≤ m) : n ∉ σ m := by rw [h.sym hm]; simp; omega
theorem free_no (h : Sol b σ) (hne : m ≠ n) (hl : lkN b m = []) : n ∉ σ m := by rw [h.free hl]; simp; omega
theorem bound_no (h : Sol b σ) (hl : lkN b m ≠ []) (hno : n ∉ ap σ (lkN b m)) : n ∉ σ m := by rw [h.bound hl]; exact hno
theorem lkN_get (hm : m < 0) : lkN b m = b.getD (varIx m) [] := lkN_neg hm
structure Root (ar : List Int) (b : RowL) (t u : List Int) : Prop where
 w : TermW ar u
 top : 0 ≤ u.getD 0 0 ∨ lkN b (u.getD 0 0) = []
 same : ∀ θ : Sbs, SatB b θ → ap θ t = ap θ u
def RootTo (ar : List Int) (b : RowL) (t u : List Int) : Prop := TermW ar u ∧ ∀ θ : Sbs, SatB b θ → ap θ t = ap θ u
theorem RootTo.refl (h : TermW ar t) : RootTo ar b t t := ⟨h, fun _ _ => rfl⟩
theorem RootTo.next (hb : BOk ar b) (h : RootTo ar b t u) (h0 : u.getD 0 0 < 0) (hl : b.getD (varIx (u.getD 0 0)) [] ≠ []) : RootTo ar b t (b.getD (varIx (u.getD 0 0)) []) := by
 rw [← lkN_get h0] at hl ⊢
 refine ⟨hb.wt _ h0 hl, fun θ hθ => ?_⟩
 rw [h.2 θ hθ, h.1.isvar h0, ap_one, hθ _ h0 hl]
 rw [show [u.getD 0 0].getD 0 0 = u.getD 0 0 from rfl]
theorem RootTo.done (h : RootTo ar b t u) (ht : 0 ≤ u.getD 0 0 ∨ b.getD (varIx (u.getD 0 0)) [] = []) : Root ar b t u := by
 refine ⟨h.1, ?_, h.2⟩
 rcases Int.lt_or_le (u.getD 0 0) 0 with h0 | h0
 ·rw [lkN_get h0]; exact .inr (ht.resolve_left (by omega))
 ·exact .inl h0
def rootMu (ρ : Int → Nat) (u : List Int) : Nat := if u.getD 0 0 < 0 then ρ (u.getD 0 0) + 1 else 0
theorem rootMu_lt (ha : Acyc b ρ) (hb : BOk ar b) (h0 : u.getD 0 0 < 0) (hl : b.getD (varIx (u.getD 0 0)) [] ≠ []) : rootMu ρ (b.getD (varIx (u.getD 0 0)) []) < rootMu ρ u := by
 rw [← lkN_get h0] at hl ⊢
 unfold rootMu
 rw [if_pos h0]
 split
 ·rename_i h1
  have hw := (hb.wt _ h0 hl).len
  have := ha _ h0 ((lkN b (u.getD 0 0)).getD 0 0) (mem_of_getD (k := 0) (by omega) rfl) h1
  omega
 ·omega
def unb (b : RowL) : Nat := b.countP fun x => decide (x = [])
structure Solves (ar : List Int) (b b1 : RowL) (E : Sbs → Prop) : Prop where
 ok : BOk ar b1
 iff : ∀ θ, GoodS ar θ → (SatB b1 θ ↔ SatB b θ ∧ E θ)
 less : unb b1 < unb b ∨ b1 = b
theorem Solves.refl (hb : BOk ar b) (h : ∀ θ, GoodS ar θ → SatB b θ → E θ) : Solves ar b b E := ⟨hb, fun θ g => ⟨fun hs => ⟨hs, h θ g hs⟩, fun hs => hs.1⟩, .inr rfl⟩
theorem Solves.trans (h1 : Solves ar b b1 E1) (h2 : Solves ar b1 b2 E2) : Solves ar b b2 (fun θ => E1 θ ∧ E2 θ) := by
 refine ⟨h2.ok, fun θ g => ?_, ?_⟩
 ·rw [h2.iff θ g, h1.iff θ g, and_assoc]
 ·rcases h1.less with e1 | e1 <;> rcases h2.less with e2 | e2
  ·left; omega
  ·left; rw [e2]; exact e1
  ·left; rw [e1] at e2; exact e2
  ·right; rw [e2, e1]
theorem Solves.congr (h : Solves ar b b1 E) (hc : ∀ θ, GoodS ar θ → SatB b θ → (E θ ↔ E1 θ)) : Solves ar b b1 E1 := by
 refine ⟨h.ok, fun θ g => ?_, h.less⟩
 rw [h.iff θ g]
 exact ⟨fun ⟨p, q⟩ => ⟨p, (hc θ g p).1 q⟩, fun ⟨p, q⟩ => ⟨p, (hc θ g p).2 q⟩⟩
theorem unb_set : ∀ {b : RowL} {i : Nat} {t : List Int}, i < b.length → b.getD i [] = [] → t ≠ [] → unb (b.set i t) < unb b
 | [], i, t, h, _, _ => by simp at h
 | r :: b, 0, t, h, he, ht => by
  simp only [List.getD_cons_zero] at he
  subst he
  simp [unb, ht]
 | r :: b, i + 1, t, h, he, ht => by
  have := unb_set (b := b) (i := i) (t := t) (by simpa using h) (by simpa using he) ht
  simp only [unb, List.set_cons_succ, List.countP_cons] at this ⊢
  omega
theorem Solves.bind (hb : BOk ar b) (h : Sol b σ) (hn : n < 0) (hg : -48 ≤ n) (hf : lkN b n = []) (ht : TermW ar t) (hno : n ∉ ap σ t) : Solves ar b (b.set (varIx n) t) (fun θ => θ n = ap θ t) := by
 refine ⟨hb.bind h hn hg hf ht hno, fun θ _ => SatB.bind hb.len hn hg hf ht.ne, .inl ?_⟩
 rw [lkN_get hn] at hf
 exact unb_set (by rw [hb.len]; unfold varIx; omega) hf ht.ne
theorem bind_eq (hb : BOk ar b) (h : Sol b σ) (hx : Root ar b A x) (hy : Root ar b C y) (hn : x.getD 0 0 < 0) (hno : x.getD 0 0 ∉ ap σ y) : Solves ar b (b.set (varIx (x.getD 0 0)) y) (fun θ => ap θ A = ap θ C) := by
 have hl := hx.w.len
 refine (Solves.bind hb h hn (hx.w.geD (by omega)) (hx.top.resolve_left (by omega)) hy.w hno).congr fun θ g hs => ?_
 rw [hx.same θ hs, hy.same θ hs]
 have := congrArg (ap θ) (hx.w.isvar hn)
 rw [ap_one] at this
 rw [this]
theorem bind_var (h : Sol b σ) (hy : Root ar b C y) (hn : y.getD 0 0 < 0) (hne : x.getD 0 0 ≠ y.getD 0 0) : x.getD 0 0 ∉ ap σ y := by
 have := congrArg (ap σ) (hy.w.isvar hn)
 rw [ap_one, h.free (hy.top.resolve_left (by omega))] at this
 rw [this]
 exact fun h => hne (List.mem_singleton.1 h)
theorem occ_eq (hb : BOk ar b) (h : Sol b σ) (hx : Root ar b A x) (hy : Root ar b C y) (hn : x.getD 0 0 < 0) (h0 : 0 ≤ y.getD 0 0) (ho : x.getD 0 0 ∈ ap σ y) : ∀ θ, GoodS ar θ → SatB b θ → ap θ A ≠ ap θ C := by
 intro θ g hs
 rw [hx.same θ hs, hy.same θ hs]
 have e := congrArg (ap θ) (hx.w.isvar hn)
 rw [ap_one] at e
 rw [e]
 refine no_occurs hb h g hs ho ?_
 have gs := h.good hb
 have e2 : ap σ y = σ (y.getD 0 0) ++ ap σ (partsL ar y).flatten := by
  have := congrArg (ap σ) (parts_flat hy.w); rwa [ap_cons] at this
 rw [e2, h.sym h0] at ho ⊢
 rcases List.mem_append.1 ho with h1 | h1
 ·exact absurd (List.mem_singleton.1 h1) (by omega)
 ·cases hl : ap σ (partsL ar y).flatten with
  | nil => rw [hl] at h1; cases h1
  | cons => simp
theorem same_eq (hb : BOk ar b) (hx : Root ar b A x) (hy : Root ar b C y) (hn : x.getD 0 0 < 0) (he : x.getD 0 0 = y.getD 0 0) : Solves ar b b (fun θ => ap θ A = ap θ C) := by
 refine Solves.refl hb fun θ g hs => ?_
 rw [hx.same θ hs, hy.same θ hs, hx.w.isvar hn, hy.w.isvar (by omega), he]
theorem heads_ne (hx : Root ar b A x) (hy : Root ar b C y) (h0 : 0 ≤ x.getD 0 0) (h1 : 0 ≤ y.getD 0 0) (hn : x.getD 0 0 ≠ y.getD 0 0) : ∀ θ, GoodS ar θ → SatB b θ → ap θ A ≠ ap θ C := by
 intro θ g hs
 rw [hx.same θ hs, hy.same θ hs]
 exact ap_heads g hx.w hy.w h0 h1 hn
theorem Solves.swap (h : Solves ar b b1 (fun θ => ap θ A = ap θ C)) : Solves ar b b1 (fun θ => ap θ C = ap θ A) := h.congr fun _ _ _ => eq_comm
theorem no_swap (h : ∀ θ, GoodS ar θ → SatB b θ → ap θ A ≠ ap θ C) : ∀ θ, GoodS ar θ → SatB b θ → ap θ C ≠ ap θ A := fun θ g s e => h θ g s e.symm
def EqTo (ar x y : List Int) (j : Nat) (θ : Sbs) : Prop := ∀ i, i < j → ap θ ((partsL ar x).getD i []) = ap θ ((partsL ar y).getD i [])
theorem EqTo.start (hb : BOk ar b) : Solves ar b b (EqTo ar x y 0) := Solves.refl hb fun _ _ _ i hi => absurd hi (by omega)
theorem EqTo.next (h : Solves ar b b1 (EqTo ar x y j)) (h2 : Solves ar b1 b2 (fun θ => ap θ ((partsL ar x).getD j []) = ap θ ((partsL ar y).getD j []))) : Solves ar b b2 (EqTo ar x y (j + 1)) :=
 (h.trans h2).congr fun θ _ _ => ⟨fun ⟨p, q⟩ i hi => (Nat.lt_or_ge i j).elim (fun h => p i h) (fun h => by obtain rfl : i = j := (by omega); exact q), fun h => ⟨fun i hi => h i (by omega), h j (by omega)⟩⟩
theorem EqTo.stop (h : Solves ar b b1 (EqTo ar x y j)) (hx : Root ar b A x) (hy : Root ar b C y) (hj : j < (partsL ar x).length) (h0 : 0 ≤ x.getD 0 0) (he : x.getD 0 0 = y.getD 0 0)
  (h2 : ∀ θ, GoodS ar θ → SatB b1 θ → ap θ ((partsL ar x).getD j []) ≠ ap θ ((partsL ar y).getD j [])) : ∀ θ, GoodS ar θ → SatB b θ → ap θ A ≠ ap θ C := by
 intro θ g hs e
 rw [hx.same θ hs, hy.same θ hs] at e
 have hp := (ap_parts g hx.w hy.w h0 he).1 e
 exact h2 θ g ((h.iff θ g).2 ⟨hs, fun i hi => hp i (by omega)⟩) (hp j hj)
theorem EqTo.done (h : Solves ar b b1 (EqTo ar x y j)) (hx : Root ar b A x) (hy : Root ar b C y) (hj : j = (partsL ar x).length) (h0 : 0 ≤ x.getD 0 0) (he : x.getD 0 0 = y.getD 0 0) : Solves ar b b1 (fun θ => ap θ A = ap θ C) :=
 h.congr fun θ g hs => by
  rw [hx.same θ hs, hy.same θ hs, ap_parts g hx.w hy.w h0 he, ← hj]
  rfl
theorem EqTo.less (h : Solves ar b b1 (EqTo ar x y j)) (hb : BOk ar b) (hσ : Sol b σ) (hx : Root ar b A x) (hj : j < (partsL ar x).length) (hk : unb b ≤ k) (hN : (ap σ A).length ≤ N) :
  ∃ σ1 k1 N1, Sol b1 σ1 ∧ unb b1 ≤ k1 ∧ (ap σ1 ((partsL ar x).getD j [])).length ≤ N1 ∧ (k1 < k ∨ k1 = k ∧ N1 < N) := by
 rcases h.less with h1 | h1
 ·obtain ⟨σ1, h2⟩ := h.ok.sol
  exact ⟨σ1, unb b1, _, h2, Nat.le_refl _, Nat.le_refl _, .inl (by omega)⟩
 ·subst h1
  refine ⟨σ, k, _, hσ, hk, Nat.le_refl _, .inr ⟨rfl, ?_⟩⟩
  have := part_lt (hσ.good hb) hx.w hj
  rw [hx.same σ hσ.sat] at hN
  omega
theorem parts_get (hj : j < (argsL ar t 0).length) : (partsL ar t).getD j [] = sub ar t ((argsL ar t 0).getD j 0).toNat := by
 unfold partsL
 simp [List.getD, hj]
theorem parts_W (h : TermW ar t) (hj : j < (argsL ar t 0).length) : TermW ar ((partsL ar t).getD j []) := by
 have hl : j < (partsL ar t).length := by unfold partsL; simpa using hj
 refine parts_wf h _ ?_
 simp only [List.getD, List.getElem?_eq_getElem hl, Option.getD_some]
 exact List.getElem_mem hl
theorem args_same (he : x.getD 0 0 = y.getD 0 0) : (argsL ar x 0).length = (argsL ar y 0).length := by rw [argsL_len, argsL_len, he]
theorem parts_args : (partsL ar t).length = (argsL ar t 0).length := by unfold partsL; simp
end
theorem args_nextW {ar t : List Int} {p n q : Nat} {os : List Int} (hn : 1 ≤ n) (he : argsL ar t p = os ++ argsGo ar t n q) : argsL ar t p = (os ++ [(q : Int)]) ++ argsGo ar t (n - 1) (endN ar t q) := by
 obtain ⟨n, rfl⟩ : ∃ m, n = m + 1 := ⟨n - 1, by omega⟩
 rw [he, argsGo, Nat.add_sub_cancel, List.append_assoc]; rfl
section
variable {ar t os : List Int} {b : RowL} {σ : Sbs} {ρ : Int → Nat} {m : Int} {j : Nat}
def resOk (σ : Sbs) (os t : List Int) : Bool := decide (os.length + (ap σ t).length ≤ 60)
def resX (σ : Sbs) (os t : List Int) : List Int := if resOk σ os t = true then os ++ ap σ t else []
theorem ap_take (hj : j < t.length) : ap σ (t.take (j + 1)) = ap σ (t.take j) ++ σ (t.getD j 0) := by
 rw [take_succ_getD 0 hj, ap_app, ap_one]
theorem ap_len_take (hj : j < t.length) : (ap σ (t.take j)).length + (σ (t.getD j 0)).length ≤ (ap σ t).length := by
 have e : t = t.take (j + 1) ++ t.drop (j + 1) := (List.take_append_drop ..).symm
 have h : (ap σ t).length = (ap σ (t.take (j + 1))).length + (ap σ (t.drop (j + 1))).length := by
  have := congrArg (fun l => (ap σ l).length) e
  simpa only [ap_app, List.length_append] using this
 rw [h, ap_take hj, List.length_append]; omega
theorem res_no (hj : j < t.length) (h : 60 < os.length + (ap σ (t.take j)).length + (σ (t.getD j 0)).length) : resOk σ os t = false := by
 have := ap_len_take (σ := σ) hj
 exact decide_eq_false (by omega)
theorem res_end (hj : j = t.length) (h : os.length + (ap σ (t.take j)).length ≤ 60) : resOk σ os t = true ∧ resX σ os t = os ++ ap σ (t.take j) := by
 subst hj
 rw [List.take_length] at h ⊢
 have h1 : resOk σ os t = true := decide_eq_true h
 exact ⟨h1, by unfold resX; rw [if_pos h1]⟩
end
def awayL (t : List Int) : List Int := t.map fun n => if n < 0 then n - 24 else n
end Go.Proofs.Ytcdjpapjjoldeaa.M
namespace Go.Proofs.Ytcdjpapjjoldeaa.X
open Go
def XA (P : Program) (n : Nat) (l : List Oper) (Q : QX) (ρ : Env) (F : FH) (L : List HP) : Prop :=
 opsOk n l = true → ∀ a w, Rep n a ρ → Holds F L w → wpAny P .any l.toArray (low n F Q) l.toArray.size (Array.replicate l.toArray.size false) a w
theorem XA.drawH {P : Program} {n : Nat} {Q : QX} {ρ : Env} {F : FH} {L : List HP} {l : List Oper} (Bs L0 : List HP) (m : Nat) (uses cls tk : List (List Nat)) (phi : Nat → FH → List Value → Value → Prop) (own : Nat → List Value → Value → List HP) (tb : Nat → List HP)
  (hL : L = (List.range m).flatMap tb ++ (Bs ++ L0)) (hm : Nat.ble m l.length = true) (hok : drawOk l m uses cls = true) (htk : takeOk l m tk = true)
  (hmono : ∀ i F F' us v, F ≤ F' → phi i F us v → phi i F' us v)
  (hstep : stepsT P l ρ F Bs phi own tb uses cls tk (l.take m) 0)
  (hend : ∀ (vals : Nat → Value) (F1 : FH), F ≤ F1 → (∀ i, i < m → phi i F1 ((uses.getD i []).map vals) (vals i)) → XL P n l.toArray (l.drop m) Q (canon vals (l.take m) 0 ρ) F1 (madeG own uses tk vals (List.range m) ++ (Bs ++ L0))) :
  XA P n l Q ρ F L := by
 subst hL
 have hm' : m ≤ l.length := Nat.le_of_ble_eq_true hm
 have ok := drawOk_spec hok
 obtain ⟨tk1, tk2, tk3⟩ := takeOk_spec htk
 intro cok' a w0 r H
 have H1 : Holds F (Bs ++ (restH tb m [] ++ L0)) w0 := by
  refine Sub.holds (Sub.perm ?_) H
  rw [restH_all, ← List.append_assoc, ← List.append_assoc]
  exact List.perm_append_comm.append_right L0
 -- the tail, in its text's order
 have tailP : ∀ (k : Nat) (fuel : Nat) (listed : Array Bool) (a : Act) (w : World), fuel + k = l.length → m ≤ k → listed.size = l.length → (∀ i, i < k → listed.getD i true = true) → (∀ i, k ≤ i → i < l.length → listed.getD i true = false) →
   wpList P l.toArray (low n F Q) (l.drop k) a w → wpAny P .any l.toArray (low n F Q) fuel listed a w := by
  intro k fuel
  induction fuel generalizing k with
  | zero =>
   intro listed a w hk hmk hsz hin hout h
   have hk' : k = l.length := by omega
   subst hk'
   rw [List.drop_length] at h
   refine ⟨?_, h⟩
   unfold Region.ready
   rw [List.filter_eq_nil_iff]
   intro i hi
   have hi' : i < l.length := by simpa using hi
   simp [hin i hi']
  | succ fuel ih =>
   intro listed a w hk hmk hsz hin hout h
   have hkl : k < l.length := by omega
   obtain ⟨o, ho⟩ : ∃ o, l[k]? = some o := ⟨l[k], List.getElem?_eq_getElem hkl⟩
   have hready : ∀ i, i ∈ Region.ready .any l.toArray listed → i = k := by
    intro i hi
    obtain ⟨hun, oi, hoi, hall⟩ := mem_ready.1 hi
    have hoi' : l[i]? = some oi := by simpa using hoi
    have hil : i < l.length := (List.getElem?_eq_some_iff.1 hoi').1
    have hki : k ≤ i := by
     rcases Nat.lt_or_ge i k with h' | h'
     ·have := hin i h'; rw [this] at hun; cases hun
     ·exact h'
    rcases Nat.lt_or_ge k i with h' | h'
    · -- k is ahead of i: so some edge of i's leads to k, which is not listed
     exfalso
     have hmem := ok.tail i (by omega) hil k h'
     have key : ∀ (t j : Nat), (∀ oj : Oper, l[j]? = some oj → ∀ e ∈ oj.after, Region.binds .any e = true → listed.getD e.on false = true) → j ≤ t → k ∈ clo l j → (j < l.length) → False := by
      intro t
      induction t with
      | zero =>
       intro j hj hjt hkj hjl
       obtain ⟨e, he, hb, hlt, _⟩ := mem_clo (List.getElem?_eq_getElem hjl) hkj
       omega
      | succ t iht =>
       intro j hj hjt hkj hjl
       obtain ⟨e, he, hb, hlt, hor⟩ := mem_clo (List.getElem?_eq_getElem hjl) hkj
       have hl := hj _ (List.getElem?_eq_getElem hjl) e (by simpa using he) hb
       rcases hor with rfl | hmem
       ·have := hout _ (Nat.le_refl _) hkl
        simp only [Array.getD_eq_getD_getElem?] at this hl
        rw [Array.getElem?_eq_getElem (by omega)] at this hl
        simp at this hl
        rw [this] at hl; cases hl
       ·have hon : e.on < k := by
         rcases Nat.lt_or_ge e.on k with h'' | h''
         ·exact h''
         ·have := hout e.on h'' (by omega)
          simp only [Array.getD_eq_getD_getElem?] at this hl
          rw [Array.getElem?_eq_getElem (by omega)] at this hl
          simp at this hl
          rw [this] at hl; cases hl
        -- below k everything in the closure is below k
        obtain ⟨e2, he2, hb2, hlt2, hor2⟩ := mem_clo (List.getElem?_eq_getElem (show e.on < l.length by omega)) hmem
        have low : ∀ (t j : Nat), j ≤ t → j < k → k ∈ clo l j → False := by
         intro t
         induction t with
         | zero => intro j hjt hjk hkj; obtain ⟨e, _, _, hlt, _⟩ := mem_clo (List.getElem?_eq_getElem (show j < l.length by omega)) hkj; omega
         | succ t iht2 =>
          intro j hjt hjk hkj
          obtain ⟨e, _, _, hlt, hor⟩ := mem_clo (List.getElem?_eq_getElem (show j < l.length by omega)) hkj
          rcases hor with rfl | hmem
          ·omega
          ·exact iht2 e.on (by omega) (by omega) hmem
        exact low _ _ (Nat.le_refl _) hon hmem
     refine key i i (fun oj hoj e he hb => ?_) (Nat.le_refl _) hmem hil
     rw [hoi'] at hoj; cases hoj
     exact hall e he hb
    ·omega
   have hkready : k ∈ Region.ready .any l.toArray listed := by
    refine mem_ready.2 ⟨hout k (Nat.le_refl _) hkl, o, by simpa using ho, fun e he hb => ?_⟩
    have hlt := ok.back k o ho e (by simpa using he) hb
    have := hin e.on hlt
    simp only [Array.getD_eq_getD_getElem?] at this ⊢
    rw [Array.getElem?_eq_getElem (by omega)] at this ⊢
    simpa using this
   refine ⟨fun h0 => (by rw [h0] at hkready; cases hkready), fun i hi => ?_⟩
   obtain rfl := hready i hi
   have hdrop : l.drop i = o :: l.drop (i + 1) := by
    rw [List.drop_eq_getElem_cons hkl]
    have := (List.getElem?_eq_some_iff.1 ho).2
    rw [this]
   rw [hdrop] at h
   unfold wpList at h
   unfold wpOp
   have hoA : l.toArray[i]? = some o := by simpa using ho
   rw [hoA]
   have nxt : ∀ a' w', wpList P l.toArray (low n F Q) (l.drop (i + 1)) a' w' → wpAny P .any l.toArray (low n F Q) fuel (listed.setIfInBounds i true) a' w' := by
    intro a' w' h'
    refine ih (i + 1) (listed.setIfInBounds i true) a' w' (by omega) (by omega) (by simp [hsz]) ?_ ?_ h'
    ·intro j hj
     simp only [Array.getD_eq_getD_getElem?, Array.getElem?_setIfInBounds]
     by_cases hij : i = j
     ·subst hij; simp [hsz, hkl]
     ·simp only [hij, if_false]
      have := hin j (by omega)
      simpa [Array.getD_eq_getD_getElem?] using this
    ·intro j hj hjl
     simp only [Array.getD_eq_getD_getElem?, Array.getElem?_setIfInBounds]
     have hij : ¬ i = j := by omega
     simp only [hij, if_false]
     have := hout j (by omega) hjl
     simpa [Array.getD_eq_getD_getElem?] using this
   show (if Region.wanted o (yielded l.toArray a.tmps) = true then _ else _)
   split
   ·rename_i hw
    rw [if_pos hw] at h
    exact h.imp (Oper.wp_mono nxt) (fun q => q)
   ·rename_i hw
    rw [if_neg hw] at h
    exact nxt _ _ h
 -- all of the head is done
 have finish : ∀ (fuel : Nat) (F1 : FH) (le1 : F ≤ F1) (listed : Array Bool) (ex : List Nat) (vals : Nat → Value) (a : Act) (w : World), fuel + ex.length = l.length → listed.size = l.length → ex.Nodup → (∀ i, i ∈ ex ↔ i < m) →
   (∀ i, i < l.length → (listed.getD i true = true ↔ i ∈ ex)) → (∀ i ∈ ex, phi i F1 ((uses.getD i []).map vals) (vals i)) →
   a.tmps.size = n → a.defers = [] → (∀ i ∈ ex, ∀ o : Oper, l[i]? = some o → ∀ s, o.dst = some s → a.tmps.getD s undef = vals i) → (∀ s, (∀ i ∈ ex, ∀ o : Oper, l[i]? = some o → o.dst ≠ some s) → a.tmps.getD s undef = ρ s) →
   Holds F1 (madeG own uses tk vals ex ++ (Bs ++ (restH tb m ex ++ L0))) w → wpAny P .any l.toArray (low n F Q) fuel listed a w := by
  intro fuel F1 le1 listed ex vals a w hf hsz hnd hmem hlist hphi hsize hdef hs1 hs2 HH
  have hperm : ex.Perm (List.range m) := perm_of_mem hnd List.nodup_range (fun i => by rw [hmem]; simp)
  have hlen : ex.length = m := by rw [hperm.length_eq]; simp
  rw [restH_nil (fun i hi => (hmem i).2 hi), List.nil_append] at HH
  have hX := hend vals F1 le1 (fun i hi => hphi i ((hmem i).2 hi))
  have hone : ∀ (i j : Nat) (o q : Oper), (l.take m)[i]? = some o → (l.take m)[j]? = some q → ∀ d, o.dst = some d → q.dst = some d → i = j := by
   intro i j o q ho hq d hd hqd
   rw [List.getElem?_take] at ho hq
   split at ho
   ·split at hq
    ·rename_i h1 h2
     exact ok.one i j o q h1 h2 ho hq d hd hqd
    ·cases hq
   ·cases ho
  have rep : Rep n a (canon vals (l.take m) 0 ρ) := by
   refine ⟨hsize, hdef, fun s => ?_⟩
   obtain ⟨c1, c2⟩ := canon_get vals (l.take m) 0 ρ s hone
   by_cases hw : ∃ i o, i < m ∧ l[i]? = some o ∧ o.dst = some s
   ·obtain ⟨i, o, hi, ho, hd⟩ := hw
    rw [hs1 i ((hmem i).2 hi) o ho s hd, c1 i o (by rw [List.getElem?_take, if_pos hi]; exact ho) hd, Nat.zero_add]
   ·rw [hs2 s (fun i hi o ho hd => hw ⟨i, o, (hmem i).1 hi, ho, hd⟩), c2 (fun i o ho hd => by
     rw [List.getElem?_take] at ho
     split at ho
     ·rename_i hi; exact hw ⟨i, o, hi, ho, hd⟩
     ·cases ho)]
  have hsub : Sub (madeG own uses tk vals ex ++ (Bs ++ L0)) (madeG own uses tk vals (List.range m) ++ (Bs ++ L0)) :=
   Sub.append (Sub.perm (madeG_perm hperm)) (Sub.refl _)
  have hwp := wpList_mono (fun _ _ _ => low_le le1) _ _ _ (hX (by
   simp only [opsOk, List.all_eq_true] at cok' ⊢
   exact fun o ho => cok' o (List.mem_of_mem_drop ho)) a w rep (hsub.holds HH))
  exact tailP m fuel listed a w (by omega) (Nat.le_refl _) hsz (fun i hi => (hlist i (by omega)).2 ((hmem i).2 hi)) (fun i hi hil => by
   cases hb : listed.getD i true with
   | false => rfl
   | true => have := (hmem i).1 ((hlist i hil).1 hb); omega) hwp
 -- the head, in any order
 have headP : ∀ (fuel : Nat) (F1 : FH) (le1 : F ≤ F1) (listed : Array Bool) (ex : List Nat) (vals : Nat → Value) (a : Act) (w : World), fuel + ex.length = l.length → listed.size = l.length → ex.Nodup → (∀ i, i ∈ ex → i < m) →
   (∀ i, i < l.length → (listed.getD i true = true ↔ i ∈ ex)) → (∀ i ∈ ex, ∀ j ∈ clo l i, j ∈ ex) → (∀ i ∈ ex, phi i F1 ((uses.getD i []).map vals) (vals i)) →
   a.tmps.size = n → a.defers = [] → (∀ i ∈ ex, ∀ o : Oper, l[i]? = some o → ∀ s, o.dst = some s → a.tmps.getD s undef = vals i) → (∀ s, (∀ i ∈ ex, ∀ o : Oper, l[i]? = some o → o.dst ≠ some s) → a.tmps.getD s undef = ρ s) →
   Holds F1 (madeG own uses tk vals ex ++ (Bs ++ (restH tb m ex ++ L0))) w → wpAny P .any l.toArray (low n F Q) fuel listed a w := by
  intro fuel
  induction fuel with
  | zero =>
   intro F1 le1 listed ex vals a w hf hsz hnd hlt hlist hdown hphi hsize hdef hs1 hs2 HH
   have hall : ∀ i, i ∈ ex ↔ i < m := by
    intro i
    refine ⟨hlt i, fun hi => ?_⟩
    rcases Classical.em (i ∈ ex) with h' | h'
    ·exact h'
    ·have := nodup_lt m (i :: ex) (List.nodup_cons.2 ⟨h', hnd⟩) (fun k hk => by
      rcases List.mem_cons.1 hk with rfl | hk
      ·exact hi
      ·exact hlt k hk)
     simp at this
     omega
   exact finish 0 F1 le1 listed ex vals a w hf hsz hnd hall hlist hphi hsize hdef hs1 hs2 HH
  | succ fuel ih =>
   intro F1 le1 listed ex vals a w hf hsz hnd hlt hlist hdown hphi hsize hdef hs1 hs2 HH
   by_cases hcov : ∀ i, i < m → i ∈ ex
   ·exact finish (fuel + 1) F1 le1 listed ex vals a w hf hsz hnd (fun i => ⟨hlt i, hcov i⟩) hlist hphi hsize hdef hs1 hs2 HH
   -- an operation that is ready: what stands ahead of it is done
   have ahead : ∀ i ∈ Region.ready .any l.toArray listed, i < l.length ∧ i ∉ ex ∧ ∀ j ∈ clo l i, j ∈ ex := by
    intro i hi
    obtain ⟨hun, o, ho, hall⟩ := mem_ready.1 hi
    have ho' : l[i]? = some o := by simpa using ho
    have hil : i < l.length := (List.getElem?_eq_some_iff.1 ho').1
    refine ⟨hil, fun hm => ?_, fun j hj => ?_⟩
    ·rw [(hlist i hil).2 hm] at hun; cases hun
    ·obtain ⟨e, he, hb, hlt', hor⟩ := mem_clo ho' hj
     have hl := hall e (by simpa using he) hb
     have hex : e.on ∈ ex := by
      refine (hlist e.on (by omega)).1 ?_
      simp only [Array.getD_eq_getD_getElem?] at hl ⊢
      rw [Array.getElem?_eq_getElem (by omega)] at hl ⊢
      simpa using hl
     rcases hor with rfl | hj'
     ·exact hex
     ·exact hdown _ hex _ hj'
   have small : ∀ i ∈ Region.ready .any l.toArray listed, i < m := by
    intro i hi
    obtain ⟨hil, _, hc⟩ := ahead i hi
    rcases Nat.lt_or_ge i m with h' | h'
    ·exact h'
    ·exact absurd (fun j hj => hc j (ok.tail i h' hil j (by omega))) hcov
   refine ⟨fun h0 => ?_, fun i hi => ?_⟩
   · -- not all is done, so something is ready: the least that is not listed
    exfalso
    apply hcov
    intro i
    induction i using Nat.strongRecOn with
    | _ i ihs =>
     intro him
     rcases Classical.em (i ∈ ex) with h' | h'
     ·exact h'
     ·exfalso
      have hil : i < l.length := by omega
      have : i ∈ Region.ready .any l.toArray listed := by
       refine mem_ready.2 ⟨?_, l[i], by simp [hil], fun e he hb => ?_⟩
       ·cases hb : listed.getD i true with
        | false => rfl
        | true => exact absurd ((hlist i hil).1 hb) h'
       ·have hlt' := ok.back i l[i] (List.getElem?_eq_getElem hil) e (by simpa using he) hb
        have := (hlist e.on (by omega)).2 (ihs e.on hlt' (by omega))
        simp only [Array.getD_eq_getD_getElem?] at this ⊢
        rw [Array.getElem?_eq_getElem (by omega)] at this ⊢
        simpa using this
      rw [h0] at this
      cases this
   ·obtain ⟨hil, hnex, hclo⟩ := ahead i hi
    have him := small i hi
    obtain ⟨o, ho⟩ : ∃ o, l[i]? = some o := ⟨l[i], List.getElem?_eq_getElem hil⟩
    have hG := stepsT_get (l.take m) 0 hstep i o (by rw [List.getElem?_take, if_pos him]; exact ho) vals F1 (madeW own uses tk vals i ex ++ (restH tb m (i :: ex) ++ L0)) le1 (fun j hj => hphi j (hclo j (ok.cls i hil j (by simpa using hj))))
    rw [Nat.zero_add] at hG
    have H2 : Holds F1 (takenBy own uses tk vals i ++ (tb i ++ (Bs ++ (madeW own uses tk vals i ex ++ (restH tb m (i :: ex) ++ L0))))) w :=
     Sub.holds (Sub.perm (permH (madeG_split (own := own) (uses := uses) (vals := vals) hnd (tk3 i him) (fun j hj => hclo j (tk1 i him j hj)) (fun j hj k hk e => hnex (by rw [← tk2 k i (hlt k hk) him j e hj]; exact hk))) (restH_split him hnex))) HH
    have hone : ∀ (k j : Nat) (o q : Oper), (l.take i)[k]? = some o → (l.take i)[j]? = some q → ∀ d, o.dst = some d → q.dst = some d → k = j := by
     intro k j o q ho hq d hd hqd
     rw [List.getElem?_take] at ho hq
     split at ho
     ·split at hq
      ·rename_i h1 h2
       exact ok.one k j o q (by omega) (by omega) ho hq d hd hqd
      ·cases hq
     ·cases ho
    have slot : ∀ s ∈ o.looksAt l.toArray, a.tmps.getD s undef = canon vals (l.take i) 0 ρ s := by
     intro s hs
     obtain ⟨c1, c2⟩ := canon_get vals (l.take i) 0 ρ s hone
     by_cases hw : ∃ j q, j < m ∧ l[j]? = some q ∧ q.dst = some s
     ·obtain ⟨j, q, hj, hq, hd⟩ := hw
      rcases ok.read i j o q him hj ho hq s hs hd with ⟨hjc, hji⟩ | ⟨hic, hij⟩
      ·rw [hs1 j (hclo j hjc) q hq s hd, c1 j q (by rw [List.getElem?_take, if_pos hji]; exact hq) hd, Nat.zero_add]
      ·rw [hs2 s (fun k hk q2 hq2 hd2 => by
        obtain rfl := ok.one k j q2 q (hlt k hk) hj hq2 hq s hd2 hd
        exact hnex (hdown k hk i hic)), c2 (fun k q2 hq2 hd2 => by
        rw [List.getElem?_take] at hq2
        split at hq2
        ·rename_i hk
         have := ok.one k j q2 q (by omega) hj hq2 hq s hd2 hd
         omega
        ·cases hq2)]
     ·rw [hs2 s (fun j hj q hq hd => hw ⟨j, q, hlt j hj, hq, hd⟩), c2 (fun j q hq hd => by
       rw [List.getElem?_take] at hq
       split at hq
       ·rename_i hj; exact hw ⟨j, q, by omega, hq, hd⟩
       ·cases hq)]
    have hev : execOp a.eval o = execOp (evO (canon vals (l.take i) 0 ρ)) o := by
     refine execOp_congr o (ok.sel i o ho) fun x hx => ?_
     cases x with
     | tmp t => exact slot t (List.mem_append_left _ (List.mem_filterMap.2 ⟨.tmp t, by simpa using hx, rfl⟩))
     | _ => rfl
    have hus : ∀ j ∈ uses.getD i [], j ≠ i := fun j hj e => hnex (hclo i (e ▸ ok.uses i hil j hj))
    have husx : ∀ k ∈ ex, i ∉ uses.getD k [] := fun k hk hm => hnex (hdown k hk i (ok.uses k (by have := hlt k hk; omega) i hm))
    have hdo : dOk n o.dst = true := by
     simp only [opsOk, List.all_eq_true] at cok'
     exact cok' o (List.mem_of_getElem? ho)
    have next : ∀ v F2 w', F1 ≤ F2 → Holds F2 (own i ((uses.getD i []).map vals) v ++ (Bs ++ (madeW own uses tk vals i ex ++ (restH tb m (i :: ex) ++ L0)))) w' → phi i F2 ((uses.getD i []).map vals) v → wpAny P .any l.toArray (low n F Q) fuel (listed.setIfInBounds i true) (a.put o.dst v) w' := by
     intro v F2 w' le2 H3 hp
     have hi' : (uses.getD i []).map (fun j => if j = i then v else vals j) = (uses.getD i []).map vals := map_upd (fun h => hus i h rfl)
     have hx' : ∀ k ∈ ex, (uses.getD k []).map (fun j => if j = i then v else vals j) = (uses.getD k []).map vals := fun k hk => map_upd (husx k hk)
     have hki : ∀ k ∈ ex, k ≠ i := fun k hk e => hnex (e ▸ hk)
     have hself : (i :: ex).any (fun k => (tk.getD k []).contains i) = false := by
      rw [List.any_eq_false]
      intro k hk hc
      have hc' : i ∈ tk.getD k [] := by simpa using hc
      rcases List.mem_cons.1 hk with rfl | hk
      ·exact clo_irrefl ok (by omega) (tk1 k him k hc')
      ·exact hnex (hdown k hk i (tk1 k (hlt k hk) i hc'))
     have hmade : madeG own uses tk (fun j => if j = i then v else vals j) (i :: ex) = own i ((uses.getD i []).map vals) v ++ madeW own uses tk vals i ex := by
      simp only [madeG, madeW, List.flatMap_cons, hi', if_true]
      rw [hself]
      simp only [Bool.false_eq_true, if_false]
      congr 1
      rw [List.flatMap_def, List.flatMap_def]
      congr 1
      apply List.map_congr_left
      intro k hk
      rw [hx' k hk, if_neg (hki k hk), List.any_cons]
     refine ih F2 (FLe.trans le1 le2) (listed.setIfInBounds i true) (i :: ex) (fun j => if j = i then v else vals j) _ w' (by simp; omega) (by simp [hsz]) (List.nodup_cons.2 ⟨hnex, hnd⟩) ?_ ?_ ?_ ?_ ?_ ?_ ?_ ?_ ?_
     ·intro k hk; rcases List.mem_cons.1 hk with rfl | hk
      ·exact him
      ·exact hlt k hk
     ·intro k hk
      simp only [Array.getD_eq_getD_getElem?, Array.getElem?_setIfInBounds, List.mem_cons]
      by_cases hik : i = k
      ·subst hik; simp [hsz, hil]
      ·have := hlist k hk
       simp only [Array.getD_eq_getD_getElem?] at this
       simp only [hik, if_false, this]
       constructor
       ·exact fun h => .inr h
       ·rintro (rfl | h)
        ·exact absurd rfl hik
        ·exact h
     ·intro k hk j hj
      rcases List.mem_cons.1 hk with rfl | hk
      ·exact List.mem_cons_of_mem _ (hclo j hj)
      ·exact List.mem_cons_of_mem _ (hdown k hk j hj)
     ·intro k hk
      rcases List.mem_cons.1 hk with rfl | hk
      ·rw [hi', if_pos rfl]; exact hp
      ·rw [hx' k hk, if_neg (hki k hk)]; exact hmono _ _ _ _ _ le2 (hphi k hk)
     ·cases o.dst <;> simp [Act.put, hsize]
     ·cases o.dst <;> simp [Act.put, hdef]
     ·intro k hk q hq s hd
      rcases List.mem_cons.1 hk with rfl | hk
      ·rw [ho] at hq; cases hq
       rw [if_pos rfl, hd]
       have hsn : s < n := by rw [hd] at hdo; exact Nat.le_of_ble_eq_true hdo
       simp [Act.put, Array.getD_eq_getD_getElem?, Array.getElem?_setIfInBounds, hsize, hsn]
      ·rw [if_neg (hki k hk)]
       have hne : o.dst ≠ some s := fun e => hki k hk (ok.one k i q o (hlt k hk) him hq ho s hd e)
       have := hs1 k hk q hq s hd
       cases hod : o.dst with
       | none => simpa [Act.put] using this
       | some d =>
        have hds : d ≠ s := fun e => hne (by rw [hod, e])
        simp only [Act.put, Array.getD_eq_getD_getElem?, Array.getElem?_setIfInBounds_ne hds] at this ⊢
        exact this
     ·intro s hno
      have hne : o.dst ≠ some s := hno i List.mem_cons_self o ho
      have := hs2 s (fun k hk q hq => hno k (List.mem_cons_of_mem _ hk) q hq)
      cases hod : o.dst with
      | none => simpa [Act.put] using this
      | some d =>
       have hds : d ≠ s := fun e => hne (by rw [hod, e])
       simp only [Act.put, Array.getD_eq_getD_getElem?, Array.getElem?_setIfInBounds_ne hds] at this ⊢
       exact this
     ·rw [hmade]
      refine Sub.holds (Sub.perm ?_) H3
      rw [List.append_assoc]
      exact List.Perm.append_left _ perm3
    have opwp : XOp P o (canon vals (l.take i) 0 ρ) F1 (takenBy own uses tk vals i ++ (tb i ++ (Bs ++ (madeW own uses tk vals i ex ++ (restH tb m (i :: ex) ++ L0))))) (fun v F' L' => phi i F' ((uses.getD i []).map vals) v ∧ L' = own i ((uses.getD i []).map vals) v ++ (Bs ++ (madeW own uses tk vals i ex ++ (restH tb m (i :: ex) ++ L0)))) →
      o.wp P a w (wpAny P .any l.toArray (low n F Q) fuel (listed.setIfInBounds i true)) (low n F Q) := by
     intro hop
     unfold Oper.wp
     rw [hev]
     rcases hop w H2 with ⟨v, w', F', L', h1, h4, h3, hp, rfl⟩ | ⟨w', F', L', h1, h4, h3, hp, rfl⟩ | ⟨f, args, w', h1, h2⟩
     ·rw [h1]; exact next v F' w' h4 h3 hp
     ·rw [h1]; exact next undef F' w' h4 h3 hp
     ·rw [h1]
      refine h2.mono fun e w'' ⟨v, F', L', he, h4, hH, hk⟩ => ?_
      obtain ⟨hp, rfl⟩ := hk
      subst he
      exact next v F' w'' h4 hH hp
    unfold wpOp
    have hoA : l.toArray[i]? = some o := by simpa using ho
    rw [hoA]
    show (if Region.wanted o (yielded l.toArray a.tmps) = true then _ else _)
    unfold XG at hG
    cases hg : o.guard with
    | none =>
     rw [hg] at hG
     rw [if_pos (by simp [Region.wanted, hg])]
     exact .inl (opwp hG)
    | some gw =>
     obtain ⟨j, want⟩ := gw
     rw [hg] at hG
     obtain ⟨t, ht, ⟨b, hv, hif⟩ | ⟨hv, hif⟩⟩ := hG
     ·have hy : yielded l.toArray a.tmps j = some b := by
       unfold yielded
       rw [ht]
       have hts := slot t (List.mem_append_right _ (by simp only [hg]; simpa using ht))
       rw [hv, Array.getD_eq_getD_getElem?] at hts
       cases hx : a.tmps[t]? with
       | none => rw [hx] at hts; simp [undef] at hts
       | some x => rw [hx] at hts; simp at hts; subst hts; simp [hx]
      by_cases hb : b = want
      ·rw [if_pos hb] at hif
       rw [if_pos (by simp [Region.wanted, hg, hy, hb])]
       exact .inl (opwp hif)
      ·rw [if_neg hb] at hif
       rw [if_neg (by simp [Region.wanted, hg, hy, hb])]
       obtain ⟨hp, hL'⟩ := hif
       exact next undef F1 w (FLe.refl _) (by rw [← hL']; exact H2) hp
     ·have hy : yielded l.toArray a.tmps j = none := by
       unfold yielded
       rw [ht]
       have hts := slot t (List.mem_append_right _ (by simp only [hg]; simpa using ht))
       rw [hv, Array.getD_eq_getD_getElem?] at hts
       cases hx : a.tmps[t]? with
       | none => simp [hx]
       | some x => rw [hx] at hts; simp at hts; subst hts; simp [hx, undef]
      rw [if_neg (by simp [Region.wanted, hg, hy])]
      obtain ⟨hp, hL'⟩ := hif
      exact next undef F1 w (FLe.refl _) (by rw [← hL']; exact H2) hp
 refine headP l.toArray.size F (FLe.refl F) (Array.replicate l.toArray.size false) [] (fun _ => undef) a w0 (by simp) (by simp) List.nodup_nil (by simp) ?_ (by simp) (by simp) r.size r.defers (by simp) (fun s _ => r.get s) H1
 intro i hi
 simp only [Array.getD_eq_getD_getElem?, Array.getElem?_replicate]
 simp [hi]
theorem XA.drawG {P : Program} {n : Nat} {Q : QX} {ρ : Env} {F : FH} {L : List HP} {l : List Oper} (Bs L0 : List HP) (m : Nat) (uses cls tk : List (List Nat)) (phi : Nat → FH → List Value → Value → Prop) (own : Nat → List Value → Value → List HP)
  (hL : L = Bs ++ L0) (hm : Nat.ble m l.length = true) (hok : drawOk l m uses cls = true) (htk : takeOk l m tk = true)
  (hmono : ∀ i F F' us v, F ≤ F' → phi i F us v → phi i F' us v)
  (hstep : stepsG P l ρ F Bs phi own uses cls tk (l.take m) 0)
  (hend : ∀ (vals : Nat → Value) (F1 : FH), F ≤ F1 → (∀ i, i < m → phi i F1 ((uses.getD i []).map vals) (vals i)) → XL P n l.toArray (l.drop m) Q (canon vals (l.take m) 0 ρ) F1 (madeG own uses tk vals (List.range m) ++ (Bs ++ L0))) :
  XA P n l Q ρ F L := by
 refine XA.drawH Bs L0 m uses cls tk phi own (fun _ => []) ?_ hm hok htk hmono (stepsG.toT _ _ hstep) hend
 rw [hL]
 have h : ∀ l : List Nat, l.flatMap (fun _ => ([] : List HP)) = [] := by
  intro l
  induction l with
  | nil => rfl
  | cons a l ih => simp
 rw [h, List.nil_append]
end Go.Proofs.Ytcdjpapjjoldeaa.X
namespace Go.Proofs.Ytcdjpapjjoldeaa.M
structure Mgu (ar A C : List Int) (b : RowL) : Prop where
 ok : BOk ar b
 iff : ∀ θ, GoodS ar θ → (SatB b θ ↔ ap θ A = ap θ C)
theorem Mgu.of {ar A C : List Int} {b : RowL} (h : Solves ar (List.replicate 48 []) b (fun θ => ap θ A = ap θ C)) : Mgu ar A C b :=
 ⟨h.ok, fun θ g => by rw [h.iff θ g]; exact ⟨fun x => x.2, fun x => ⟨SatB.nils, x⟩⟩⟩
section
variable {ar A C t s : List Int} {b1 b2 : RowL} {σ1 σ2 : Sbs} {n m : Int}
theorem Mgu.into (h1 : Mgu ar A C b1) (s1 : Sol b1 σ1) (h2 : Mgu ar A C b2) (s2 : Sol b2 σ2) : ap σ2 (ap σ1 t) = ap σ2 t := by
 have g2 := s2.good h2.ok
 exact s1.most_t h1.ok g2 ((h1.iff σ2 g2).2 ((h2.iff σ2 g2).1 s2.sat))
def hd1 (σ : Sbs) (n : Int) : Int := (σ n).getD 0 0
theorem Mgu.one (h1 : Mgu ar A C b1) (s1 : Sol b1 σ1) (h2 : Mgu ar A C b2) (s2 : Sol b2 σ2) (hn : n ∈ ap σ1 t) : σ2 n = [hd1 σ2 n] := by
 have g1 := s1.good h1.ok
 have g2 := s2.good h2.ok
 have e1 : (ap σ2 (ap σ1 t)).length = (ap σ2 t).length := congrArg _ (h1.into s1 h2 s2)
 have e2 : (ap σ1 (ap σ2 t)).length = (ap σ1 t).length := congrArg _ (h2.into s2 h1 s1)
 have l1 := g1.len (t := ap σ2 t)
 have l2 := g2.len_mem hn
 have l3 := g2.pos (x := n)
 have h : (σ2 n).length = 1 := by omega
 unfold hd1
 match hs : σ2 n, h with
 | [y], _ => rfl
theorem ap_map (h : ∀ n ∈ t, σ1 n = [hd1 σ1 n]) : ap σ1 t = t.map (hd1 σ1) := by
 induction t with
 | nil => rfl
 | cons x t ih => rw [ap_cons, h x (by simp), ih (fun n hn => h n (by simp [hn]))]; rfl
theorem Mgu.map (h1 : Mgu ar A C b1) (s1 : Sol b1 σ1) (h2 : Mgu ar A C b2) (s2 : Sol b2 σ2) : ap σ2 t = (ap σ1 t).map (hd1 σ2) := by
 rw [← h1.into s1 h2 s2, ap_map fun n hn => h1.one s1 h2 s2 hn]
theorem map_back {f g : Int → Int} : ∀ {l : List Int}, (l.map f).map g = l → ∀ n ∈ l, g (f n) = n
 | [], _, n, hn => by cases hn
 | x :: l, h, n, hn => by
  simp only [List.map_cons, List.cons.injEq] at h
  rcases List.mem_cons.1 hn with rfl | hn
  ·exact h.1
  ·exact map_back h.2 n hn
theorem Mgu.back (h1 : Mgu ar A C b1) (s1 : Sol b1 σ1) (h2 : Mgu ar A C b2) (s2 : Sol b2 σ2) (hn : n ∈ ap σ1 t) : hd1 σ1 (hd1 σ2 n) = n := by
 have e : ((ap σ1 t).map (hd1 σ2)).map (hd1 σ1) = ap σ1 t := by rw [← h1.map s1 h2 s2, ← h2.map s2 h1 s1]
 exact map_back e n hn
theorem hd1_sym (s : Sol b1 σ1) (hn : 0 ≤ n) : hd1 σ1 n = n := by unfold hd1; rw [s.sym hn]; rfl
theorem Mgu.neg (h1 : Mgu ar A C b1) (s1 : Sol b1 σ1) (h2 : Mgu ar A C b2) (s2 : Sol b2 σ2) (hn : n ∈ ap σ1 t) : hd1 σ2 n < 0 ↔ n < 0 := by
 constructor
 ·intro h
  rcases Int.lt_or_le n 0 with h0 | h0
  ·exact h0
  ·rw [hd1_sym s2 h0] at h; omega
 ·intro h
  rcases Int.lt_or_le (hd1 σ2 n) 0 with h0 | h0
  ·exact h0
  ·have := h1.back s1 h2 s2 hn
   rw [hd1_sym s1 h0] at this; omega
end
def orderGo : List Int → List Int → List Int
 | s, [] => s
 | s, n :: t => orderGo (if n < 0 ∧ n ∉ s then s ++ [n] else s) t
def orderL (t : List Int) : List Int := orderGo [] t
def byL (o t : List Int) : List Int := t.map fun n => if n < 0 ∧ n ∈ o then -1 - indexZ o n else n
section
variable {o s t : List Int} {f g : Int → Int} {n : Int} {k : Nat}
theorem mem_orderGo : ∀ {t s : List Int} {n : Int}, n ∈ orderGo s t ↔ n ∈ s ∨ (n < 0 ∧ n ∈ t)
 | [], s, n => by simp [orderGo]
 | x :: t, s, n => by
  rw [orderGo, mem_orderGo]
  by_cases h : x < 0 ∧ x ∉ s
  ·rw [if_pos h]
   constructor
   ·rintro (h1 | h1)
    ·rcases List.mem_append.1 h1 with h1 | h1
     ·exact .inl h1
     ·rw [List.mem_singleton.1 h1]; exact .inr ⟨h.1, by simp⟩
    ·exact .inr ⟨h1.1, by simp [h1.2]⟩
   ·rintro (h1 | ⟨h0, h1⟩)
    ·exact .inl (by simp [h1])
    ·rcases List.mem_cons.1 h1 with rfl | h1
     ·exact .inl (by simp)
     ·exact .inr ⟨h0, h1⟩
  ·rw [if_neg h]
   constructor
   ·rintro (h1 | h1)
    ·exact .inl h1
    ·exact .inr ⟨h1.1, by simp [h1.2]⟩
   ·rintro (h1 | ⟨h0, h1⟩)
    ·exact .inl h1
    ·rcases List.mem_cons.1 h1 with rfl | h1
     ·exact .inl (Classical.not_not.1 fun hc => h ⟨h0, hc⟩)
     ·exact .inr ⟨h0, h1⟩
theorem mem_orderL : n ∈ orderL t ↔ n < 0 ∧ n ∈ t := by unfold orderL; rw [mem_orderGo]; simp
theorem orderGo_map : ∀ {t s : List Int}, (∀ n ∈ t, f n < 0 ↔ n < 0) → (∀ n ∈ t, g (f n) = n) → (∀ n ∈ s, g (f n) = n) → orderGo (s.map f) (t.map f) = (orderGo s t).map f
 | [], s, _, _, _ => rfl
 | x :: t, s, h1, h2, h3 => by
  rw [List.map_cons, orderGo, orderGo]
  have hm : f x ∈ s.map f ↔ x ∈ s := by
   constructor
   ·intro h
    obtain ⟨y, hy, e⟩ := List.mem_map.1 h
    have := congrArg g e
    rw [h3 y hy, h2 x (by simp)] at this
    exact this ▸ hy
   ·exact List.mem_map_of_mem
  have hc : (f x < 0 ∧ f x ∉ s.map f) ↔ (x < 0 ∧ x ∉ s) := by rw [h1 x (by simp), hm]
  by_cases h : x < 0 ∧ x ∉ s
  ·rw [if_pos h, if_pos (hc.2 h), show s.map f ++ [f x] = (s ++ [x]).map f from by simp]
   refine orderGo_map (fun n hn => h1 n (by simp [hn])) (fun n hn => h2 n (by simp [hn])) fun n hn => ?_
   rcases List.mem_append.1 hn with hn | hn
   ·exact h3 n hn
   ·rw [List.mem_singleton.1 hn]; exact h2 x (by simp)
  ·rw [if_neg h, if_neg (fun k => h (hc.1 k))]
   exact orderGo_map (fun n hn => h1 n (by simp [hn])) (fun n hn => h2 n (by simp [hn])) h3
theorem index_map {n : Int} : ∀ {s : List Int}, (∀ m ∈ s, g (f m) = m) → g (f n) = n → (s.map f).findIdx? (fun x => decide (x = f n)) = s.findIdx? (fun x => decide (x = n))
 | [], _, _ => rfl
 | x :: s, h, h2 => by
  simp only [List.map_cons, List.findIdx?_cons]
  have : (f x = f n) ↔ x = n := ⟨fun e => by have := congrArg g e; rwa [h x (by simp), h2] at this, fun e => by rw [e]⟩
  rw [show (decide (f x = f n)) = decide (x = n) from decide_eq_decide.2 this, index_map (fun m hm => h m (by simp [hm])) h2]
theorem byL_map (h1 : ∀ n ∈ t, f n < 0 ↔ n < 0) (h0 : ∀ n, 0 ≤ n → f n = n) (h2 : ∀ n ∈ t, g (f n) = n) (h3 : ∀ n ∈ o, g (f n) = n) (ho : ∀ n ∈ t, n < 0 → n ∈ o) : byL (o.map f) (t.map f) = byL o t := by
 unfold byL
 rw [List.map_map]
 refine List.map_congr_left fun n hn => ?_
 simp only [Function.comp]
 rcases Int.lt_or_le n 0 with hneg | hpos
 ·have hm := ho n hn hneg
  rw [if_pos ⟨(h1 n hn).2 hneg, List.mem_map_of_mem hm⟩, if_pos ⟨hneg, hm⟩]
  unfold indexZ
  rw [index_map h3 (h2 n hn)]
 ·rw [h0 n hpos, if_neg (by omega), if_neg (by omega)]
end
abbrev PkT := List Int × List Int × List Int × Int × Int × Int
def P0 : PkT := ([], [], [], 0, 0, 0)
abbrev RulesT := List (List Int × List Int)
abbrev Lr (rs : RulesT) (o : Nat) : List Int := (rs.getD o ([], [])).1
abbrev Rr (rs : RulesT) (o : Nat) : List Int := (rs.getD o ([], [])).2
def leftT (ar : List Int) (rs : RulesT) (o p u : Nat) : List Int := (Lr rs o).take p ++ awayL (Rr rs u) ++ (Lr rs o).drop (endN ar (Lr rs o) p)
open Classical in
noncomputable def meetB (ar : List Int) (rs : RulesT) (o p u : Nat) : Bool := decide (¬ (o = u ∧ p = 0) ∧ ∃ θ, GoodS ar θ ∧ ap θ (sub ar (Lr rs o) p) = ap θ (awayL (Lr rs u)))
def peakOf (ar : List Int) (rs : RulesT) (o p u : Nat) (σ : Sbs) : Option PkT :=
 let top := ap σ (Lr rs o); let left := ap σ (leftT ar rs o p u); let right := ap σ (Rr rs o); let od := orderL top
 if top.length ≤ 60 ∧ left.length ≤ 60 ∧ right.length ≤ 60 ∧ od.length ≤ 24 then some (byL od top, byL od left, byL od right, (p : Int), (u : Int), (o : Int)) else none
abbrev MguP (ar : List Int) (rs : RulesT) (o p u : Nat) (b : RowL) : Prop := Mgu ar (sub ar (Lr rs o) p) (awayL (Lr rs u)) b
open Classical in
noncomputable def peakF (ar : List Int) (rs : RulesT) (o p u : Nat) : Option PkT :=
 if h : ∃ σ b, MguP ar rs o p u b ∧ Sol b σ then peakOf ar rs o p u (Classical.choose h) else none
section
variable {ar : List Int} {rs : RulesT} {o p u : Nat} {b b1 b2 : RowL} {σ σ1 σ2 : Sbs} {n : Int}
theorem rule_vars (hs : sysOk ar rs = true) (ho : o < rs.length) : ∀ n ∈ Rr rs o, n < 0 → n ∈ Lr rs o := by
 intro n hn h0
 have h := ruleOk_iff.1 ((sysOk_iff.1 hs).2.2 o ho)
 exact h.vars n hn h0
theorem three_parts {l : List Int} (hl : TermW ar l) (hp : p < l.length) : l = l.take p ++ sub ar l p ++ l.drop (endN ar l p) := by
 have := wf_sub hl hp
 rw [List.append_assoc, ← this, List.take_append_drop]
theorem end_ap {l : List Int} (g : GoodS ar σ) (hl : TermW ar l) (hp : p < l.length) : endN ar (ap σ l) (ap σ (l.take p)).length = (ap σ (l.take p)).length + (ap σ (sub ar l p)).length := by
 have e : ap σ l = ap σ (l.take p) ++ (ap σ (sub ar l p) ++ ap σ (l.drop (endN ar l p))) := by
  have := congrArg (ap σ) (three_parts hl hp)
  rwa [ap_app, ap_app, List.append_assoc] at this
 unfold endN endAt
 rw [e, List.drop_left, endGo_more (ap_wf g (hl.sub hp).wf)]
 rfl
theorem put_ap {l u' : List Int} (g : GoodS ar σ) (hl : TermW ar l) (hp : p < l.length) : (ap σ l).take (ap σ (l.take p)).length ++ u' ++ (ap σ l).drop (endN ar (ap σ l) (ap σ (l.take p)).length) = ap σ (l.take p) ++ u' ++ ap σ (l.drop (endN ar l p)) := by
 rw [end_ap g hl hp]
 have e : ap σ l = ap σ (l.take p) ++ (ap σ (sub ar l p) ++ ap σ (l.drop (endN ar l p))) := by
  have := congrArg (ap σ) (three_parts hl hp)
  rwa [ap_app, ap_app, List.append_assoc] at this
 rw [e, List.take_left]
 congr 1
 rw [← List.append_assoc, ← List.length_append, List.drop_left]
theorem rule_L (hs : sysOk ar rs = true) (ho : o < rs.length) : termOk ar (Lr rs o) = true := (ruleOk_iff.1 ((sysOk_iff.1 hs).2.2 o ho)).left
theorem nils_no {A C : List Int} (h : ∀ θ, GoodS ar θ → SatB (List.replicate 48 []) θ → ap θ A ≠ ap θ C) : ∀ θ, GoodS ar θ → ap θ A ≠ ap θ C := fun θ g => h θ g SatB.nils
end
def rnL : List Int → RowL → RowL
 | _, [] => []
 | s, t :: r => byL (orderGo s t) t :: rnL (orderGo s t) r
section
variable {s t w ss S : List Int} {ts os : RowL} {n : Int} {j k : Nat}
theorem orderGo_app : ∀ {a b s : List Int}, orderGo s (a ++ b) = orderGo (orderGo s a) b
 | [], b, s => rfl
 | x :: a, b, s => by rw [List.cons_append, orderGo, orderGo_app, orderGo]
theorem orderGo_pre : ∀ (t s : List Int), ∃ r, orderGo s t = s ++ r
 | [], s => ⟨[], by simp [orderGo]⟩
 | x :: t, s => by
  rw [orderGo]
  obtain ⟨r, h⟩ := orderGo_pre t (if x < 0 ∧ x ∉ s then s ++ [x] else s)
  split at h
  ·rename_i hx
   rw [if_pos hx]
   exact ⟨x :: r, by rw [h]; simp⟩
  ·rename_i hx
   rw [if_neg hx]
   exact ⟨r, h⟩
theorem index_pre {r : List Int} (h : n ∈ s) : indexZ (s ++ r) n = indexZ s n := by
 unfold indexZ
 rw [List.findIdx?_append]
 cases hf : s.findIdx? (fun x => decide (x = n)) with
 | some i => rfl
 | none =>
  rw [List.findIdx?_eq_none_iff] at hf
  have := hf n h
  simp at this
theorem index_new {r : List Int} (h : n ∉ s) : indexZ (s ++ n :: r) n = (s.length : Int) := by
 refine indexZ_some (k := s.length) (by simp) (by simp [List.getD]) fun i hi e => h ?_
 rw [List.getD_eq_getElem?_getD, List.getElem?_append_left hi] at e
 exact mem_of_getD hi (by rw [List.getD_eq_getElem?_getD]; exact e)
theorem orderGo_take (hj : j < t.length) : orderGo s (t.take (j + 1)) = if t.getD j 0 < 0 ∧ t.getD j 0 ∉ orderGo s (t.take j) then orderGo s (t.take j) ++ [t.getD j 0] else orderGo s (t.take j) := by
 rw [take_succ_getD 0 hj, orderGo_app]
 simp only [orderGo]
theorem orderGo_len (t s : List Int) : (orderGo s t).length ≤ s.length + t.length := by
 induction t generalizing s with
 | nil => simp [orderGo]
 | cons x t ih =>
  rw [orderGo]
  have := ih (if x < 0 ∧ x ∉ s then s ++ [x] else s)
  split at this
  ·rw [List.length_append, List.length_singleton] at this; rw [List.length_cons]; rename_i h; rw [if_pos h]; omega
  ·rw [List.length_cons]; rename_i h; rw [if_neg h]; omega
def RnAt (s t ss w : List Int) (j : Nat) : Prop := ss = orderGo s (t.take j) ∧ w = byL (orderGo s t) (t.take j) ++ t.drop j
theorem RnAt.start : RnAt s t s t 0 := ⟨rfl, by simp [byL]⟩
theorem RnAt.len (h : RnAt s t ss w j) : w.length = t.length := by rw [h.2]; simp [byL]; omega
theorem RnAt.at (h : RnAt s t ss w j) (hj : j < t.length) : w.getD j 0 = t.getD j 0 := by
 have hl : (byL (orderGo s t) (t.take j)).length = j := by simp [byL]; omega
 rw [h.2, List.getD_eq_getElem?_getD, List.getElem?_append_right (by omega), hl, Nat.sub_self, List.getElem?_drop, List.getD_eq_getElem?_getD, Nat.add_zero]
theorem RnAt.put (h : RnAt s t ss w j) (hj : j < t.length) (x : Int) (hx : x = if t.getD j 0 < 0 ∧ t.getD j 0 ∈ orderGo s t then -1 - indexZ (orderGo s t) (t.getD j 0) else t.getD j 0) : w.set j x = byL (orderGo s t) (t.take (j + 1)) ++ t.drop (j + 1) := by
 have hl : (byL (orderGo s t) (t.take j)).length = j := by simp [byL]; omega
 have e : byL (orderGo s t) (t.take (j + 1)) = byL (orderGo s t) (t.take j) ++ [x] := by
  unfold byL; rw [take_succ_getD 0 hj, List.map_append, hx]; rfl
 rw [e, List.append_assoc, h.2, List.set_append_right _ _ (by omega), hl, Nat.sub_self, drop_cons hj]; rfl
theorem set_self {w : List Int} {x : Int} (hj : j < w.length) (h : w.getD j 0 = x) : w.set j x = w := by
 subst h
 refine List.ext_getElem (by simp) fun i h1 h2 => ?_
 rw [List.getElem_set]
 split
 ·rename_i e; subst e; simp [List.getD, hj]
 ·rfl
theorem RnAt.sym (h : RnAt s t ss w j) (hj : j < t.length) (h0 : 0 ≤ t.getD j 0) : RnAt s t ss w (j + 1) := by
 refine ⟨by rw [orderGo_take hj, if_neg (by omega)]; exact h.1, ?_⟩
 rw [← h.put hj (t.getD j 0) (by rw [if_neg (by omega)]), set_self (by rw [h.len]; exact hj) (h.at hj)]
theorem RnAt.old (h : RnAt s t ss w j) (hj : j < t.length) (h0 : t.getD j 0 < 0) (hi : t.getD j 0 ∈ ss) : RnAt s t ss (w.set j (-1 - indexZ ss (t.getD j 0))) (j + 1) := by
 have hi2 : t.getD j 0 ∈ orderGo s (t.take j) := h.1 ▸ hi
 refine ⟨by rw [orderGo_take hj, if_neg (fun hc => hc.2 hi2)]; exact h.1, h.put hj _ ?_⟩
 obtain ⟨r, hr⟩ := orderGo_pre (t.drop j) (orderGo s (t.take j))
 have e : orderGo s t = ss ++ r := by
  have := congrArg (orderGo s) (List.take_append_drop j t)
  rw [orderGo_app] at this
  rw [← this, hr, h.1]
 rw [if_pos ⟨h0, by rw [e]; exact List.mem_append.2 (.inl hi)⟩, e, index_pre hi]
theorem RnAt.new (h : RnAt s t ss w j) (hj : j < t.length) (h0 : t.getD j 0 < 0) (hi : t.getD j 0 ∉ ss) : RnAt s t (ss ++ [t.getD j 0]) (w.set j (-1 - (ss.length : Int))) (j + 1) := by
 have hi2 : t.getD j 0 ∉ orderGo s (t.take j) := h.1 ▸ hi
 refine ⟨by rw [orderGo_take hj, if_pos ⟨h0, hi2⟩, h.1], h.put hj _ ?_⟩
 obtain ⟨r, hr⟩ := orderGo_pre (t.drop (j + 1)) (orderGo s (t.take (j + 1)))
 have e : orderGo s t = ss ++ t.getD j 0 :: r := by
  have := congrArg (orderGo s) (List.take_append_drop (j + 1) t)
  rw [orderGo_app] at this
  rw [← this, hr, orderGo_take hj, if_pos ⟨h0, hi2⟩, ← h.1]; simp
 rw [if_pos ⟨h0, by rw [e]; simp⟩, e, index_new hi]
theorem RnAt.done (h : RnAt s t ss w j) (hj : j = t.length) : ss = orderGo s t ∧ w = byL (orderGo s t) t := by
 subst hj
 obtain ⟨h1, h2⟩ := h
 rw [List.take_length] at h1 h2
 exact ⟨h1, by rw [h2]; simp⟩
theorem rn_next (hk : k < ts.length) (h : rnL [] ts = os ++ rnL s (ts.drop k)) (h1 : ss = orderGo s (ts.getD k []) ∧ w = byL (orderGo s (ts.getD k [])) (ts.getD k [])) : rnL [] ts = (os ++ [w]) ++ rnL ss (ts.drop (k + 1)) := by
 rw [h, drop_get [] hk, rnL, h1.1, h1.2]; simp
theorem rn_done (hk : k = ts.length) (h : rnL [] ts = os ++ rnL s (ts.drop k)) : rnL [] ts = os := by
 rw [h, hk, List.drop_length]; simp [rnL]
theorem rnL_len : ∀ (ts : RowL) (s : List Int), (rnL s ts).length = ts.length
 | [], _ => rfl
 | t :: r, s => by simp [rnL, rnL_len r]
theorem byL_len : (byL s t).length = t.length := by simp [byL]
theorem indexZ_lt : ∀ {s : List Int} {n : Int}, n ∈ s → 0 ≤ indexZ s n ∧ indexZ s n < (s.length : Int) := by
 intro s n h
 unfold indexZ
 cases hf : s.findIdx? (fun x => decide (x = n)) with
 | some i =>
  have := List.findIdx?_eq_some_iff_getElem.1 hf
  obtain ⟨hi, _⟩ := this
  dsimp only; omega
 | none =>
  rw [List.findIdx?_eq_none_iff] at hf
  have := hf n h
  simp at this
theorem indexZ_le (s : List Int) (n : Int) : -1 ≤ indexZ s n ∧ indexZ s n ≤ (s.length : Int) := by
 by_cases h : n ∈ s
 ·have := indexZ_lt h; omega
 ·have := mt indexZ_mem.1 h
  unfold indexZ at *
  cases hf : s.findIdx? (fun x => decide (x = n)) with
  | none => dsimp only; omega
  | some i => rw [hf] at this; dsimp only at this; omega
theorem orderGo_nodup : ∀ (t s : List Int), s.Nodup → (orderGo s t).Nodup
 | [], s, h => h
 | x :: t, s, h => by
  rw [orderGo]
  refine orderGo_nodup t _ ?_
  split
  ·rename_i hx
   rw [List.nodup_append]
   refine ⟨h, by simp, fun a ha b hb e => hx.2 ?_⟩
   rw [List.mem_singleton.1 hb] at e; exact e ▸ ha
  ·exact h
theorem index_getElem {s : List Int} (h : s.Nodup) {i : Nat} (hi : i < s.length) : indexZ s s[i] = (i : Int) := by
 refine indexZ_some hi (by simp [List.getD, hi]) fun j hj e => ?_
 have hjl : j < s.length := by omega
 have e2 : s[j] = s[i] := by simpa [List.getD, hjl] using e
 exact absurd e2 (List.pairwise_iff_getElem.1 h j i hjl hi hj)
end
section
variable {ar t : List Int} {σ : Sbs} {p : Nat}
theorem W_ge (ho : TermW ar t) : (∀ i, i < t.length → -48 ≤ t.getD i 0) ∧ t.length ≤ 60 := ⟨fun i hi => ho.geD hi, ho.len.2⟩
end
noncomputable def pkF (ar : List Int) (rs : RulesT) (o p u : Nat) : Option PkT := if meetB ar rs o p u = true then peakF ar rs o p u else none
section
variable {ar : List Int} {rs : RulesT} {o p u : Nat} {b : RowL} {σ : Sbs}
theorem resX_eq {t : List Int} (h : resOk σ [] t = true) : resX σ [] t = ap σ t ∧ (ap σ t).length ≤ 60 := by
 refine ⟨by unfold resX; rw [if_pos h]; rfl, ?_⟩
 have := of_decide_eq_true h
 simpa using this
theorem resOk_false {t : List Int} (h : resOk σ [] t = false) : 60 < (ap σ t).length := by
 have := of_decide_eq_false h
 simpa using this
end
end Go.Proofs.Ytcdjpapjjoldeaa.M
namespace Go.Proofs.Ytcdjpapjjoldeaa.X
open Go
end Go.Proofs.Ytcdjpapjjoldeaa.X
namespace Go.Proofs.Ytcdjpapjjoldeaa.M
abbrev Tr := Nat × Nat × Nat
section
variable (ar : List Int) (rs : RulesT)
noncomputable def pkD (m : Tr) : PkT := (pkF ar rs m.1 m.2.1 m.2.2).getD P0
open Classical in
end
section
variable {ar : List Int} {rs : RulesT} {o p u k n : Nat} {ms : List Tr} {os : List PkT} {m : Tr}
def PkI (ar : List Int) (rs : RulesT) (ms : List Tr) (os : List PkT) : Prop := (∀ m ∈ ms, (pkF ar rs m.1 m.2.1 m.2.2).isSome = true) ∧ ms.length ≤ 64 ∧ os = ms.map (pkD ar rs)
theorem PkI.start : PkI ar rs [] [] := ⟨fun _ h => (by cases h), by simp, rfl⟩
theorem PkI.len (h : PkI ar rs ms os) : os.length = ms.length ∧ os.length ≤ 64 := by
 have := h.2.1
 rw [h.2.2, List.length_map]; omega
theorem PkI.next (h : PkI ar rs ms os) (h1 : (pkF ar rs o p u).isSome = true) (h2 : os.length ≠ 64) : PkI ar rs (ms ++ [(o, p, u)]) (os ++ [(pkF ar rs o p u).getD P0]) := by
 obtain ⟨a, b, c⟩ := h
 have hl : os.length = ms.length := by rw [c, List.length_map]
 refine ⟨fun m hm => ?_, by rw [List.length_append, List.length_singleton]; omega, by rw [List.map_append, c]; rfl⟩
 rcases List.mem_append.1 hm with hm | hm
 ·exact a m hm
 ·rw [List.mem_singleton.1 hm]; exact h1
end
end Go.Proofs.Ytcdjpapjjoldeaa.M
namespace Go.Proofs.Ytcdjpapjjoldeaa.X
open Go
abbrev PeakT := List Int × List Int × List Int × Int × Int × Int
def PeakF (F : FH) (es : List Value) (x : PeakT) : Prop := ∃ a0 a1 a2, es = [a0, a1, a2, .int .i64 x.2.2.2.1, .int .i64 x.2.2.2.2.1, .int .i64 x.2.2.2.2.2] ∧ IntsF F a0 x.1 ∧ IntsF F a1 x.2.1 ∧ IntsF F a2 x.2.2.1
theorem PeakF.mono {F F' : FH} (le : F ≤ F') (es : List Value) (x : PeakT) (h : PeakF F es x) : PeakF F' es x := by
 obtain ⟨a0, a1, a2, e, h0, h1, h2⟩ := h
 exact ⟨a0, a1, a2, e, h0.mono le, h1.mono le, h2.mono le⟩
def PeaksF : FH → Value → List PeakT → Prop := SlOf 6 PeakF ([], [], [], 0, 0, 0)
theorem PeaksF.mono {F F' : FH} {v : Value} {xs : List PeakT} (h : PeaksF F v xs) (le : F ≤ F') : PeaksF F' v xs := SlOf.mono (PeakF.mono le) h le
theorem PeaksF.slv {F : FH} {L : List HP} {v : Value} {xs : List PeakT} (h : PeaksF F v xs) : SlV F L v xs.length := SlOf.slv h
theorem PeaksF.isSl {F : FH} {v : Value} {xs : List PeakT} (h : PeaksF F v xs) : IsSl v := by obtain ⟨_, h, _⟩ := h; exact h.isSl
theorem PeaksF.rd {F : FH} {v : Value} {xs : List PeakT} (h : PeaksF F v xs) {i : Nat} (hi : i < xs.length) : ∃ a0 a1 a2, IntsF F a0 (xs.getD i ([], [], [], 0, 0, 0)).1 ∧ IntsF F a1 (xs.getD i ([], [], [], 0, 0, 0)).2.1 ∧ IntsF F a2 (xs.getD i ([], [], [], 0, 0, 0)).2.2.1 ∧ (∀ L j u, ([a0, a1, a2, .int .i64 (xs.getD i ([], [], [], 0, 0, 0)).2.2.2.1, .int .i64 (xs.getD i ([], [], [], 0, 0, 0)).2.2.2.2.1, .int .i64 (xs.getD i ([], [], [], 0, 0, 0)).2.2.2.2.2] : List Value)[j]? = some u → Rd F L (elemA v (i * 6 + j)) u) ∧ True := by
 obtain ⟨es, hl, ⟨a0, a1, a2, rfl, h0, h1, h2⟩, hr⟩ := SlOf.get h hi
 exact ⟨a0, a1, a2, h0, h1, h2, hr, trivial⟩
def PeaksC (F : FH) (cs : List Value) (xs : List PeakT) : Prop := CO 6 PeakF ([], [], [], 0, 0, 0) F cs xs
theorem PeaksC.mono {F F' : FH} {cs : List Value} {xs : List PeakT} (h : PeaksC F cs xs) (le : F ≤ F') : PeaksC F' cs xs := CO.mono (PeakF.mono le) h
theorem PeaksC.snoc {F : FH} {cs : List Value} {xs : List PeakT} {a0 a1 a2 : Value} {y0 : List Int} {y1 : List Int} {y2 : List Int} {y3 : Int} {y4 : Int} {y5 : Int} (h : PeaksC F cs xs) (h0 : IntsF F a0 y0) (h1 : IntsF F a1 y1) (h2 : IntsF F a2 y2) : PeaksC F (cs ++ [a0, a1, a2, .int .i64 y3, .int .i64 y4, .int .i64 y5]) (xs ++ [(y0, y1, y2, y3, y4, y5)]) := CO.snoc h rfl ⟨a0, a1, a2, rfl, h0, h1, h2⟩
theorem PeaksC.get {F : FH} {cs : List Value} {xs : List PeakT} (h : PeaksC F cs xs) {i : Nat} (hi : i < xs.length) : ∃ a0 a1 a2, IntsF F a0 (xs.getD i ([], [], [], 0, 0, 0)).1 ∧ IntsF F a1 (xs.getD i ([], [], [], 0, 0, 0)).2.1 ∧ IntsF F a2 (xs.getD i ([], [], [], 0, 0, 0)).2.2.1 ∧ (∀ j u, ([a0, a1, a2, .int .i64 (xs.getD i ([], [], [], 0, 0, 0)).2.2.2.1, .int .i64 (xs.getD i ([], [], [], 0, 0, 0)).2.2.2.2.1, .int .i64 (xs.getD i ([], [], [], 0, 0, 0)).2.2.2.2.2] : List Value)[j]? = some u → cs[i * 6 + j]? = some u) := by
 obtain ⟨es, hl, ⟨a0, a1, a2, rfl, h0, h1, h2⟩, hr⟩ := CO.get h hi
 exact ⟨a0, a1, a2, h0, h1, h2, hr⟩
def PeakO (e : TypeId) (es : List Value) (x : PeakT) (K : List HP) : Prop := ∃ a b c, es = [a, b, c, .int .i64 x.2.2.2.1, .int .i64 x.2.2.2.2.1, .int .i64 x.2.2.2.2.2] ∧ K = [intsH e a x.1, intsH e b x.2.1, intsH e c x.2.2.1]
abbrev peaksD (e E : TypeId) (v : Value) (xs : List PeakT) : HP := deepH 6 (PeakO e) E v xs
section
variable {e E : TypeId} {F G : FH} {v : Value} {cs : List Value} {xs : List PeakT} {L : List HP}
theorem PeakO.fz (es : List Value) (x : PeakT) (K : List HP) (h : PeakO e es x K) (hz : ∃ l, star K l ∧ ∀ p ∈ l, F.cells p.1 = some p.2) : PeakF F es x := by
 obtain ⟨a, b, c, rfl, rfl⟩ := h
 exact ⟨a, b, c, rfl, intsH.fz (E := e) (frozen_star hz _ (by simp)), intsH.fz (E := e) (frozen_star hz _ (by simp)), intsH.fz (E := e) (frozen_star hz _ (by simp))⟩
theorem peaksD.fz (h : Fz (peaksD e E v xs) F) : PeaksF F v xs := deepH.fz PeakO.fz h
end
def PKJ {ι : Type} (F0 : FH) (e ES T : TypeId) (bw : Nat) (tl : List HP) (I : List ι → List PeakT → Prop) (ms : List ι) (Fy : FH) (Ly : List HP) : Prop :=
 ∃ (sv : Value) (os : List PeakT) (cs : List Value) (Ls : List HP) (m : Nat), IsSl sv ∧ PeaksC Fy cs os ∧ m = os.length ∧ DeepL 6 (PeakO e) cs os Ls ∧ Fresh F0 Fy (star Ls) ∧ I ms os ∧ Ly = cellsH bw [sv] T :: slH ES 6 sv m cs :: tl
theorem PKJ.start {ι : Type} {F0 F : FH} {e ES T : TypeId} {bw : Nat} {tl : List HP} {I : List ι → List PeakT → Prop} {b : Option Addr} (h : I [] []) : PKJ F0 e ES T bw tl I [] F (cellsH bw [.slice b 0 0] T :: slH ES 6 (.slice b 0 0) 0 [] :: tl) :=
 ⟨_, [], [], [], 0, ⟨_, _, _, rfl⟩, CO.nil, rfl, .nil, .nilL, h, rfl⟩
theorem PKJ.mono {ι : Type} {F0 F F' : FH} {e ES T : TypeId} {bw : Nat} {tl L : List HP} {I : List ι → List PeakT → Prop} {ms : List ι} (h : PKJ F0 e ES T bw tl I ms F L) (le : F ≤ F') : PKJ F0 e ES T bw tl I ms F' L :=
 let ⟨sv, ss, cs, Ls, m, h1, h2, h3, h4, h5, h6, h7⟩ := h
 ⟨sv, ss, cs, Ls, m, h1, h2.mono le, h3, h4, h5.mono le, h6, h7⟩
section
variable {P : Program} {n : Nat} {r0 : Option Nat} {d0 : List Deferred} {ops : Array Oper} {l : List Oper} {Q : QX} {ρ : Env} {F : FH} {L : List HP}
end
end Go.Proofs.Ytcdjpapjjoldeaa.X
namespace Go.Proofs.Ytcdjpapjjoldeaa.M
section
variable {t u x : List Int} {b : RowL} {σ : Sbs} {ρ : Int → Nat} {n m : Int} {i : Nat} {sn : List Bool} {td : RowL}
def Mk (sn : List Bool) (m : Int) : Prop := sn.getD (varIx m) false = true
def Hd1 (b : RowL) (n : Int) (sn : List Bool) (y : Int) : Prop := y ≠ n ∧ (y < 0 → lkN b y ≠ [] → Mk sn y)
def Hd (b : RowL) (n : Int) (sn : List Bool) (x : List Int) : Prop := ∀ y ∈ x, Hd1 b n sn y
structure OccI (b : RowL) (σ : Sbs) (n : Int) (t : List Int) (sn : List Bool) (td : RowL) : Prop where
 len : sn.length = 48
 sound : ∀ x ∈ td, n ∈ ap σ x → n ∈ ap σ t
 all : ∀ x, (x = t ∨ ∃ m, m < 0 ∧ Mk sn m ∧ lkN b m ≠ [] ∧ x = lkN b m) → x ∈ td ∨ Hd b n sn x
structure OccJ (b : RowL) (σ : Sbs) (n : Int) (t u : List Int) (i : Nat) (sn : List Bool) (td : RowL) : Prop where
 len : sn.length = 48
 sound : ∀ x ∈ td, n ∈ ap σ x → n ∈ ap σ t
 us : n ∈ ap σ u → n ∈ ap σ t
 all : ∀ x, (x = t ∨ ∃ m, m < 0 ∧ Mk sn m ∧ lkN b m ≠ [] ∧ x = lkN b m) → x ∈ td ∨ Hd b n sn x ∨ x = u
 done : ∀ k, k < i → Hd1 b n sn (u.getD k 0)
theorem Mk.set (hl : sn.length = 48) (hm : m < 0) (hg : -48 ≤ m) (hy : n < 0) : Mk (sn.set (varIx m) true) n ↔ n = m ∨ Mk sn n := set_mark hl hm hg hy
theorem Hd1.mono (h : Hd1 b n sn m) (hl : sn.length = 48) {k : Int} (hk : k < 0) (hg : -48 ≤ k) : Hd1 b n (sn.set (varIx k) true) m := ⟨h.1, fun h0 hb => (Mk.set hl hk hg h0).2 (.inr (h.2 h0 hb))⟩
theorem OccI.start : OccI b σ n t (List.replicate 48 false) [t] :=
 ⟨by simp, fun x hx h => by rw [List.mem_singleton.1 hx] at h; exact h, fun x hx => by
  rcases hx with rfl | ⟨m, h0, hm, _⟩
  ·exact .inl (by simp)
  ·exfalso
   unfold Mk at hm
   simp only [List.getD, List.getElem?_replicate] at hm
   split at hm <;> simp at hm⟩
theorem OccI.pop (h : OccI b σ n t sn td) (hp : 0 < td.length) : OccJ b σ n t (td.getD (td.length - 1) []) 0 sn (td.take (td.length - 1)) := by
 have e : td = td.take (td.length - 1) ++ [td.getD (td.length - 1) []] := by
  have := take_succ_getD (l := td) (k := td.length - 1) ([] : List Int) (by omega)
  rw [Nat.sub_add_cancel hp, List.take_length] at this
  exact this
 have hmem : td.getD (td.length - 1) [] ∈ td := by
  have hlt : td.length - 1 < td.length := by omega
  simp only [List.getD, List.getElem?_eq_getElem hlt, Option.getD_some]
  exact List.getElem_mem hlt
 refine ⟨h.len, fun x hx => h.sound x (List.mem_of_mem_take hx), h.sound _ hmem, fun x hx => ?_, fun k hk => absurd hk (by omega)⟩
 rcases h.all x hx with h1 | h1
 ·rw [e] at h1
  rcases List.mem_append.1 h1 with h1 | h1
  ·exact .inl h1
  ·exact .inr (.inr (List.mem_singleton.1 h1))
 ·exact .inr (.inl h1)
theorem OccJ.skip (h : OccJ b σ n t u i sn td) (hne : u.getD i 0 ≠ n) (hs : 0 ≤ u.getD i 0 ∨ Mk sn (u.getD i 0) ∨ lkN b (u.getD i 0) = []) : OccJ b σ n t u (i + 1) sn td :=
 ⟨h.len, h.sound, h.us, h.all, fun k hk => (Nat.lt_or_ge k i).elim (fun hlt => h.done k hlt) (fun hge => by
  obtain rfl : k = i := by omega
  exact ⟨hne, fun h0 hb => by
   rcases hs with h1 | h1 | h1
   ·omega
   ·exact h1
   ·exact absurd h1 hb⟩)⟩
theorem OccJ.stop (h : OccJ b σ n t u i sn td) (hi : i = u.length) : OccI b σ n t sn td := by
 refine ⟨h.len, h.sound, fun x hx => ?_⟩
 rcases h.all x hx with h1 | h1 | rfl
 ·exact .inl h1
 ·exact .inr h1
 ·refine .inr fun y hy => ?_
  obtain ⟨k, hk, rfl⟩ := List.getElem_of_mem hy
  have := h.done k (by omega)
  simpa [List.getD, hk] using this
end
section
variable {ar A C t w : List Int} {b b1 : RowL} {σ σ1 θ : Sbs} {n z : Int} {l r : RowL}
structure MeetI (ar A C : List Int) (b l r : RowL) : Prop where
 ok : BOk ar b
 same : l.length = r.length
 lw : ∀ x ∈ l, TermW ar x
 rw' : ∀ x ∈ r, TermW ar x
 iff : ∀ θ, GoodS ar θ → (ap θ A = ap θ C ↔ SatB b θ ∧ ∀ i, i < l.length → ap θ (l.getD i []) = ap θ (r.getD i []))
theorem MeetI.start (hA : TermW ar A) (hC : TermW ar C) : MeetI ar A C (List.replicate 48 []) [A] [C] :=
  ⟨BOk.nils, rfl, fun x hx => by rw [List.mem_singleton.1 hx]; exact hA, fun x hx => by rw [List.mem_singleton.1 hx]; exact hC,
   fun θ g => ⟨fun h => ⟨SatB.nils, fun i hi => (by
      have h0 : i = 0 := by have : i < 1 := hi; omega
      rw [h0]; exact h)⟩, fun h => h.2 0 (by simp)⟩⟩
theorem MeetI.done (h : MeetI ar A C b [] r) : Mgu ar A C b := ⟨h.ok, fun θ g => by rw [h.iff θ g]; simp⟩
theorem MeetI.last (h : MeetI ar A C b l r) (hp : 0 < l.length) : TermW ar (l.getD (l.length - 1) []) ∧ TermW ar (r.getD (l.length - 1) []) ∧
  ∀ θ, GoodS ar θ → (ap θ A = ap θ C ↔ (SatB b θ ∧ ∀ i, i < (l.take (l.length - 1)).length → ap θ ((l.take (l.length - 1)).getD i []) = ap θ ((r.take (l.length - 1)).getD i [])) ∧ ap θ (l.getD (l.length - 1) []) = ap θ (r.getD (l.length - 1) [])) := by
 have hlt : l.length - 1 < l.length := by omega
 have hrt : l.length - 1 < r.length := by have := h.same; omega
 have hg : ∀ {x : RowL} {k : Nat}, k < l.length - 1 → (x.take (l.length - 1)).getD k [] = x.getD k [] := fun {x k} hk => by
  rw [List.getD_eq_getElem?_getD, List.getD_eq_getElem?_getD, List.getElem?_take, if_pos hk]
 refine ⟨h.lw _ ?_, h.rw' _ ?_, fun θ g => ?_⟩
 ·simp only [List.getD, List.getElem?_eq_getElem hlt, Option.getD_some]; exact List.getElem_mem hlt
 ·simp only [List.getD, List.getElem?_eq_getElem hrt, Option.getD_some]; exact List.getElem_mem hrt
 ·rw [h.iff θ g, List.length_take, Nat.min_eq_left (by omega)]
  constructor
  ·rintro ⟨h1, h2⟩
   exact ⟨⟨h1, fun i hi => by rw [hg hi, hg hi]; exact h2 i (by omega)⟩, h2 _ hlt⟩
  ·rintro ⟨⟨h1, h2⟩, h3⟩
   refine ⟨h1, fun i hi => ?_⟩
   rcases Nat.lt_or_ge i (l.length - 1) with hk | hk
   ·have := h2 i hk; rwa [hg hk, hg hk] at this
   ·obtain rfl : i = l.length - 1 := by omega
    exact h3
abbrev lst (l : RowL) : List Int := l.getD (l.length - 1) []
abbrev cut1 (l : RowL) : RowL := l.take (l.length - 1)
section
variable {u v : List Int} {k : Nat}
theorem mem_cut {l : RowL} {x : List Int} (h : x ∈ cut1 l) : x ∈ l := List.mem_of_mem_take h
theorem cut_len {l : RowL} : (cut1 l).length = l.length - 1 := by simp [cut1]
theorem MeetI.rlast (h : MeetI ar A C b l r) : r.getD (l.length - 1) [] = lst r ∧ r.take (l.length - 1) = cut1 r := by rw [h.same]; exact ⟨rfl, rfl⟩
theorem MeetI.rest (h : MeetI ar A C b l r) (hp : 0 < l.length) {b1 : RowL} (hok : BOk ar b1) (hiff : ∀ θ, GoodS ar θ → ((SatB b θ ∧ ap θ (lst l) = ap θ (lst r)) ↔ SatB b1 θ)) : MeetI ar A C b1 (cut1 l) (cut1 r) := by
 obtain ⟨_, _, h3⟩ := h.last hp
 refine ⟨hok, by rw [cut_len, cut_len, h.same], fun x hx => h.lw x (mem_cut hx), fun x hx => h.rw' x (mem_cut hx), fun θ g => ?_⟩
 rw [h3 θ g, h.rlast.1, h.rlast.2, ← hiff θ g]
 constructor
 ·rintro ⟨⟨a1, a2⟩, a3⟩; exact ⟨⟨a1, a3⟩, a2⟩
 ·rintro ⟨⟨a1, a3⟩, a2⟩; exact ⟨⟨a1, a2⟩, a3⟩
theorem MeetI.keep (h : MeetI ar A C b l r) (hp : 0 < l.length) (hu : Root ar b (lst l) u) (hv : Root ar b (lst r) v) (h0 : u.getD 0 0 < 0) (he : u.getD 0 0 = v.getD 0 0) : MeetI ar A C b (cut1 l) (cut1 r) :=
 h.rest hp h.ok fun θ g => ⟨fun x => x.1, fun x => ⟨x, ((same_eq h.ok hu hv h0 he).iff θ g).1 x |>.2⟩⟩
end
end
section
variable {ar t : List Int} {p k e m q : Nat} {os : RowL}
def PartI (ar t : List Int) (os : RowL) (m q : Nat) : Prop := partsL ar t = os ++ (argsGo ar t m q).map (fun q => sub ar t q.toNat) ∧ Stand ar t m q t.length
theorem PartI.start (ho : TermW ar t) : PartI ar t [] (partsL ar t).length 1 := by
 have hl := ho.len
 have hs := ho.stand0 (p := 0) (by omega)
 rw [ho.end0] at hs
 rw [parts_len]
 exact ⟨rfl, hs⟩
theorem PartI.next (ho : TermW ar t) (h : PartI ar t os m q) (hm : 1 ≤ m) : q < t.length ∧ PartI ar t (os ++ [(t.drop q).take (endN ar t q - q)]) (m - 1) (endN ar t q) ∧ q < endN ar t q ∧ endN ar t q ≤ t.length := by
 obtain ⟨m, rfl⟩ : ∃ j, m = j + 1 := ⟨m - 1, by omega⟩
 obtain ⟨h1, h2, h3, h4⟩ := ho.stand h.2
 refine ⟨h1, ⟨?_, h2⟩, h3, h4⟩
 have e := h.1
 rw [argsGo, List.map_cons, Int.toNat_natCast] at e
 rw [e, Nat.add_sub_cancel, List.append_assoc]
 rfl
theorem PartI.len (h : PartI ar t os m q) : (partsL ar t).length = os.length + m := by
 have := congrArg List.length h.1
 rwa [List.length_append, List.length_map, argsGo_len] at this
theorem PartI.done (h : PartI ar t os m q) (hm : m = 0) : partsL ar t = os := by
 rw [h.1, hm]; simp [argsGo]
end
section
variable {ar : List Int} {rs : RulesT} {o p u : Nat} {b : RowL} {σ : Sbs} {t : List Int}
end
section
variable {ar t u A C : List Int} {b b1 l r : RowL} {σ : Sbs} {ρ : Int → Nat} {n : Int} {k : Nat}
def maxR (ρ : Int → Nat) : List Int → Nat
 | [] => 0
 | m :: t => max (if m < 0 then ρ m + 1 else 0) (maxR ρ t)
theorem maxR_le : ∀ {t : List Int} {k : Nat}, (∀ m ∈ t, m < 0 → ρ m + 1 ≤ k) → maxR ρ t ≤ k
 | [], _, _ => Nat.zero_le _
 | m :: t, k, h => by
  have h1 := maxR_le (t := t) (k := k) fun x hx => h x (by simp [hx])
  unfold maxR
  refine Nat.max_le.2 ⟨?_, h1⟩
  split
  ·rename_i h0; exact h m (by simp) h0
  ·omega
theorem le_maxR : ∀ {t : List Int}, n ∈ t → n < 0 → ρ n + 1 ≤ maxR ρ t
 | [], h, _ => by cases h
 | m :: t, h, h0 => by
  unfold maxR
  rcases List.mem_cons.1 h with rfl | h1
  ·rw [if_pos h0]; exact Nat.le_max_left _ _
  ·exact Nat.le_trans (le_maxR h1 h0) (Nat.le_max_right _ _)
def wtR (ρ : Int → Nat) (t : List Int) : Nat := 61 * maxR ρ t + t.length
def WtLe (b : RowL) (t u : List Int) : Prop := ∀ ρ, Acyc b ρ → wtR ρ u ≤ wtR ρ t
theorem WtLe.refl : WtLe b t t := fun _ _ => Nat.le_refl _
theorem WtLe.next (h : WtLe b t u) (hb : BOk ar b) (hu : TermW ar u) (h0 : u.getD 0 0 < 0) (hn : b.getD (varIx (u.getD 0 0)) [] ≠ []) : WtLe b t (b.getD (varIx (u.getD 0 0)) []) := by
 rw [← lkN_get h0] at hn ⊢
 intro ρ hρ
 refine Nat.le_trans ?_ (h ρ hρ)
 have hl := (hb.wt _ h0 hn).len
 have hul := hu.len
 have h1 : maxR ρ (lkN b (u.getD 0 0)) ≤ ρ (u.getD 0 0) := maxR_le fun m hm hm0 => by have := hρ _ h0 m hm hm0; omega
 have h2 : ρ (u.getD 0 0) + 1 ≤ maxR ρ u := le_maxR (mem_of_getD (k := 0) (by omega) rfl) h0
 unfold wtR
 omega
def StkI (b : RowL) (A : List Int) (l : RowL) : Prop := ∀ ρ, Acyc b ρ → ∀ i, i < l.length → i + 2 * wtR ρ (l.getD i []) ≤ 2 * wtR ρ A
theorem StkI.start : StkI b A [A] := fun ρ _ i hi => by
 obtain rfl : i = 0 := by have : i < 1 := hi; omega
 simp
theorem StkI.bind {x : Int} {w : List Int} (h : StkI b A l) (hb : BOk ar b) (hx : x < 0) (hg : -48 ≤ x) (hf : lkN b x = []) : StkI (b.set (varIx x) w) A l := fun ρ hρ => h ρ fun n hn m hm hm0 => by
 refine hρ n hn m ?_ hm0
 rw [lkN_set hb.len hx hg]
 split
 ·rename_i e; rw [e, hf] at hm; cases hm
 ·exact hm
def rkB (ρ : Int → Nat) (n : Int) : Nat := ((List.range 48).filter fun (i : Nat) => decide (ρ (-1 - (i : Int)) < ρ n)).length
theorem rk_le : rkB ρ n ≤ 48 := by unfold rkB; exact Nat.le_trans (List.length_filter_le _ _) (by simp)
theorem filter_lt {p q : Nat → Bool} {x : Nat} : ∀ {l : List Nat}, (∀ y, p y = true → q y = true) → x ∈ l → p x = false → q x = true → (l.filter p).length < (l.filter q).length
 | [], _, h, _, _ => by cases h
 | y :: l, h1, h2, h3, h4 => by
  have mono : ∀ l : List Nat, (l.filter p).length ≤ (l.filter q).length := fun l => by
   rw [← List.countP_eq_length_filter, ← List.countP_eq_length_filter]; exact List.countP_mono_left fun y _ => h1 y
  rcases List.mem_cons.1 h2 with rfl | h5
  ·rw [List.filter_cons_of_neg (by rw [h3]; simp), List.filter_cons_of_pos h4, List.length_cons]
   have := mono l; omega
  ·have ih := filter_lt h1 h5 h3 h4
   simp only [List.filter_cons]
   cases hp : p y with
   | true => rw [h1 y hp]; simp only [if_true, List.length_cons]; omega
   | false => cases q y <;> simp <;> omega
theorem Acyc.rk (hb : BOk ar b) (h : Acyc b ρ) : Acyc b (rkB ρ) := fun n hn m hm hm0 => by
 have hne : lkN b n ≠ [] := fun e => by rw [e] at hm; cases hm
 have hg := (hb.wt n hn hne).ge m hm
 have hlt := h n hn m hm hm0
 refine filter_lt (x := (-1 - m).toNat) (fun y hy => ?_) (by simp; omega) ?_ ?_
 ·have := of_decide_eq_true hy; exact decide_eq_true (by omega)
 ·have e : -1 - (((-1 - m).toNat : Nat) : Int) = m := by omega
  rw [e]; simp
 ·have e : -1 - (((-1 - m).toNat : Nat) : Int) = m := by omega
  rw [e]; simpa using hlt
theorem StkI.len (h : StkI b A l) (hb : BOk ar b) (hA : A.length ≤ 60) : l.length ≤ 7000 := by
 obtain ⟨ρ, hρ⟩ := hb.acyc
 rcases Nat.eq_zero_or_pos l.length with h0 | h0
 ·omega
 have h1 := h _ (hρ.rk hb) (l.length - 1) (by omega)
 have h2 : maxR (rkB ρ) A ≤ 49 := maxR_le fun m _ _ => by have := rk_le (ρ := ρ) (n := m); omega
 unfold wtR at h1
 omega
end
end Go.Proofs.Ytcdjpapjjoldeaa.M
namespace Go.Proofs.Ytcdjpapjjoldeaa.X
open Go
def boolsH (E : TypeId) (v : Value) (ss : List Bool) : HP := slH E 1 v ss.length (bools ss)
theorem boolsH.slv {F : FH} {L : List HP} {E : TypeId} {v : Value} {ss : List Bool} (A : List HP) {B : List HP} (hL : L = A ++ boolsH E v ss :: B) : SlV F L v ss.length := SlV.own A hL
theorem boolsH.rd {F : FH} {L : List HP} {E : TypeId} {v : Value} {ss : List Bool} (A : List HP) {B : List HP} (hL : L = A ++ boolsH E v ss :: B) {i : Nat} (hi : i < ss.length) : Rd F L (elemA v i) (.bool (ss.getD i false)) :=
 Rd.sl A hL (bools_get hi)
section
variable {P : Program} {ρ : Env} {F : FH} {L : List HP} {K : Post} {d : Option Tmp} {ty : TypeId} {pos : String} {af : Array Edge} {g : Option (Nat × Bool)}
theorem boolsH.storeX {x y : Operand} {t : TypeId} {i : Nat} {u : Bool} {v : Value} {E : TypeId} {ss : List Bool} (A B : List HP) (ss' : List Bool) (hs : ∀ w, (sizeOf t).run P w = .ok 1 w) (hx : evO ρ x = .pointer (some (elemA v i))) (hy : evO ρ y = .bool u)
  (hL : L = A ++ boolsH E v ss :: B) (ho : i < ss.length) (hxs : ss.set i u = ss') (k : K undef F (A ++ boolsH E v ss' :: B)) : XOp P ⟨d, .store t x y, ty, pos, af, g⟩ ρ F L K := by
 subst hxs
 refine XOp.storeS A B hs hx hy rfl hL (by simpa using ho) ?_
 have e : (ss.map Value.bool).set i (.bool u) = (ss.set i u).map Value.bool := by rw [List.map_set]
 rw [e]
 have e2 : ss.length = (ss.set i u).length := by simp
 unfold boolsH at k
 rw [← e2] at k
 exact k
end
theorem RowsC.ones {F : FH} {cs : List Value} {xs : List (List Int)} (h : RowsC F cs xs) : ∀ u ∈ cs, u.oneCell' = true := by
 intro u hu
 obtain ⟨q, hq, rfl⟩ := List.getElem_of_mem hu
 have hl := h.1
 obtain ⟨es, h1, ⟨c, rfl, hc⟩, hg⟩ := CO.get h (i := q) (by omega)
 have h9 := hg 0 c rfl
 rw [show q * 1 + 0 = q from by omega, List.getElem?_eq_getElem hq] at h9
 obtain ⟨b, n, k, rfl⟩ := IntsF.isSl hc
 rw [Option.some.inj h9]; rfl
def SomeStepsF (F : FH) (v : Value) (Q : List StepT → Prop) : Prop := ∃ t, StepsF F v t ∧ Q t
theorem SomeStepsF.mono {F F' : FH} {v : Value} {Q : List StepT → Prop} (h : SomeStepsF F v Q) (le : F ≤ F') : SomeStepsF F' v Q := let ⟨t, h1, h2⟩ := h; ⟨t, h1.mono le, h2⟩
theorem SomeStepsF.isSl {F : FH} {v : Value} {Q : List StepT → Prop} (h : SomeStepsF F v Q) : IsSl v := let ⟨_, h1, _⟩ := h; h1.isSl
def SomeBindsF (F : FH) (bs : List Value) (Q : List (List Int) → Prop) : Prop := ∃ bl, BindC F bs bl ∧ Q bl
theorem SomeBindsF.mono {F F' : FH} {bs : List Value} {Q : List (List Int) → Prop} (h : SomeBindsF F bs Q) (le : F ≤ F') : SomeBindsF F' bs Q := let ⟨t, h1, h2⟩ := h; ⟨t, h1.mono le, h2⟩
end Go.Proofs.Ytcdjpapjjoldeaa.X
namespace Go.Proofs.Ytcdjpapjjoldeaa.M
section
variable {ar : List Int} {rs : Rules} {a b t : List Int} {n : Int}
end
section
variable {o t : List Int} {k j : Nat} {n x : Int}
theorem ord_add (hj : j < t.length) {os : List Int} (h : os = orderL (t.take j)) (h0 : t.getD j 0 < 0) (hn : t.getD j 0 ∉ os) : os ++ [t.getD j 0] = orderL (t.take (j + 1)) := by
 unfold orderL at h ⊢
 rw [orderGo_take hj, ← h, if_pos ⟨h0, hn⟩]
theorem ord_skip (hj : j < t.length) {os : List Int} (h : os = orderL (t.take j)) (h0 : 0 ≤ t.getD j 0 ∨ t.getD j 0 ∈ os) : os = orderL (t.take (j + 1)) := by
 unfold orderL at h ⊢
 rw [orderGo_take hj, ← h, if_neg]
 rintro ⟨h1, h2⟩
 rcases h0 with h0 | h0
 ·omega
 ·exact h2 h0
theorem ord_nodup : (orderL t).Nodup := orderGo_nodup t [] List.nodup_nil
theorem ord_len : (orderL t).length ≤ t.length := by have := orderGo_len t []; unfold orderL; simpa using this
def byN (o : List Int) (k : Nat) (x : Int) : Int := if x < 0 ∧ x ∈ o.take k then -1 - indexZ o x else x
theorem by_start : x = byN o 0 x := by simp [byN]
theorem by_hit (hno : o.Nodup) (hk : k < o.length) (h0 : x < 0) (he : o.getD k 0 = x) : -1 - (k : Int) = byN o (k + 1) x := by
 have hx : o[k] = x := by rw [← he]; simp [List.getD, hk]
 have hm : x ∈ o.take (k + 1) := by rw [← hx]; exact List.mem_take_iff_getElem.2 ⟨k, by omega, rfl⟩
 unfold byN
 rw [if_pos ⟨h0, hm⟩, ← hx, index_getElem hno hk]
theorem by_miss (hk : k < o.length) (he : o.getD k 0 ≠ x) : byN o k x = byN o (k + 1) x := by
 have hm : x ∈ o.take (k + 1) ↔ x ∈ o.take k := by
  rw [take_succ_getD 0 hk, List.mem_append, List.mem_singleton]
  exact ⟨fun h => h.resolve_right (fun e => he e.symm), .inl⟩
 unfold byN
 simp only [hm]
theorem by_done (hn : n = byN o k x) (hx : k = o.length ∨ 0 ≤ x) : n = if x < 0 ∧ x ∈ o then -1 - indexZ o x else x := by
 rw [hn]; unfold byN
 rcases hx with h | h
 ·rw [h, List.take_length]
 ·rw [if_neg (by omega), if_neg (by omega)]
theorem by_take (hj : j < t.length) (hn : n = if t.getD j 0 < 0 ∧ t.getD j 0 ∈ o then -1 - indexZ o (t.getD j 0) else t.getD j 0) : byL o (t.take j) ++ [n] = byL o (t.take (j + 1)) := by
 rw [hn]
 unfold byL; rw [take_succ_getD 0 hj, List.map_append]; rfl
end
section
variable {ar : List Int} {rs : RulesT} {o p u : Nat} {b : RowL} {σ : Sbs}
end
end Go.Proofs.Ytcdjpapjjoldeaa.M
namespace Go.Proofs.Ytcdjpapjjoldeaa.X
open Go
section
variable {P : Program} {ρ : Env} {F : FH} {L : List HP} {K : Post} {d : Option Tmp} {ty : TypeId} {pos : String} {af : Array Edge} {g : Option (Nat × Bool)}
end
section
variable {P : Program} {ρ : Env} {F : FH} {L : List HP} {K : Post} {d : Option Tmp} {ty : TypeId} {pos : String} {af : Array Edge} {g : Option (Nat × Bool)}
theorem XOp.sliceArrV {x h : Operand} {t e : TypeId} {n m b o : Nat} {kk : IntKind} (hu : ∀ w, (underlying t).run P w = .ok (.array n e) w) (hs : ∀ w, (sizeOf e).run P w = .ok 1 w) (hx : evO ρ x = ptr b o) (hh : evO ρ h = .int kk ((m : Nat) : Int)) (hm : m ≤ n)
  (k : K (.slice (some ⟨b, o, none⟩) m n) F L) : XOp P ⟨d, .slice t x none (some h) none, ty, pos, af, g⟩ ρ F L K := by
 refine XOp.value (fun w H => ?_) k
 have e1 : (Instr.sliceBounds false n n none (some (.int kk ((m : Nat) : Int))) none).run P w = .ok (0, m, n) w := by
  unfold Instr.sliceBounds
  simp [Sem.run_bind, bound_run _ hm]
 simp [execOp, hx, hh, Instr.sliceAt, hu, hs, Instr.sureAddr, e1, Addr.add]
theorem SlV.lit {b o m n : Nat} (h : m ≤ n) : SlV F L (.slice (some ⟨b, o, none⟩) m n) m := fun w _ => ⟨_, _, rfl, h, by simp⟩
theorem elem_lit {b o m n j : Nat} : elemA (.slice (some ⟨b, o, none⟩) m n) j = ⟨b, o + j, none⟩ := by
 show (⟨b, o, none⟩ : Addr).add j = _
 exact add_lit b o j
theorem XOp.indexSV {x ix : Operand} {t e : TypeId} {b o m n : Nat} {i : Int} {kk : IntKind} (j o' : Nat) (hu : ∀ w, (underlying t).run P w = .ok (.slice e) w) (hs : ∀ w, (sizeOf e).run P w = .ok 1 w)
  (hx : evO ρ x = .slice (some ⟨b, o, none⟩) m n) (hi : evO ρ ix = .int kk i) (hj : i = (j : Int)) (h1 : j < m) (hm : m ≤ n) (ho : o + j = o') (k : K (ptr b o') F L) : XOp P ⟨d, .indexAddr t x ix, ty, pos, af, g⟩ ρ F L K := by
 subst ho
 refine XOp.indexS (n := m) (m := j) j hu hs hx hi hj (SlV.lit hm) h1 (Nat.mul_one j) ?_
 rw [elem_lit]; exact k
end
end Go.Proofs.Ytcdjpapjjoldeaa.X
namespace Go.Proofs.Ytcdjpapjjoldeaa.M
section
variable {ar : List Int} {rs : RulesT} {o p u : Nat} {x : PkT}
end
section
variable {t : List Int} {rs : RulesT} {ar : List Int} {k : Nat}
def LinT (t : List Int) : Prop := ∀ i, i < t.length → t.getD i 0 < 0 → t.getD i 0 ∉ t.take i
instance : Decidable (LinT t) := by unfold LinT; infer_instance
def LinS (rs : RulesT) : Prop := ∀ i, i < rs.length → LinT (rs.getD i ([], [])).1
instance : Decidable (LinS rs) := by unfold LinS; infer_instance
end
section
variable {ar t od : List Int} {σ τ : Sbs} {n : Nat}
def byS (od : List Int) (σ : Sbs) : Sbs := fun x => byL od (σ x)
theorem ap_byS : ap (byS od σ) t = byL od (ap σ t) := by
 unfold ap byS byL
 rw [List.map_flatMap]
theorem by_neg {x : Int} : (if x < 0 ∧ x ∈ od then -1 - indexZ od x else x) < 0 ↔ x < 0 := by
 by_cases h : x < 0 ∧ x ∈ od
 ·have := indexZ_mem.2 h.2
  rw [if_pos h]; omega
 ·rw [if_neg h]
theorem by_arity {x : Int} : arity ar (if x < 0 ∧ x ∈ od then -1 - indexZ od x else x) = arity ar x := by
 by_cases hx : x < 0
 ·unfold arity; rw [if_pos (by_neg.2 hx), if_pos hx]
 ·rw [if_neg (fun h => hx h.1)]
theorem endGo_byL : ∀ (r : List Int) (n : Nat), endGo ar (byL od r) n = endGo ar r n
 | r, 0 => by simp [endGo]
 | [], n + 1 => rfl
 | x :: r, n + 1 => by
  show endGo ar ((if x < 0 ∧ x ∈ od then -1 - indexZ od x else x) :: byL od r) (n + 1) = _
  simp only [endGo, by_arity, endGo_byL r]
  by_cases hx : x < 0
  ·rw [if_pos (by have := (by_neg (od := od)).2 hx; omega), if_pos (by omega)]
  ·have e : (if x < 0 ∧ x ∈ od then -1 - indexZ od x else x) = x := if_neg (fun h => hx h.1)
   rw [e]
theorem wf_byL {r : List Int} : WF ar (byL od r) n ↔ WF ar r n := by unfold WF; rw [endGo_byL, byL_len]
theorem byS_good (h : GoodS ar σ) : GoodS ar (byS od σ) :=
 ⟨fun n hn => by unfold byS; rw [h.sym n hn]; simp [byL]; omega, fun n hn => wf_byL.2 (h.var n hn)⟩
theorem byL_ok (hs : sigOk ar = true) (hw : WF ar t 1) (hl : t.length ≤ 60) (ho : od.length ≤ 24) (hv : ∀ n ∈ t, n < 0 → n ∈ od) : termOk ar (byL od t) = true := by
 refine termOk_iff.2 ⟨hs, ?_, by rw [byL_len]; exact hl, ?_, wf_byL.2 hw⟩
 ·rw [byL_len]
  cases ht : t with
  | nil => rw [ht] at hw; exact absurd rfl hw.pos
  | cons => simp
 ·intro x hx
  obtain ⟨y, hy, rfl⟩ := List.mem_map.1 hx
  by_cases h : y < 0 ∧ y ∈ od
  ·have := indexZ_lt h.2
   rw [if_pos h]; omega
  ·rw [if_neg h]
   by_cases h0 : y < 0
   ·exact absurd ⟨h0, hv y hy h0⟩ h
   ·omega
end
section
variable {ar : List Int} {rs : RulesT} {o p u : Nat} {b : RowL} {σ : Sbs} {x : PkT}
structure PkS (ar : List Int) (rs : RulesT) (o p u : Nat) (x : PkT) (τ : Sbs) : Prop where
 good : GoodS ar τ
 top : x.1 = ap τ (Lr rs o)
 left : x.2.1 = ap τ (leftT ar rs o p u)
 right : x.2.2.1 = ap τ (Rr rs o)
 nums : x.2.2.2 = ((p : Int), (u : Int), (o : Int))
 met : ap τ (sub ar (Lr rs o) p) = ap τ (awayL (Lr rs u))
 topOk : termOk ar x.1 = true
 leftOk : termOk ar x.2.1 = true
 rightOk : termOk ar x.2.2.1 = true
end
section
variable {ar : List Int} {rs : RulesT} {a b : List Int}
end
section
variable {ar t : List Int} {τ : Sbs} {b : RowL} {n : Int}
def SaysOf (τ : Sbs) (b : RowL) : Prop := ∀ n : Int, n < 0 → b.getD (varIx n) [] = [] ∨ b.getD (varIx n) [] = τ n
theorem sub_at {A B u : List Int} (hu : WF ar u 1) : sub ar (A ++ u ++ B) A.length = u := by
 have h : endN ar (A ++ u ++ B) A.length = A.length + u.length := endN_of (by rw [List.append_assoc, List.drop_left]; exact endGo_more hu)
 unfold sub
 rw [h, List.append_assoc, List.drop_left, Nat.add_sub_cancel_left, List.take_left]
theorem getD_set24 {x : List Int} (hl : b.length = 24) (hn : n < 0) (hg : -24 ≤ n) {m : Int} (hm : m < 0) : (b.set (varIx n) x).getD (varIx m) [] = if m = n then x else b.getD (varIx m) [] := by
 have h1 : varIx n < b.length := by unfold varIx; omega
 by_cases h : m = n
 ·subst h; rw [if_pos rfl]; simp [List.getD, h1]
 ·have h2 : varIx n ≠ varIx m := fun e => h (varIx_inj hm hn e.symm)
  rw [if_neg h]
  simp [List.getD, List.getElem?_set_ne h2]
theorem mGo_inst (g : GoodS ar τ) : ∀ (r A B : List Int) (b : RowL), (∀ x ∈ r, -24 ≤ x) → b.length = 24 → SaysOf τ b →
  ∃ b', mGo ar (A ++ ap τ r ++ B) r A.length b = some b' ∧ SaysOf τ b' ∧ (∀ n : Int, n < 0 → b.getD (varIx n) [] ≠ [] → b'.getD (varIx n) [] ≠ []) ∧ ∀ n ∈ r, n < 0 → b'.getD (varIx n) [] ≠ []
 | [], A, B, b, hr, hb, hs => ⟨b, rfl, hs, fun _ _ h => h, fun n hn => by cases hn⟩
 | n :: r, A, B, b, hr, hb, hs => by
  have hr' : ∀ x ∈ r, -24 ≤ x := fun x hx => hr x (by simp [hx])
  have hpos := g.pos (x := n)
  have e : A ++ ap τ (n :: r) ++ B = (A ++ τ n) ++ ap τ r ++ B := by rw [ap_cons]; simp [List.append_assoc]
  have e2 : (A ++ τ n) ++ ap τ r ++ B = A ++ τ n ++ (ap τ r ++ B) := by simp [List.append_assoc]
  have hlt : ¬ (A ++ ap τ (n :: r) ++ B).length ≤ A.length := by rw [e]; simp only [List.length_append]; omega
  rw [mGo, if_neg hlt]
  by_cases h0 : 0 ≤ n
  ·have hg : (A ++ ap τ (n :: r) ++ B).getD A.length 0 = n := by
    rw [e, e2, g.sym n h0]; simp [List.getD]
   rw [if_pos h0, if_pos hg, e]
   obtain ⟨b', h1, h2, h3, h4⟩ := mGo_inst g r (A ++ τ n) B b hr' hb hs
   rw [g.sym n h0] at h1 ⊢
   rw [List.length_append, List.length_singleton] at h1
   exact ⟨b', h1, h2, h3, fun m hm hm0 => (List.mem_cons.1 hm).elim (fun x => by omega) (fun x => h4 m x hm0)⟩
  ·have hn0 : n < 0 := by omega
   have hsub : sub ar (A ++ ap τ (n :: r) ++ B) A.length = τ n := by rw [e, e2]; exact sub_at (g.var n hn0)
   have hne : τ n ≠ [] := fun x => by rw [x] at hpos; simp at hpos
   rw [if_neg h0, hsub]
   by_cases hbn : b.getD (varIx n) [] = []
   ·rw [if_pos hbn]
    have hset := fun (m : Int) (hm : m < 0) => getD_set24 (x := τ n) hb hn0 (hr n (by simp)) hm
    obtain ⟨b', h1, h2, h3, h4⟩ := mGo_inst g r (A ++ τ n) B (b.set (varIx n) (τ n)) hr' (by rw [List.length_set]; exact hb) (fun m hm => by
     rw [hset m hm]; split
     ·rename_i h; rw [h]; exact .inr rfl
     ·exact hs m hm)
    rw [List.length_append] at h1
    refine ⟨b', by rw [e]; exact h1, h2, fun m hm hmb => h3 m hm ?_, fun m hm hm0 => ?_⟩
    ·rw [hset m hm]; split
     ·exact hne
     ·exact hmb
    ·rcases List.mem_cons.1 hm with x | x
     ·exact h3 m hm0 (by rw [hset m hm0, if_pos x]; exact hne)
     ·exact h4 m x hm0
   ·rw [if_neg hbn, if_pos ((hs n hn0).resolve_left hbn)]
    obtain ⟨b', h1, h2, h3, h4⟩ := mGo_inst g r (A ++ τ n) B b hr' hb hs
    rw [List.length_append] at h1
    refine ⟨b', by rw [e]; exact h1, h2, h3, fun m hm hm0 => ?_⟩
    rcases List.mem_cons.1 hm with x | x
    ·rw [x]; exact h3 n hn0 hbn
    ·exact h4 m x hm0
theorem matchB_inst (g : GoodS ar τ) {P : List Int} (hP : ∀ x ∈ P, -24 ≤ x) : ∃ b, matchB ar P (ap τ P) = some b ∧ ∀ n ∈ P, n < 0 → lk b n = τ n := by
 obtain ⟨b, h1, h2, h3, h4⟩ := mGo_inst g P [] [] (List.replicate 24 []) hP (by simp) (fun n _ => .inl (by rw [List.getD_eq_getElem?_getD, List.getElem?_replicate]; split <;> rfl))
 simp only [List.nil_append, List.append_nil, List.length_nil] at h1
 refine ⟨b, h1, fun n hn h0 => ?_⟩
 rw [lk_some h0 (h4 n hn h0)]
 exact (h2 n h0).resolve_left (h4 n hn h0)
end
section
variable {ar t : List Int} {rs : RulesT} {τ : Sbs} {p q r : Nat}
theorem lk_ap (g : GoodS ar τ) {b : RowL} {P R : List Int} (h : ∀ n ∈ P, n < 0 → lk b n = τ n) (hv : ∀ n ∈ R, n < 0 → n ∈ P) : FM b R = ap τ R := by
 show ap (lk b) R = ap τ R
 refine ap_congr fun x hx => ?_
 rcases Int.lt_or_le x 0 with h0 | h0
 ·exact h x (hv x hx h0) h0
 ·rw [lk_sym h0, g.sym x h0]
theorem step_inst (hs : sysOk ar rs = true) (g : GoodS ar τ) (hr : r < rs.length) (hsub : sub ar t p = ap τ (Lr rs r)) (hl : (ap τ (Rr rs r)).length ≤ 60) : stepL ar rs t p r = putL ar t p (ap τ (Rr rs r)) := by
 obtain ⟨b, h1, h2⟩ := matchB_inst g (P := Lr rs r) (termOk_iff.1 (rule_L hs hr)).ge
 have h3 := lk_ap g h2 (rule_vars hs hr)
 have h4 := fillL_of (s := b) (t := Rr rs r) (by rw [h3]; exact hl)
 rw [h3] at h4
 unfold stepL
 rw [hsub, h1]
 dsimp only
 rw [h4]
def mv (τ : Sbs) (t : List Int) (q : Nat) : Nat := (ap τ (t.take q)).length
theorem mv_drop : (ap τ t).drop (mv τ t q) = ap τ (t.drop q) := by
 have := congrArg (ap τ) (List.take_append_drop q t)
 rw [ap_app] at this
 rw [← this]; exact List.drop_left
theorem mv_zero : mv τ t 0 = 0 := by simp [mv]
theorem mv_end (g : GoodS ar τ) (ht : TermW ar t) (hq : q < t.length) : endN ar (ap τ t) (mv τ t q) = mv τ t (endN ar t q) := by
 have hd := wf_sub ht hq
 have hw := ap_wf g (ht.sub hq).wf
 have he := ht.endN hq
 rw [endN_of (e := (ap τ (sub ar t q)).length) (by rw [mv_drop, hd, ap_app]; exact endGo_more hw)]
 unfold mv
 have : t.take (endN ar t q) = t.take q ++ sub ar t q := by
  have h2 := List.take_add (l := t) (i := q) (j := endN ar t q - q)
  rw [show q + (endN ar t q - q) = endN ar t q from by omega] at h2
  exact h2
 rw [this, ap_app, List.length_append]
theorem mv_sub (g : GoodS ar τ) (ht : TermW ar t) (hq : q < t.length) : sub ar (ap τ t) (mv τ t q) = ap τ (sub ar t q) := by
 have hd := wf_sub ht hq
 have hw := ap_wf g (ht.sub hq).wf
 have he := endN_of (ar := ar) (t := ap τ t) (p := mv τ t q) (e := (ap τ (sub ar t q)).length) (by rw [mv_drop, hd, ap_app]; exact endGo_more hw)
 show ((ap τ t).drop (mv τ t q)).take (endN ar (ap τ t) (mv τ t q) - mv τ t q) = _
 rw [he, mv_drop, Nat.add_sub_cancel_left, hd, ap_app, List.take_left]
theorem mv_succ (g : GoodS ar τ) (hq : q < t.length) (h0 : 0 ≤ t.getD q 0) : mv τ t (q + 1) = mv τ t q + 1 := by
 unfold mv
 rw [take_succ_getD 0 hq, ap_app, ap_one, g.sym _ h0]; simp
theorem mv_get (g : GoodS ar τ) (hq : q < t.length) (h0 : 0 ≤ t.getD q 0) : (ap τ t).getD (mv τ t q) 0 = t.getD q 0 := by
 rw [getD_zero_drop, mv_drop, drop_get 0 hq, ap_cons, g.sym _ h0]; rfl
theorem mv_lt (g : GoodS ar τ) (hq : q < t.length) : mv τ t q < (ap τ t).length := by
 have h := congrArg List.length (mv_drop (τ := τ) (t := t) (q := q))
 have h2 := g.len (t := t.drop q)
 rw [List.length_drop] at h h2
 omega
theorem args_mv (g : GoodS ar τ) (ht : TermW ar t) : ∀ (n q e : Nat), Stand ar t n q e → argsGo ar (ap τ t) n (mv τ t q) = (argsGo ar t n q).map fun z => (mv τ t z.toNat : Int)
 | 0, q, e, hs => rfl
 | n + 1, q, e, hs => by
  obtain ⟨h1, h2, h3, h4⟩ := ht.stand hs
  rw [argsGo, argsGo, mv_end g ht h1, args_mv g ht n _ e h2, List.map_cons]; rfl
theorem argsL_mv (g : GoodS ar τ) (ht : TermW ar t) (hq : q < t.length) (h0 : 0 ≤ t.getD q 0) : argsL ar (ap τ t) (mv τ t q) = (argsL ar t q).map fun z => (mv τ t z.toNat : Int) := by
 unfold argsL
 rw [mv_get g hq h0, ← mv_succ g hq h0, args_mv g ht _ _ _ (ht.stand0 hq)]
theorem place_mv (g : GoodS ar τ) (ht : termOk ar t = true) {x : Nat} (hx : x < t.length) : ∀ (f p : Nat), p ≤ x → x < endN ar t p → x - p ≤ f → placeGo ar (ap τ t) (pathGo ar t x f p) (mv τ t p) = (mv τ t x : Int)
 | 0, p, h1, h2, h3 => by rw [show p = x from by omega]; rfl
 | f + 1, p, h1, h2, h3 => by
  rw [pathGo]
  by_cases hpx : p = x
  ·rw [if_pos hpx, hpx]; rfl
  ·rw [if_neg hpx]
   have hp : p < t.length := by omega
   have hsome : ∃ i, i < (argsL ar t p).length ∧ inAt ar t x ((argsL ar t p).getD i 0) = true := by
    apply Classical.byContradiction
    intro hc
    refine args_some ht (show p < x by omega) h2 hx fun i hi => ?_
    rw [Bool.eq_false_iff]; exact fun h => hc ⟨i, hi, h⟩
   obtain ⟨i, hi, hin⟩ := hsome
   have hk : nextK ar t x p < (argsL ar t p).length := by
    unfold nextK
    refine List.findIdx_lt_length_of_exists ⟨(argsL ar t p).getD i 0, ?_, hin⟩
    simp [List.getD, hi]
   have hkin : inAt ar t x ((argsL ar t p).getD (nextK ar t x p) 0) = true := by
    have h9 : ∀ j (hj : j < (argsL ar t p).length), nextK ar t x p = j → inAt ar t x ((argsL ar t p).getD j 0) = true := fun j hj e => by
     have h8 := List.findIdx_getElem (xs := argsL ar t p) (p := inAt ar t x) (w := hk)
     unfold nextK at e
     have h7 : (argsL ar t p).getD j 0 = (argsL ar t p)[j] := by simp [List.getD, hj]
     rw [h7]
     simpa only [e] using h8
    exact h9 _ hk rfl
   generalize nextK ar t x p = k at hk hkin ⊢
   have h0 : 0 ≤ t.getD p 0 := by
    rcases Int.lt_or_le (t.getD p 0) 0 with h | h
    ·rw [argsL_len] at hk; unfold arity at hk; rw [if_pos h] at hk; simp at hk
    ·exact h
   have ha := argsL_in ht hp hk
   have hi2 := inAt_iff.1 hkin
   rw [placeGo, argsL_mv g (termW_of ht) hp h0, List.length_map, if_pos ⟨by omega, by omega⟩]
   have hg : (((argsL ar t p).map fun z => (mv τ t z.toNat : Int)).getD ((k : Nat) : Int).toNat 0).toNat = mv τ t ((argsL ar t p).getD k 0).toNat := by
    simp [List.getD, hk]
   rw [hg]
   exact place_mv g ht hx f _ (by omega) (by omega) (by omega)
theorem placeL_mv (g : GoodS ar τ) (ht : termOk ar t = true) (h2 : termOk ar (ap τ t) = true) {x : Nat} (hx : x < t.length) : placeL ar (ap τ t) (pathL ar t x) = (mv τ t x : Int) := by
 unfold placeL pathL
 rw [if_pos h2]
 have := place_mv g ht hx t.length 0 (by omega) (by rw [endN_zero ht]; exact hx) (by omega)
 rwa [mv_zero] at this
theorem ap_away : ap τ (awayL t) = ap (fun n => τ (if n < 0 then n - 24 else n)) t := by
 unfold ap awayL
 rw [List.flatMap_map]
theorem good_away (g : GoodS ar τ) : GoodS ar (fun n => τ (if n < 0 then n - 24 else n)) :=
 ⟨fun n hn => by rw [if_neg (by omega)]; exact g.sym n hn, fun n hn => by rw [if_pos hn]; exact g.var _ (by omega)⟩
theorem put_root {u : List Int} (ht : termOk ar t = true) (hu : u.length ≤ 60) : putL ar t 0 u = some u := by
 unfold putL
 rw [endN_zero ht, List.drop_length, List.take_zero, List.nil_append, List.append_nil, if_neg (by omega)]
theorem sub_root (ht : termOk ar t = true) : sub ar t 0 = t := by
 unfold sub
 rw [endN_zero ht]; simp
variable {o u : Nat} {x : PkT}
theorem PkS.right_step (hs : sysOk ar rs = true) (ho : o < rs.length) (h : PkS ar rs o p u x τ) : stepL ar rs x.1 0 o = some x.2.2.1 := by
 have hl := (termOk_len h.rightOk).2
 rw [step_inst hs h.good ho (by rw [sub_root h.topOk, h.top]) (by rw [← h.right]; exact hl), ← h.right]
 exact put_root h.topOk hl
theorem PkS.left_step (hs : sysOk ar rs = true) (ho : o < rs.length) (hu : u < rs.length) (hp : p < (Lr rs o).length) (h : PkS ar rs o p u x τ) : stepL ar rs x.1 (mv τ (Lr rs o) p) u = some x.2.1 := by
 have hW := termW_of (rule_L hs ho)
 have hl := (termOk_len h.leftOk).2
 have e : x.2.1 = (ap τ (Lr rs o)).take (mv τ (Lr rs o) p) ++ ap τ (awayL (Rr rs u)) ++ (ap τ (Lr rs o)).drop (endN ar (ap τ (Lr rs o)) (mv τ (Lr rs o) p)) := by
  rw [h.left]; unfold mv; rw [put_ap h.good hW hp]
  unfold leftT
  rw [ap_app, ap_app]
 have hsub : sub ar x.1 (mv τ (Lr rs o) p) = ap (fun n => τ (if n < 0 then n - 24 else n)) (Lr rs u) := by
  rw [h.top, mv_sub h.good hW hp, h.met, ap_away]
 rw [step_inst hs (good_away h.good) hu hsub (by rw [← ap_away]; have := congrArg List.length e; rw [List.length_append, List.length_append] at this; omega), ← ap_away]
 unfold putL
 rw [h.top, ← e, if_neg (by omega)]
theorem PkS.ok (hs : sysOk ar rs = true) (ho : o < rs.length) (hu : u < rs.length) (hp : p < (Lr rs o).length) (h0 : 0 ≤ (Lr rs o).getD p 0) (hne : ¬ (o = u ∧ p = 0)) (h : PkS ar rs o p u x τ) : peakL ar rs x.1 x.2.1 x.2.2.1 x.2.2.2.1 x.2.2.2.2.1 x.2.2.2.2.2 = true := by
 have hn := h.nums
 rw [show x.2.2.2.1 = (p : Int) from by rw [hn], show x.2.2.2.2.1 = (u : Int) from by rw [hn], show x.2.2.2.2.2 = (o : Int) from by rw [hn]]
 refine peakL_iff.2 ⟨hs, peakArgs_iff.2 ⟨by omega, by omega, by omega, ?_, ?_⟩, ?_, ?_⟩
 ·simp only [Int.toNat_natCast]; exact ⟨by omega, by exact_mod_cast hp⟩
 ·simp only [Int.toNat_natCast]; exact h0
 ·refine stepAtL_iff.2 ⟨stepAtOk_iff.2 ⟨⟨hs, h.topOk⟩, by have := termOk_len h.topOk; omega, by omega⟩, ?_⟩
  simp only [Int.toNat_natCast]; exact h.right_step hs ho
 ·have hpl : peakAtL ar rs x.1 (p : Int) (o : Int) = (mv τ (Lr rs o) p : Int) := by
   unfold peakAtL
   simp only [Int.toNat_natCast]
   rw [h.top]
   exact placeL_mv h.good (rule_L hs ho) (by rw [← h.top]; exact h.topOk) hp
  rw [hpl]
  have hlt : mv τ (Lr rs o) p < x.1.length := by rw [h.top]; exact mv_lt h.good hp
  refine stepAtL_iff.2 ⟨stepAtOk_iff.2 ⟨⟨hs, h.topOk⟩, by omega, by omega⟩, ?_⟩
  simp only [Int.toNat_natCast]; exact h.left_step hs ho hu hp
end
section
variable {ar A C t s : List Int} {σ τ θ σ1 σ2 : Sbs} {n m : Int} {b : RowL}
structure MguS (ar A C : List Int) (σ : Sbs) : Prop where
 good : GoodS ar σ
 eq : ap σ A = ap σ C
 most : ∀ θ, GoodS ar θ → ap θ A = ap θ C → ∀ t, ap θ (ap σ t) = ap θ t
theorem Mgu.mguS (h : Mgu ar A C b) (s : Sol b σ) : MguS ar A C σ :=
 ⟨s.good h.ok, (h.iff σ (s.good h.ok)).1 s.sat, fun θ g e t => s.most_t h.ok g ((h.iff θ g).2 e)⟩
theorem MguS.into (h1 : MguS ar A C σ1) (h2 : MguS ar A C σ2) : ap σ2 (ap σ1 t) = ap σ2 t := h1.most σ2 h2.good h2.eq t
theorem MguS.one (h1 : MguS ar A C σ1) (h2 : MguS ar A C σ2) (hn : n ∈ ap σ1 t) : σ2 n = [hd1 σ2 n] := by
 have g1 := h1.good
 have g2 := h2.good
 have e1 : (ap σ2 (ap σ1 t)).length = (ap σ2 t).length := congrArg _ (h1.into h2)
 have e2 : (ap σ1 (ap σ2 t)).length = (ap σ1 t).length := congrArg _ (h2.into h1)
 have l1 := g1.len (t := ap σ2 t)
 have l2 := g2.len_mem hn
 have l3 := g2.pos (x := n)
 have h : (σ2 n).length = 1 := by omega
 unfold hd1
 match hs : σ2 n, h with
 | [y], _ => rfl
theorem MguS.map (h1 : MguS ar A C σ1) (h2 : MguS ar A C σ2) : ap σ2 t = (ap σ1 t).map (hd1 σ2) := by
 rw [← h1.into h2, ap_map fun n hn => h1.one h2 hn]
theorem MguS.len (h1 : MguS ar A C σ1) (h2 : MguS ar A C σ2) : (ap σ2 t).length = (ap σ1 t).length := by rw [h1.map h2, List.length_map]
theorem MguS.back (h1 : MguS ar A C σ1) (h2 : MguS ar A C σ2) (hn : n ∈ ap σ1 t) : hd1 σ1 (hd1 σ2 n) = n := by
 have e : ((ap σ1 t).map (hd1 σ2)).map (hd1 σ1) = ap σ1 t := by rw [← h1.map h2, ← h2.map h1]
 exact map_back e n hn
theorem hd1_good (g : GoodS ar σ) (hn : 0 ≤ n) : hd1 σ n = n := by unfold hd1; rw [g.sym _ hn]; rfl
theorem MguS.neg (h1 : MguS ar A C σ1) (h2 : MguS ar A C σ2) (hn : n ∈ ap σ1 t) : hd1 σ2 n < 0 ↔ n < 0 := by
 constructor
 ·intro h
  rcases Int.lt_or_le n 0 with h0 | h0
  ·exact h0
  ·rw [hd1_good h2.good h0] at h; omega
 ·intro h
  rcases Int.lt_or_le (hd1 σ2 n) 0 with h0 | h0
  ·exact h0
  ·have := h1.back h2 hn
   rw [hd1_good h1.good h0] at this; omega
theorem MguS.same (h1 : MguS ar A C σ1) (h2 : MguS ar A C σ2) : byL (orderL (ap σ2 t)) (ap σ2 t) = byL (orderL (ap σ1 t)) (ap σ1 t) := by
 have hord : orderL (ap σ2 t) = (orderL (ap σ1 t)).map (hd1 σ2) := by
  rw [h1.map h2]
  exact orderGo_map (s := []) (g := hd1 σ1) (fun n hn => h1.neg h2 hn) (fun n hn => h1.back h2 hn) (fun n hn => by cases hn)
 rw [hord, h1.map h2 (t := t)]
 exact byL_map (fun n hn => h1.neg h2 hn) (fun n hn => hd1_good h2.good hn) (fun n hn => h1.back h2 hn) (fun n hn => h1.back h2 (t := t) (mem_orderL.1 hn).2) fun n hn h0 => mem_orderL.2 ⟨h0, hn⟩
end
section
variable {ar A C x y u v : List Int} {σ θ : Sbs} {n : Int} {k : Nat}
structure SolS (ar A C : List Int) (σ : Sbs) : Prop where
 good : GoodS ar σ
 idem : ∀ n, ap σ (σ n) = σ n
 most : ∀ θ, GoodS ar θ → ap θ A = ap θ C → ∀ n, ap θ (σ n) = θ n
theorem SolS.start : SolS ar A C (fun n => [n]) := ⟨GoodS.id, fun n => ap_id, fun θ _ _ n => ap_one⟩
theorem most_ap (h : ∀ n, ap θ (σ n) = θ n) (t : List Int) : ap θ (ap σ t) = ap θ t := by
 rw [ap_ap]; exact ap_congr fun x _ => h x
theorem SolS.done (h : SolS ar A C σ) (e : ap σ A = ap σ C) : MguS ar A C σ := ⟨h.good, e, fun θ g hθ t => most_ap (h.most θ g hθ) t⟩
def oneS (n : Int) (u : List Int) : Sbs := fun m => if m = n then u else [m]
theorem oneS_good (hn : n < 0) (hu : WF ar u 1) : GoodS ar (oneS n u) :=
 ⟨fun m hm => by unfold oneS; rw [if_neg (by omega)], fun m hm => by unfold oneS; split; exact hu; exact WF.var hm⟩
theorem oneS_id (h : n ∉ x) : ap (oneS n u) x = x := by
 have : ap (oneS n u) x = ap (fun m => [m]) x := ap_congr fun m hm => by unfold oneS; rw [if_neg (fun e : m = n => h (by rw [← e]; exact hm))]
 rw [this, ap_id]
theorem oneS_sat (hs : θ n = ap θ u) (t : List Int) : ap θ (ap (oneS n u) t) = ap θ t := by
 rw [ap_ap]; refine ap_congr fun m _ => ?_
 unfold oneS
 split
 ·rename_i h; rw [h, ← hs]
 ·exact ap_one
theorem mem_oneS {m : Int} (h : m ∈ ap (oneS n u) x) : m ∈ u ∨ m ∈ x := by
 obtain ⟨z, hz, hm⟩ := mem_ap.1 h
 unfold oneS at hm
 split at hm
 ·exact .inl hm
 ·rw [List.mem_singleton.1 hm]; exact .inr hz
theorem not_oneS (h : n ∉ u) : n ∉ ap (oneS n u) x := fun hm => by
 obtain ⟨z, hz, hm⟩ := mem_ap.1 hm
 unfold oneS at hm
 split at hm
 ·exact h hm
 ·rename_i hne; exact hne (List.mem_singleton.1 hm).symm
theorem fixed_of (g : GoodS ar σ) (h : ap σ x = x) : ∀ z ∈ x, σ z = [z] := by
 intro z hz
 have hl := g.len_mem hz
 have hp := g.pos (x := z)
 rw [h] at hl
 have h1 : (σ z).length = 1 := by omega
 -- all are of length one, so the map is the identity on x
 have key : ∀ (l : List Int), ap σ l = l → (∀ w ∈ l, (σ w).length = 1) → ∀ w ∈ l, σ w = [w] := by
  intro l
  induction l with
  | nil => intro _ _ w hw; cases hw
  | cons a l ih =>
   intro e hone w hw
   have h2 := hone a (by simp)
   rw [ap_cons] at e
   match hs : σ a, h2 with
   | [c], _ =>
    rw [hs, List.singleton_append, List.cons.injEq] at e
    rcases List.mem_cons.1 hw with rfl | hw
    ·rw [hs, e.1]
    ·exact ih e.2 (fun w hw => hone w (by simp [hw])) w hw
 refine key x h (fun w hw => ?_) z hz
 have h5 := g.len_mem hw
 have h6 := g.pos (x := w)
 rw [h] at h5; omega
theorem SolS.bind (h : SolS ar A C σ) (hn : n < 0) (hf : σ n = [n]) (hu : WF ar u 1) (huf : ap σ u = u) (hno : n ∉ u) (hall : ∀ θ, GoodS ar θ → ap θ A = ap θ C → θ n = ap θ u) : SolS ar A C (fun m => ap (oneS n u) (σ m)) := by
 have g1 := oneS_good hn hu
 refine ⟨⟨fun m hm => ?_, fun m hm => ap_wf g1 (h.good.var m hm)⟩, fun m => ?_, fun θ g hθ m => ?_⟩
 ·show ap (oneS n u) (σ m) = [m]
  rw [h.good.sym m hm, ap_one]; unfold oneS; rw [if_neg (by omega)]
 ·show ap (fun m => ap (oneS n u) (σ m)) (ap (oneS n u) (σ m)) = ap (oneS n u) (σ m)
  rw [← ap_ap]
  -- σ leaves alone what stands there, since n does not
  have e : ap σ (ap (oneS n u) (σ m)) = ap (oneS n u) (σ m) := by
   rw [ap_ap]
   have : ap (fun z => ap σ (oneS n u z)) (σ m) = ap (fun z => ap (oneS n u) (σ z)) (σ m) := ap_congr fun z hz => by
    by_cases hzn : z = n
    ·subst hzn
     show ap σ (oneS z u z) = ap (oneS z u) (σ z)
     rw [hf, ap_one]
     have : oneS z u z = u := by unfold oneS; rw [if_pos rfl]
     rw [this, huf]
    ·have h1 : oneS n u z = [z] := by unfold oneS; rw [if_neg hzn]
     rw [h1, ap_one]
     have hz2 : σ z = [z] := fixed_of h.good (h.idem m) z hz
     rw [hz2, ap_one, h1]
   rw [this, ← ap_ap, h.idem m]
  rw [e]
  exact oneS_id (not_oneS hno)
 ·show ap θ (ap (oneS n u) (σ m)) = θ m
  rw [oneS_sat (hall θ g hθ), h.most θ g hθ m]
theorem SolS.fixed (h : SolS ar A C σ) {t : List Int} : ∀ z ∈ ap σ t, σ z = [z] :=
 fixed_of h.good (by rw [ap_ap]; exact ap_congr fun m _ => h.idem m)
theorem diff_lt (hx : WF ar x 1) (hy : WF ar y 1) (hne : x ≠ y) (hpre : x.take k = y.take k) (hk : k ≤ x.length ∧ k ≤ y.length) (hstop : k = x.length ∨ k = y.length ∨ x.getD k 0 ≠ y.getD k 0) : k < x.length ∧ k < y.length ∧ x.getD k 0 ≠ y.getD k 0 := by
 have h1 : k ≠ x.length := fun e => by
  have e2 : x = y.take k := by rw [← hpre, e, List.take_length]
  have e3 : x ++ y.drop k = y ++ [] := by
   have h9 := List.take_append_drop k y
   rw [← e2] at h9
   rw [List.append_nil]; exact h9
  exact hne (WF_same hx hy e3).1
 have h2 : k ≠ y.length := fun e => by
  have e2 : y = x.take k := by rw [hpre, e, List.take_length]
  have e3 : y ++ x.drop k = x ++ [] := by
   have h9 := List.take_append_drop k x
   rw [← e2] at h9
   rw [List.append_nil]; exact h9
  exact hne (WF_same hy hx e3).1.symm
 rcases hstop with h | h | h
 ·exact absurd h h1
 ·exact absurd h h2
 ·exact ⟨by omega, by omega, h⟩
theorem diff_sub (g : GoodS ar θ) (hx : TermW ar x) (hy : TermW ar y) (hk : k < x.length ∧ k < y.length) (hpre : x.take k = y.take k) (e : ap θ x = ap θ y) : ap θ (sub ar x k) = ap θ (sub ar y k) := by
 have e1 := congrArg (ap θ) (three_parts hx hk.1)
 have e2 := congrArg (ap θ) (three_parts hy hk.2)
 rw [ap_app, ap_app, List.append_assoc] at e1 e2
 rw [e1, e2, hpre] at e
 have e3 := List.append_cancel_left e
 exact (WF_same (ap_wf g (hx.sub hk.1).wf) (ap_wf g (hy.sub hk.2).wf) e3).1
theorem sub_headW {t : List Int} (h : TermW ar t) {p : Nat} (hp : p < t.length) : (sub ar t p).getD 0 0 = t.getD p 0 := by
 have he := h.endN hp
 unfold sub
 have e : (t.drop p).take (endN ar t p - p) = t.getD p 0 :: (t.drop (p + 1)).take (endN ar t p - p - 1) := by
  rw [drop_get 0 hp]
  obtain ⟨j, hj⟩ : ∃ j, endN ar t p - p = j + 1 := ⟨endN ar t p - p - 1, by omega⟩
  rw [hj, List.take_succ_cons]; rfl
 rw [e]; rfl
theorem occ_len (g : GoodS ar θ) (hn : n ∈ u) (hu : u ≠ [n]) : θ n ≠ ap θ u := fun e => by
 have h := g.len_mem hn
 rw [← e] at h
 have hl : u.length ≤ 1 := by omega
 match u, hl, hn, hu with
 | [a], _, hn, hu => exact hu (by rw [List.mem_singleton.1 hn])
end
section
variable {ar A C x y u t : List Int} {s : RowL} {σ : Sbs} {n : Int} {k i : Nat}
open Classical in
noncomputable def uniB (ar A C : List Int) : Bool := decide (∃ σ, MguS ar A C σ ∧ (∀ n, -24 ≤ n → n < 0 → (σ n).length ≤ 60) ∧ (ap σ A).length ≤ 60)
theorem uni_yes (h : MguS ar A C σ) (h1 : ∀ n, -24 ≤ n → n < 0 → (σ n).length ≤ 60) (h2 : (ap σ A).length ≤ 60) : uniB ar A C = true := by
 classical
 unfold uniB; exact decide_eq_true ⟨σ, h, h1, h2⟩
theorem uni_no (h : ∀ σ, MguS ar A C σ → (∀ n, -24 ≤ n → n < 0 → (σ n).length ≤ 60) → (ap σ A).length ≤ 60 → False) : uniB ar A C = false := by
 classical
 unfold uniB; exact decide_eq_false fun ⟨σ, a, b, c⟩ => h σ a b c
theorem fill_yes (h : (fillL s t).isSome = true) : (fillL s t).getD [] = ap (lk s) t ∧ (ap (lk s) t).length ≤ 60 := by
 obtain ⟨u, hu⟩ := Option.isSome_iff_exists.1 h
 have h1 := fillL_flat hu
 have h2 := (fillL_len hu).1
 rw [hu]
 exact ⟨h1, by rw [h1] at h2; exact h2⟩
theorem fill_long (h : (fillL s t).isSome = false) : 60 < (ap (lk s) t).length := by
 rcases Nat.lt_or_ge 60 (ap (lk s) t).length with h1 | h1
 ·exact h1
 ·rw [fillL_of h1] at h; cases h
structure UniI (ar A C : List Int) (s : RowL) : Prop where
 sol : SolS ar A C (lk s)
 len : s.length ≤ 24
 rows : RowsOk ar s
theorem lk_nil : lk [] = fun n => [n] := by
 funext n
 rcases Int.lt_or_le n 0 with h | h
 ·exact lk_none h (by simp)
 ·exact lk_sym h
theorem UniI.start : UniI ar A C [] := ⟨by rw [lk_nil]; exact SolS.start, by simp, fun i => .inl (by simp)⟩
theorem UniI.bound (h : UniI ar A C s) : ∀ i, (s.getD i []).length ≤ 60 := fun i => by
 rcases h.rows i with e | e
 ·rw [e]; simp
 ·exact (termOk_len e).2
theorem UniI.lkLen (h : UniI ar A C s) : (lk s n).length ≤ 60 := lk_bound (by omega) h.bound n
theorem UniI.longA (h : UniI ar A C s) (h1 : 60 < (ap (lk s) A).length) : uniB ar A C = false := uni_no fun σ m _ h2 => by
 have e := congrArg List.length (most_ap (h.sol.most σ m.good m.eq) A)
 have := m.good.len (t := ap (lk s) A)
 omega
theorem UniI.longC (h : UniI ar A C s) (h1 : 60 < (ap (lk s) C).length) : uniB ar A C = false := uni_no fun σ m _ h2 => by
 have e := congrArg List.length (most_ap (h.sol.most σ m.good m.eq) C)
 have := m.good.len (t := ap (lk s) C)
 rw [← m.eq] at e
 omega
theorem UniI.done (h : UniI ar A C s) (e : ap (lk s) A = ap (lk s) C) (hl : (ap (lk s) A).length ≤ 60) : MguS ar A C (lk s) ∧ uniB ar A C = true :=
 ⟨h.sol.done e, uni_yes (h.sol.done e) (fun _ _ _ => h.lkLen) hl⟩
theorem UniI.ok (h : UniI ar A C s) (ht : termOk ar t = true) (hl : (ap (lk s) t).length ≤ 60) : termOk ar (ap (lk s) t) = true := fill_ok h.rows ht (fillL_of hl)
structure Dif (ar A C : List Int) (s : RowL) (n : Int) (u : List Int) : Prop where
 neg : n < 0
 ge : -24 ≤ n
 free : lk s n = [n]
 ok : termOk ar u = true
 fix : ap (lk s) u = u
 ne : u ≠ [n]
 all : ∀ θ, GoodS ar θ → ap θ A = ap θ C → θ n = ap θ u
theorem diff_at (hx : termOk ar x = true) (hy : termOk ar y = true) (hpre : x.take k = y.take k) (hk : k ≤ x.length ∧ k ≤ y.length) (hstop : k = x.length ∨ k = y.length ∨ x.getD k 0 ≠ y.getD k 0) (hkx : k ≠ x.length) : k < x.length ∧ k < y.length ∧ x.getD k 0 ≠ y.getD k 0 := by
 refine diff_lt (termOk_iff.1 hx).whole (termOk_iff.1 hy).whole (fun e => ?_) hpre hk hstop
 rcases hstop with h | h | h
 ·exact hkx h
 ·rw [← e] at h; exact hkx h
 ·rw [e] at h; exact h rfl
theorem diff_end (hx : termOk ar x = true) (hy : termOk ar y = true) (hpre : x.take k = y.take k) (hk : k ≤ x.length ∧ k ≤ y.length) (hkx : k = x.length) : x = y := by
 apply Classical.byContradiction
 intro hne
 have := diff_lt (termOk_iff.1 hx).whole (termOk_iff.1 hy).whole hne hpre hk (.inl hkx)
 omega
theorem sub_all (h : UniI ar A C s) (ht : termOk ar t = true) (hl : (ap (lk s) t).length ≤ 60) {z : List Int} (hz : ∀ m ∈ z, m ∈ ap (lk s) t) : ap (lk s) z = z := by
 have : ap (lk s) z = ap (fun n => [n]) z := ap_congr fun m hm => h.sol.fixed m (hz m hm)
 rw [this, ap_id]
theorem diff_eq (h : UniI ar A C s) (hx : x = ap (lk s) A) (hy : y = ap (lk s) C) (ox : termOk ar x = true) (oy : termOk ar y = true) (hk : k < x.length ∧ k < y.length) (hpre : x.take k = y.take k) : ∀ θ, GoodS ar θ → ap θ A = ap θ C → ap θ (sub ar x k) = ap θ (sub ar y k) := fun θ g e => by
 refine diff_sub g (termW_of ox) (termW_of oy) hk hpre ?_
 rw [hx, hy, most_ap (h.sol.most θ g e), most_ap (h.sol.most θ g e), e]
theorem UniI.clash (h : UniI ar A C s) (hx : x = ap (lk s) A) (hy : y = ap (lk s) C) (ox : termOk ar x = true) (oy : termOk ar y = true) (hk : k < x.length ∧ k < y.length) (hpre : x.take k = y.take k) (hne : x.getD k 0 ≠ y.getD k 0) (h1 : 0 ≤ x.getD k 0) (h2 : 0 ≤ y.getD k 0) : uniB ar A C = false := uni_no fun σ m _ _ => by
 have e1 := sub_headW (termW_of ox) hk.1
 have e2 := sub_headW (termW_of oy) hk.2
 exact ap_heads m.good ((termW_of ox).sub hk.1) ((termW_of oy).sub hk.2) (by omega) (by omega) (by omega) (diff_eq h hx hy ox oy hk hpre σ m.good m.eq)
theorem UniI.difL (h : UniI ar A C s) (hA : termOk ar A = true) (hC : termOk ar C = true) (hx : x = ap (lk s) A) (hy : y = ap (lk s) C) (ox : termOk ar x = true) (oy : termOk ar y = true) (hk : k < x.length ∧ k < y.length) (hpre : x.take k = y.take k) (hne : x.getD k 0 ≠ y.getD k 0) (h1 : x.getD k 0 < 0) : Dif ar A C s (x.getD k 0) (sub ar y k) := by
 have e1 := sub_headW (termW_of ox) hk.1
 have e2 := sub_headW (termW_of oy) hk.2
 have hv : sub ar x k = [x.getD k 0] := by have := ((termW_of ox).sub hk.1).isvar (by omega); rwa [e1] at this
 have hm : x.getD k 0 ∈ x := mem_of_getD hk.1 rfl
 refine ⟨h1, termOk_ge ox hk.1, h.sol.fixed _ (by rw [hx] at hm; rw [← hx] at hm ⊢; exact hm), sub_ok oy hk.2, sub_all h hC (by rw [← hy]; exact (termOk_len oy).2) (fun m hm => by rw [← hy]; exact mem_sub hm), fun e => ?_, fun θ g e => ?_⟩
 ·rw [e] at e2; exact hne e2
 ·have := diff_eq h hx hy ox oy hk hpre θ g e
  rwa [hv, ap_one] at this
theorem UniI.difR (h : UniI ar A C s) (hA : termOk ar A = true) (hC : termOk ar C = true) (hx : x = ap (lk s) A) (hy : y = ap (lk s) C) (ox : termOk ar x = true) (oy : termOk ar y = true) (hk : k < x.length ∧ k < y.length) (hpre : x.take k = y.take k) (hne : x.getD k 0 ≠ y.getD k 0) (h1 : y.getD k 0 < 0) : Dif ar A C s (y.getD k 0) (sub ar x k) := by
 have e1 := sub_headW (termW_of ox) hk.1
 have e2 := sub_headW (termW_of oy) hk.2
 have hv : sub ar y k = [y.getD k 0] := by have := ((termW_of oy).sub hk.2).isvar (by omega); rwa [e2] at this
 have hm : y.getD k 0 ∈ y := mem_of_getD hk.2 rfl
 refine ⟨h1, termOk_ge oy hk.2, h.sol.fixed _ (by rw [← hy]; exact hm), sub_ok ox hk.1, sub_all h hA (by rw [← hx]; exact (termOk_len ox).2) (fun m hm => by rw [← hx]; exact mem_sub hm), fun e => ?_, fun θ g e => ?_⟩
 ·rw [e] at e1; exact hne e1.symm
 ·have := diff_eq h hx hy ox oy hk hpre θ g e
  rw [hv, ap_one] at this
  exact this.symm
theorem Dif.occ (h : Dif ar A C s n u) (ho : n ∈ u) : uniB ar A C = false := uni_no fun σ m _ _ => occ_len m.good ho h.ne (h.all σ m.good m.eq)
def bindR (s : RowL) (n : Int) (u : List Int) : RowL := (List.range 24).map fun (k : Nat) => ap (oneS n u) (lk s (-1 - (k : Int)))
def bindB (s : RowL) (n : Int) (u : List Int) : Bool := (List.range 24).all fun (k : Nat) => decide ((ap (oneS n u) (lk s (-1 - (k : Int)))).length ≤ 60)
theorem bindR_get {k : Nat} (hk : k < 24) : (bindR s n u).getD k [] = ap (oneS n u) (lk s (-1 - (k : Int))) := by
 unfold bindR; simp [List.getD, hk]
theorem bindR_len : (bindR s n u).length = 24 := by simp [bindR]
theorem oneS_pos (hu : u ≠ []) {z : List Int} (hz : z ≠ []) : ap (oneS n u) z ≠ [] := by
 cases z with
 | nil => exact absurd rfl hz
 | cons a z =>
  rw [ap_cons]; unfold oneS
  split
  ·intro e; exact hu (List.append_eq_nil_iff.1 e).1
  ·simp
theorem lk_ne (n : Int) : lk s n ≠ [] := fun e => by have := lk_pos (s := s) (n := n); rw [e] at this; simp at this
theorem lk_bindR (hl : s.length ≤ 24) (hn : n < 0) (hg : -24 ≤ n) (hu : u ≠ []) : lk (bindR s n u) = fun m => ap (oneS n u) (lk s m) := by
 funext m
 rcases Int.lt_or_le m 0 with h | h
 ·rcases Int.lt_or_le m (-24) with h2 | h2
  ·rw [lk_none h (getD_out (by rw [bindR_len]; unfold varIx; omega)), lk_none h (getD_out (by unfold varIx; omega)), ap_one]
   unfold oneS; rw [if_neg (by omega)]
  ·have hv : varIx m < 24 := by unfold varIx; omega
   have e : (bindR s n u).getD (varIx m) [] = ap (oneS n u) (lk s m) := by
    rw [bindR_get hv]; congr 2; unfold varIx; omega
   rw [lk_some h (by rw [e]; exact oneS_pos hu (lk_ne m)), e]
 ·rw [lk_sym h, lk_sym h, ap_one]; unfold oneS; rw [if_neg (by omega)]
theorem UniI.wfLk (h : UniI ar A C s) (hn : n < 0) : WF ar (lk s n) 1 := h.sol.good.var n hn
theorem UniI.geLk (h : UniI ar A C s) (hg : -24 ≤ n) : ∀ m ∈ lk s n, -24 ≤ m := by
 rcases Int.lt_or_le n 0 with h0 | h0
 ·by_cases e : s.getD (varIx n) [] = []
  ·rw [lk_none h0 e]; intro m hm; rw [List.mem_singleton.1 hm]; exact hg
  ·rw [lk_some h0 e]
   exact (termOk_iff.1 ((h.rows _).resolve_left e)).ge
 ·rw [lk_sym h0]; intro m hm; rw [List.mem_singleton.1 hm]; exact hg
theorem UniI.bind (h : UniI ar A C s) (d : Dif ar A C s n u) (hno : n ∉ u) (hb : bindB s n u = true) : UniI ar A C (bindR s n u) := by
 have hu := (termOk_iff.1 d.ok).whole
 have hune : u ≠ [] := fun e => by have := termOk_len d.ok; rw [e] at this; simp at this
 have hs := h.sol.bind d.neg d.free hu d.fix hno d.all
 refine ⟨by rw [lk_bindR h.len d.neg d.ge hune]; exact hs, by rw [bindR_len]; omega, fun k => ?_⟩
 rcases Nat.lt_or_ge k 24 with hk | hk
 ·rw [bindR_get hk]
  have hl := of_decide_eq_true (List.all_eq_true.1 hb k (List.mem_range.2 hk))
  refine .inr (termOk_iff.2 ⟨termOk_sig d.ok, ?_, hl, fun m hm => ?_, ap_wf (oneS_good d.neg hu) (h.wfLk (by omega))⟩)
  ·have := List.length_pos_iff.2 (oneS_pos (n := n) hune (lk_ne (s := s) (-1 - (k : Int)))); omega
  ·rcases mem_oneS hm with h1 | h1
   ·exact (termOk_iff.1 d.ok).ge m h1
   ·exact h.geLk (by omega) m h1
 ·exact .inl (getD_out (by rw [bindR_len]; exact hk))
theorem UniI.bindLong (h : UniI ar A C s) (d : Dif ar A C s n u) (hno : n ∉ u) (hb : bindB s n u = false) : uniB ar A C = false := uni_no fun σ m h1 _ => by
 have hs := h.sol.bind d.neg d.free (termOk_iff.1 d.ok).whole d.fix hno d.all
 rw [Bool.eq_false_iff] at hb
 refine hb (List.all_eq_true.2 fun k hk => decide_eq_true ?_)
 have hk := List.mem_range.1 hk
 have e := congrArg List.length (hs.most σ m.good m.eq (-1 - (k : Int)))
 have h2 := m.good.len (t := ap (oneS n u) (lk s (-1 - (k : Int))))
 have h3 := h1 (-1 - (k : Int)) (by omega) (by omega)
 omega
def freeN (s : RowL) : Nat := (List.range 24).countP fun (k : Nat) => decide (lk s (-1 - (k : Int)) = [-1 - (k : Int)])
theorem countP_less {α : Type} {P Q : α → Bool} : ∀ {l : List α}, (∀ a ∈ l, Q a = true → P a = true) → (∃ a ∈ l, P a = true ∧ Q a = false) → l.countP Q < l.countP P
 | [], _, ⟨a, ha, _⟩ => by cases ha
 | b :: l, h, ⟨a, ha, h1, h2⟩ => by
  have hle : ∀ (l : List α), (∀ a ∈ l, Q a = true → P a = true) → l.countP Q ≤ l.countP P := fun l h => List.countP_mono_left h
  rw [List.countP_cons, List.countP_cons]
  rcases List.mem_cons.1 ha with rfl | ha
  ·have := hle l fun c hc => h c (by simp [hc])
   rw [h1, h2]; simp; omega
  ·have := countP_less (l := l) (fun c hc => h c (by simp [hc])) ⟨a, ha, h1, h2⟩
   have hb := h b (by simp)
   cases hq : Q b with
   | false => simp; omega
   | true => rw [hb hq]; simp; omega
theorem UniI.less (h : UniI ar A C s) (d : Dif ar A C s n u) : freeN (bindR s n u) < freeN s := by
 have hune : u ≠ [] := fun e => by have := termOk_len d.ok; rw [e] at this; simp at this
 have hn0 := d.neg
 have hg := d.ge
 unfold freeN
 rw [lk_bindR h.len d.neg d.ge hune]
 refine countP_less (fun k hk hq => decide_eq_true ?_) ⟨varIx n, List.mem_range.2 (by unfold varIx; omega), ?_, ?_⟩
 ·have e := of_decide_eq_true hq
  dsimp only at e
  generalize (-1 - (k : Int)) = m at e ⊢
  have hp := lk_pos (s := s) (n := m)
  have hl : (lk s m).length ≤ (ap (oneS n u) (lk s m)).length := (oneS_good d.neg (termOk_iff.1 d.ok).whole).len
  rw [e] at hl
  match hz : lk s m, hp, hl with
  | [z], _, _ =>
   rw [hz, ap_one] at e
   unfold oneS at e
   split at e
   ·have hf := d.fix
    rw [e, ap_one, hz] at hf
    exact hf
   ·exact e
 ·have e : (-1 - ((varIx n : Nat) : Int)) = n := by unfold varIx; omega
  rw [e]; exact decide_eq_true d.free
 ·have e : (-1 - ((varIx n : Nat) : Int)) = n := by unfold varIx; omega
  rw [e]
  refine decide_eq_false fun e2 => d.ne ?_
  dsimp only at e2
  rw [d.free, ap_one] at e2
  unfold oneS at e2
  rwa [if_pos rfl] at e2
theorem lk_one (hi : i < 24) (hu : u ≠ []) : lk ((List.replicate 24 ([] : List Int)).set i u) = oneS (-1 - (i : Int)) u := by
 funext m
 unfold oneS
 rcases Int.lt_or_le m 0 with h | h
 ·by_cases e : m = -1 - (i : Int)
  ·have hv : varIx m = i := by unfold varIx; omega
   have hg : ((List.replicate 24 ([] : List Int)).set i u).getD (varIx m) [] = u := by rw [hv]; simp [List.getD, hi]
   rw [if_pos e, lk_some h (by rw [hg]; exact hu), hg]
  ·have hv : varIx m ≠ i := by unfold varIx; omega
   have hg : ((List.replicate 24 ([] : List Int)).set i u).getD (varIx m) [] = [] := by
    rw [List.getD_eq_getElem?_getD, List.getElem?_set_ne (fun e => hv e.symm), List.getElem?_replicate]; split <;> rfl
   rw [if_neg e, lk_none h hg]
 ·rw [lk_sym h, if_neg (by omega)]
theorem bind_fail (hk : k < 24) (h : 60 < (ap (oneS n u) (lk s (-1 - (k : Int)))).length) : bindB s n u = false := by
 rw [Bool.eq_false_iff]
 intro h1
 have := of_decide_eq_true (List.all_eq_true.1 h1 k (List.mem_range.2 hk))
 omega
theorem bind_take (hk : k < 24) : (bindR s n u).take (k + 1) = (bindR s n u).take k ++ [ap (oneS n u) (lk s (-1 - (k : Int)))] := by
 rw [take_succ_getD [] (by rw [bindR_len]; exact hk), bindR_get hk]
theorem bind_all (h : ∀ k : Nat, k < 24 → (ap (oneS n u) (lk s (-1 - (k : Int)))).length ≤ 60) : bindB s n u = true :=
 List.all_eq_true.2 fun k hk => decide_eq_true (h k (List.mem_range.1 hk))
end
section
variable {ar A C t a b : List Int} {s l : RowL} {σ : Sbs} {n c : Int} {k i : Nat}
structure UniR (ar A C : List Int) (s : RowL) : Prop where
 mgu : MguS ar A C (lk s)
 len : s.length ≤ 24
 rows : RowsOk ar s
theorem UniR.bound (h : UniR ar A C s) : ∀ i, (s.getD i []).length ≤ 60 := fun i => by
 rcases h.rows i with e | e
 ·rw [e]; simp
 ·exact (termOk_len e).2
theorem UniI.told (h : UniI ar A C s) (e : ap (lk s) A = ap (lk s) C) (hl : (ap (lk s) A).length ≤ 60) : UniR ar A C s := ⟨(h.done e hl).1, h.len, h.rows⟩
theorem UniR.plain (h : UniR ar A C s) : UniR ar A C (plainL s) := by
 have e : lk (plainL s) = lk s := funext fun n => lk_plain s n
 refine ⟨by rw [e]; exact h.mgu, Nat.le_trans (plainL_le s) h.len, fun i => ?_⟩
 rw [plainL_get]
 split
 ·exact .inl rfl
 ·exact h.rows i
theorem MguS.cut (h : MguS ar A C σ) (hA : ∀ x ∈ A, c ≤ x) (hC : ∀ x ∈ C, c ≤ x) : MguS ar A C (fun n => if n < c then [n] else σ n) := by
 have cong : ∀ (X : List Int), (∀ x ∈ X, c ≤ x) → ap (fun n => if n < c then [n] else σ n) X = ap σ X := fun X hX => ap_congr fun x hx => by rw [if_neg (by have := hX x hx; omega)]
 refine ⟨⟨fun n hn => ?_, fun n hn => ?_⟩, by rw [cong A hA, cong C hC, h.eq], fun θ g e t => most_ap (fun n => ?_) t⟩
 ·split
  ·rfl
  ·exact h.good.sym n hn
 ·split
  ·exact WF.var hn
  ·exact h.good.var n hn
 ·split
  ·exact ap_one
  ·have := h.most θ g e [n]
   rwa [ap_one, ap_one] at this
theorem MguS.fix (h : MguS ar A C σ) {m : Int} : ∀ z ∈ σ m, σ z = [z] := fixed_of h.good (by have := h.into h (t := [m]); rwa [ap_one] at this)
theorem MguS.ge (h : MguS ar A C σ) (hc : c ≤ 0) (hA : ∀ x ∈ A, c ≤ x) (hC : ∀ x ∈ C, c ≤ x) (hn : c ≤ n) : ∀ z ∈ σ n, c ≤ z := by
 intro z hz
 rcases Int.lt_or_le z c with hlt | hge
 ·exfalso
  -- another solution: what stands for z is moved, where σ tells it
  let τ : Sbs := fun m => if m = z then [z - 1] else [m]
  have gτ : GoodS ar τ := ⟨fun m hm => by show (if m = z then [z - 1] else [m]) = [m]; rw [if_neg (by omega)], fun m hm => by show WF ar (if m = z then [z - 1] else [m]) 1; split; exact WF.var (by omega); exact WF.var hm⟩
  let θ : Sbs := fun m => if m < c then [m] else ap τ (σ m)
  have hθA : ∀ (X : List Int), (∀ x ∈ X, c ≤ x) → ap θ X = ap τ (ap σ X) := fun X hX => by
   rw [ap_ap]; exact ap_congr fun x hx => by show (if x < c then [x] else ap τ (σ x)) = _; rw [if_neg (by have := hX x hx; omega)]
  have gθ : GoodS ar θ := ⟨fun m hm => by show (if m < c then [m] else ap τ (σ m)) = [m]; rw [if_neg (by omega), h.good.sym m hm, ap_one]; exact gτ.sym m hm, fun m hm => by
   show WF ar (if m < c then [m] else ap τ (σ m)) 1
   split
   ·exact WF.var hm
   ·exact ap_wf gτ (h.good.var m hm)⟩
  have e := h.most θ gθ (by rw [hθA A hA, hθA C hC, h.eq]) [n]
  rw [ap_one, ap_one] at e
  have e1 : ap θ (σ n) = σ n := by
   have : ap θ (σ n) = ap (fun m => [m]) (σ n) := ap_congr fun w hw => by
    show (if w < c then [w] else ap τ (σ w)) = [w]
    split
    ·rfl
    ·rw [h.fix w hw, ap_one]; show (if w = z then [z - 1] else [w]) = [w]; rw [if_neg (by omega)]
   rw [this, ap_id]
  have e2 : θ n = ap τ (σ n) := by show (if n < c then [n] else ap τ (σ n)) = _; rw [if_neg (by omega)]
  rw [e1, e2] at e
  have hm : z ∈ ap τ (σ n) := by rw [← e]; exact hz
  obtain ⟨w, hw, hwz⟩ := mem_ap.1 hm
  have : z ∈ (if w = z then [z - 1] else [w]) := hwz
  split at this
  ·have := List.mem_singleton.1 this; omega
  ·rename_i hne; exact hne (List.mem_singleton.1 this).symm
 ·exact hge
def unR (l : RowL) (σ : Sbs) (k : Nat) : RowL := (List.range 24).map fun (i : Nat) => if i < k ∧ l.getD i [] ≠ [] then σ (-1 - (i : Int)) else []
theorem unR_len : (unR l σ k).length = 24 := by simp [unR]
theorem unR_get (hi : i < 24) : (unR l σ k).getD i [] = if i < k ∧ l.getD i [] ≠ [] then σ (-1 - (i : Int)) else [] := by
 unfold unR
 rw [List.getD_eq_getElem?_getD, List.getElem?_map, List.getElem?_range hi]; rfl
theorem unR_zero : unR l σ 0 = List.replicate 24 [] := by
 refine ext_any ([] : List Int) (by rw [unR_len]; simp) fun i hi => ?_
 rw [unR_len] at hi
 rw [unR_get hi, if_neg (by omega), List.getD_eq_getElem?_getD, List.getElem?_replicate]; split <;> rfl
theorem unR_skip (hk : k < 24) (h : l.getD k [] = []) : unR l σ (k + 1) = unR l σ k := by
 refine ext_any ([] : List Int) (by rw [unR_len, unR_len]) fun i hi => ?_
 rw [unR_len] at hi
 rw [unR_get hi, unR_get hi]
 by_cases e : i = k
 ·subst e; rw [if_neg (fun x => x.2 h), if_neg (fun x => x.2 h)]
 ·by_cases hc : i < k ∧ l.getD i [] ≠ []
  ·rw [if_pos hc, if_pos ⟨by omega, hc.2⟩]
  ·rw [if_neg hc, if_neg (fun x => hc ⟨by omega, x.2⟩)]
theorem unR_put (hk : k < 24) (h : l.getD k [] ≠ []) : unR l σ (k + 1) = (unR l σ k).set k (σ (-1 - (k : Int))) := by
 refine ext_any ([] : List Int) (by rw [List.length_set, unR_len, unR_len]) fun i hi => ?_
 rw [unR_len] at hi
 rw [unR_get hi]
 by_cases e : i = k
 ·subst e; rw [if_pos ⟨by omega, h⟩]; simp [List.getD, unR_len, hi]
 ·have : ((unR l σ k).set k (σ (-1 - (k : Int)))).getD i [] = (unR l σ k).getD i [] := by simp [List.getD, List.getElem?_set_ne (fun x : k = i => e x.symm)]
  rw [this, unR_get hi]
  by_cases hc : i < k ∧ l.getD i [] ≠ []
  ·rw [if_pos hc, if_pos ⟨by omega, hc.2⟩]
  ·rw [if_neg hc, if_neg (fun x => hc ⟨by omega, x.2⟩)]
theorem lk_unR (g : GoodS ar σ) (hs : Sol l σ) : lk (unR l σ 24) = fun n => if n < -24 then [n] else σ n := by
 funext n
 rcases Int.lt_or_le n 0 with h | h
 ·rcases Int.lt_or_le n (-24) with h2 | h2
  ·rw [if_pos h2, lk_none h (getD_out (by rw [unR_len]; unfold varIx; omega))]
  ·rw [if_neg (by omega)]
   have hv : varIx n < 24 := by unfold varIx; omega
   have e : (-1 - ((varIx n : Nat) : Int)) = n := by unfold varIx; omega
   have hp := g.pos (x := n)
   by_cases hc : l.getD (varIx n) [] = []
   ·rw [lk_none h (by rw [unR_get hv, if_neg (fun x => x.2 hc)]), hs.free (by rw [lkN_neg h]; exact hc)]
   ·have hg : (unR l σ 24).getD (varIx n) [] = σ n := by rw [unR_get hv, if_pos ⟨hv, hc⟩, e]
    rw [lk_some h (by rw [hg]; intro x; rw [x] at hp; simp at hp), hg]
 ·rw [lk_sym h, if_neg (by omega), hs.sym h]
theorem unR_told (hA : termOk ar A = true) (hC : termOk ar C = true) (hm : Mgu ar A C l) (hs : Sol l σ) (h1 : (ap σ A).length ≤ 60) (h2 : ∀ i : Nat, i < 24 → l.getD i [] ≠ [] → (σ (-1 - (i : Int))).length ≤ 60) : UniR ar A C (plainL (unR l σ 24)) ∧ uniB ar A C = true := by
 have m := hm.mguS hs
 have g := m.good
 have gA := (termOk_iff.1 hA).ge
 have gC := (termOk_iff.1 hC).ge
 have hcut := m.cut gA gC
 have e := lk_unR g hs
 have hU : UniR ar A C (unR l σ 24) := by
  refine ⟨by rw [e]; exact hcut, by rw [unR_len]; omega, fun i => ?_⟩
  rcases Nat.lt_or_ge i 24 with hi | hi
  ·rw [unR_get hi]
   by_cases hc : i < 24 ∧ l.getD i [] ≠ []
   ·rw [if_pos hc]
    have hp := g.pos (x := -1 - (i : Int))
    exact .inr (termOk_iff.2 ⟨termOk_sig hA, hp, h2 i hi hc.2, m.ge (by omega) gA gC (by omega), g.var _ (by omega)⟩)
   ·rw [if_neg hc]; exact .inl rfl
  ·exact .inl (getD_out (by rw [unR_len]; exact hi))
 refine ⟨hU.plain, uni_yes hcut (fun n hg hn => ?_) ?_⟩
 ·show (if n < -24 then [n] else σ n).length ≤ 60
  rw [if_neg (by omega)]
  by_cases hc : l.getD (varIx n) [] = []
  ·rw [hs.free (by rw [lkN_neg hn]; exact hc)]; simp
  ·have := h2 (varIx n) (by unfold varIx; omega) hc
   rwa [show (-1 - ((varIx n : Nat) : Int)) = n from by unfold varIx; omega] at this
 ·have : ap (fun n => if n < -24 then [n] else σ n) A = ap σ A := ap_congr fun x hx => by rw [if_neg (by have := gA x hx; omega)]
  rw [this]; exact h1
theorem mgu_long (hm : Mgu ar A C l) (hs : Sol l σ) (h : 60 < (ap σ A).length ∨ ∃ i : Nat, i < 24 ∧ 60 < (σ (-1 - (i : Int))).length) : uniB ar A C = false := uni_no fun ρ m h1 h2 => by
 rcases h with h | ⟨i, hi, h⟩
 ·have := (hm.mguS hs).len m (t := A); omega
 ·have := (hm.mguS hs).len m (t := [-1 - (i : Int)])
  rw [ap_one, ap_one] at this
  have := h1 (-1 - (i : Int)) (by omega) (by omega)
  omega
theorem uni_none (h : ∀ θ, GoodS ar θ → ap θ A ≠ ap θ C) : uniB ar A C = false := uni_no fun σ m _ _ => h σ m.good m.eq
def shiftL (t : List Int) (k : Int) : List Int := t.map fun n => if n < 0 then n - k else n
def shiftB (t : List Int) (k : Int) : Bool := t.all fun n => decide (n < 0 → -24 ≤ n - k)
theorem shift_len {k : Int} : (shiftL t k).length = t.length := by simp [shiftL]
theorem shift_no {k : Int} {i : Nat} (hi : i < t.length) (h0 : t.getD i 0 < 0) (h : t.getD i 0 - k < -24) : shiftB t k = false := by
 rw [Bool.eq_false_iff]; intro hb
 have h1 := of_decide_eq_true (List.all_eq_true.1 hb (t.getD i 0) (mem_of_getD hi rfl))
 have := h1 h0; omega
theorem shift_yes {k : Int} (h : ∀ i, i < t.length → t.getD i 0 < 0 → -24 ≤ t.getD i 0 - k) : shiftB t k = true := by
 refine List.all_eq_true.2 fun n hn => decide_eq_true fun h0 => ?_
 obtain ⟨i, hi, e⟩ := List.getElem_of_mem hn
 have e2 : t.getD i 0 = n := by simp [List.getD, hi, e]
 have := h i hi (by omega); omega
theorem shift_arity {k x : Int} (hk : 0 ≤ k) : arity ar (if x < 0 then x - k else x) = arity ar x := by
 by_cases hx : x < 0
 ·unfold arity; rw [if_pos hx, if_pos (by omega), if_pos hx]
 ·rw [if_neg hx]
theorem endGo_shift {k : Int} (hk : 0 ≤ k) : ∀ (r : List Int) (n : Nat), endGo ar (shiftL r k) n = endGo ar r n
 | r, 0 => by simp [endGo]
 | [], n + 1 => rfl
 | x :: r, n + 1 => by
  show endGo ar ((if x < 0 then x - k else x) :: shiftL r k) (n + 1) = _
  simp only [endGo, shift_arity hk, endGo_shift hk r]
  by_cases hx : x < 0
  ·rw [if_pos hx, if_pos (by omega), if_pos (by omega)]
  ·rw [if_neg hx]
theorem shift_ok {k : Int} (hk : 0 ≤ k) (ht : termOk ar t = true) (hb : shiftB t k = true) : termOk ar (shiftL t k) = true := by
 have h := termOk_iff.1 ht
 refine termOk_iff.2 ⟨h.sig, by rw [shift_len]; exact h.pos, by rw [shift_len]; exact h.len, fun x hx => ?_, by rw [endGo_shift hk, shift_len]; exact h.whole⟩
 obtain ⟨y, hy, rfl⟩ := List.mem_map.1 hx
 have h1 := of_decide_eq_true (List.all_eq_true.1 hb y hy)
 split
 ·rename_i h0; exact h1 h0
 ·omega
theorem ap_shift {k : Int} : ap σ (shiftL t k) = ap (fun n => σ (if n < 0 then n - k else n)) t := by
 unfold ap shiftL; rw [List.flatMap_map]
theorem good_shift {k : Int} (hk : 0 ≤ k) (g : GoodS ar σ) : GoodS ar (fun n => σ (if n < 0 then n - k else n)) :=
 ⟨fun n hn => by rw [if_neg (by omega)]; exact g.sym n hn, fun n hn => by rw [if_pos hn]; exact g.var _ (by omega)⟩
theorem orderL_map {f g : Int → Int} (h1 : ∀ n ∈ t, f n < 0 ↔ n < 0) (h2 : ∀ n ∈ t, g (f n) = n) : orderL (t.map f) = (orderL t).map f :=
 orderGo_map (s := []) h1 h2 (fun n hn => by cases hn)
theorem renamed_twice (hd : (orderL t).Nodup) : byL (orderL (byL (orderL t) t)) (byL (orderL t) t) = byL (orderL t) t := by
 let f : Int → Int := fun n => if n < 0 ∧ n ∈ orderL t then -1 - indexZ (orderL t) n else n
 let g : Int → Int := fun n => if n < 0 then (orderL t).getD (-1 - n).toNat n else n
 have hf : ∀ n ∈ t, n < 0 → n ∈ orderL t := fun n hn h0 => mem_orderL.2 ⟨h0, hn⟩
 have h1 : ∀ n ∈ t, f n < 0 ↔ n < 0 := fun n hn => by_neg
 have h0 : ∀ n, 0 ≤ n → f n = n := fun n hn => by show (if n < 0 ∧ n ∈ orderL t then _ else n) = n; rw [if_neg (fun x => by omega)]
 have hg : ∀ n, n ∈ orderL t → n < 0 → g (f n) = n := fun n hm hn => by
  have hl := indexZ_lt hm
  have e : f n = -1 - indexZ (orderL t) n := if_pos ⟨hn, hm⟩
  show (if f n < 0 then (orderL t).getD (-1 - f n).toNat (f n) else f n) = n
  rw [if_pos (by omega), e, show (-1 - (-1 - indexZ (orderL t) n)).toNat = (indexZ (orderL t) n).toNat from by omega]
  obtain ⟨i, hi, hi2⟩ := List.getElem_of_mem hm
  have := index_getElem hd hi
  rw [hi2] at this
  rw [this]; simp [List.getD, hi, hi2]
 have h2 : ∀ n ∈ t, g (f n) = n := fun n hn => by
  rcases Int.lt_or_le n 0 with h | h
  ·exact hg n (hf n hn h) h
  ·rw [h0 n h]; show (if n < 0 then _ else n) = n; rw [if_neg (by omega)]
 have e : byL (orderL t) t = t.map f := rfl
 have key := byL_map (o := orderL t) (t := t) (f := f) (g := g) h1 h0 h2 (fun n hn => hg n hn (mem_orderL.1 hn).1) hf
 conv => lhs; rw [e, orderL_map h1 h2]
 rw [key]
def mx0 (m x : Int) : Int := if m > -x then m else -x
def behL (t : List Int) : Int := t.foldl mx0 0
theorem beh_next {k : Nat} (hk : k < t.length) : behL (t.take (k + 1)) = mx0 (behL (t.take k)) (t.getD k 0) := by
 unfold behL; rw [take_succ_getD 0 hk, List.foldl_append]; rfl
theorem beh_fold : ∀ (r : List Int) (m : Int), m ≤ r.foldl mx0 m ∧ (∀ x ∈ r, -x ≤ r.foldl mx0 m) ∧ (r.foldl mx0 m = m ∨ ∃ x ∈ r, r.foldl mx0 m = -x)
 | [], m => by
  refine ⟨Int.le_refl m, fun x hx => ?_, Or.inl rfl⟩
  cases hx
 | y :: r, m => by
  obtain ⟨h1, h2, h3⟩ := beh_fold r (mx0 m y)
  have e : (y :: r).foldl mx0 m = r.foldl mx0 (mx0 m y) := rfl
  rw [e]
  have hy : m ≤ mx0 m y ∧ -y ≤ mx0 m y ∧ (mx0 m y = m ∨ mx0 m y = -y) := by unfold mx0; split <;> omega
  refine ⟨by omega, fun x hx => ?_, ?_⟩
  ·rcases List.mem_cons.1 hx with rfl | hx
   ·omega
   ·exact h2 x hx
  ·rcases h3 with h3 | ⟨x, hx, h3⟩
   ·rcases hy.2.2 with e2 | e2
    ·exact .inl (by omega)
    ·exact .inr ⟨y, by simp, by omega⟩
   ·exact .inr ⟨x, by simp [hx], h3⟩
theorem beh_min (h : 1 ≤ t.length) : (if 0 < -(minL t) then -(minL t) else 0) = behL t := by
 obtain ⟨h1, h2, h3⟩ := beh_fold t 0
 have hg := (minL_ge h (minL t)).1 (Int.le_refl _)
 have hle : ∀ x ∈ t, minL t ≤ x := hg
 have hm : minL t ∈ t := by
  have h9 := (foldl_min_le (t.drop 1) (t.getD 0 0)).2.2
  have e : minL t = (t.drop 1).foldl mn (t.getD 0 0) := rfl
  rcases h9 with h9 | h9
  ·rw [e, h9]; exact mem_of_getD (by omega) rfl
  ·rw [e]; exact List.mem_of_mem_drop h9
 have hb : behL t = t.foldl mx0 0 := rfl
 have h4 := h2 _ hm
 rcases h3 with h3 | ⟨x, hx, h3⟩
 ·split <;> omega
 ·have := hle x hx
  split <;> omega
theorem beh_range (h : ∀ x ∈ t, -24 ≤ x) : 0 ≤ behL t ∧ behL t ≤ 24 := by
 obtain ⟨h1, h2, h3⟩ := beh_fold t 0
 refine ⟨h1, ?_⟩
 show t.foldl mx0 0 ≤ 24
 rcases h3 with h3 | ⟨x, hx, h3⟩
 ·omega
 ·have := h x hx; omega
theorem beh_take (h : ∀ x ∈ t, -24 ≤ x) (k : Nat) : 0 ≤ behL (t.take k) ∧ behL (t.take k) ≤ 24 := beh_range fun x hx => h x (List.mem_of_mem_take hx)
noncomputable def apartB (ar a b : List Int) : Bool := (termOk ar a && termOk ar b) && (shiftB b (behL a) && uniB ar a (shiftL b (behL a)))
theorem apart_ok (h : apartB ar a b = true) : termOk ar a = true ∧ termOk ar b = true ∧ shiftB b (behL a) = true ∧ uniB ar a (shiftL b (behL a)) = true := by
 unfold apartB at h; simp only [Bool.and_eq_true] at h; exact ⟨h.1.1, h.1.2, h.2.1, h.2.2⟩
theorem uni_len (h : uniB ar A C = true) (hU : UniR ar A C s) : (ap (lk s) A).length ≤ 60 := by
 classical
 unfold uniB at h
 obtain ⟨σ, m, _, h2⟩ := of_decide_eq_true h
 have := m.len hU.mgu (t := A)
 omega
theorem UniR.fill (h : uniB ar A C = true) (hU : UniR ar A C s) (hA : termOk ar A = true) : (fillL s A).isSome = true ∧ (fillL s A).getD [] = ap (lk s) A ∧ termOk ar (ap (lk s) A) = true := by
 have hl := uni_len h hU
 have hf := fillL_of (s := s) (t := A) hl
 exact ⟨by rw [hf]; rfl, by rw [hf]; rfl, fill_ok hU.rows hA hf⟩
theorem vars_few (ht : ∀ x ∈ t, -24 ≤ x) : (orderL t).length ≤ 24 := by
 have hn := ord_nodup (t := t)
 have hm : ∀ x ∈ orderL t, x ∈ (List.range 24).map fun (i : Nat) => -1 - (i : Int) := fun x hx => by
  have h1 := mem_orderL.1 hx
  have h2 := ht x h1.2
  exact List.mem_map.2 ⟨varIx x, List.mem_range.2 (by unfold varIx; omega), by unfold varIx; omega⟩
 have := hn.length_le_of_subset (l₂ := (List.range 24).map fun (i : Nat) => -1 - (i : Int)) hm
 simpa using this
theorem met_law (h : apartB ar a b = true) (hU : UniR ar a (shiftL b (behL a)) s) {m : List Int} (hm : m = byL (orderL (ap (lk s) a)) (ap (lk s) a)) : termOk ar m = true ∧ (matchB ar a m).isSome = true ∧ (matchB ar b m).isSome = true ∧ byL (orderL m) m = m ∧ m.length ≤ 60 := by
 obtain ⟨h1, h2, h3, h4⟩ := apart_ok h
 obtain ⟨_, _, ho⟩ := hU.fill h4 h1
 have hk := beh_range (termOk_iff.1 h1).ge
 have hT := termOk_iff.1 ho
 have hok : termOk ar m = true := by
  rw [hm]; exact byL_ok hT.sig hT.whole hT.len (vars_few hT.ge) fun n hn h0 => mem_orderL.2 ⟨h0, hn⟩
 have g := hU.mgu.good
 refine ⟨hok, ?_, ?_, ?_, (termOk_len hok).2⟩
 ·obtain ⟨b', hb, _⟩ := matchB_inst (ar := ar) (byS_good (od := orderL (ap (lk s) a)) g) (P := a) (termOk_iff.1 h1).ge
  rw [ap_byS, ← hm] at hb; rw [hb]; rfl
 ·obtain ⟨b', hb, _⟩ := matchB_inst (ar := ar) (good_shift hk.1 (byS_good (od := orderL (ap (lk s) a)) g)) (P := b) (termOk_iff.1 h2).ge
  rw [← ap_shift, ap_byS, ← hU.mgu.eq, ← hm] at hb; rw [hb]; rfl
 ·rw [hm]; exact renamed_twice ord_nodup
theorem met_same (hU : UniR ar A C s) {s2 : RowL} (hU2 : UniR ar A C s2) : byL (orderL (ap (lk s2) t)) (ap (lk s2) t) = byL (orderL (ap (lk s) t)) (ap (lk s) t) := hU.mgu.same hU2.mgu
theorem bok_row (hb : BOk ar l) {k : Nat} (hk : k < 48) (h : l.getD k [] ≠ []) : TermW ar (l.getD k []) := by
 have hv : varIx (-1 - (k : Int)) = k := varIx_neg k
 have hl : lkN l (-1 - (k : Int)) = l.getD k [] := by rw [lkN_neg (by omega), hv]
 have := hb.wt (-1 - (k : Int)) (by omega) (by rw [hl]; exact h)
 rwa [hl] at this
theorem sol_row (hs : Sol l σ) {k : Nat} (h : l.getD k [] ≠ []) : ap σ (l.getD k []) = σ (-1 - (k : Int)) := by
 have hl : lkN l (-1 - (k : Int)) = l.getD k [] := by rw [lkN_neg (by omega), varIx_neg]
 rw [hs.bound (by rw [hl]; exact h), hl]
theorem shift_at {k : Nat} {m : Int} (h : k < t.length) : (shiftL (t.take k) m ++ t.drop k).getD k 0 = t.getD k 0 := by
 have hl : (shiftL (t.take k) m).length = k := by rw [shift_len, List.length_take]; omega
 simp [List.getD, List.getElem?_append, hl]
theorem shift_keep {w : List Int} {k : Nat} {m : Int} (h : k < t.length) (hw : w = shiftL (t.take k) m ++ t.drop k) (h0 : 0 ≤ t.getD k 0) : w = shiftL (t.take (k + 1)) m ++ t.drop (k + 1) := by
 rw [hw, drop_get 0 h, take_succ_getD 0 h]
 unfold shiftL
 rw [List.map_append, List.append_assoc, List.map_singleton, if_neg (by omega)]; rfl
theorem shift_set {w : List Int} {k : Nat} {m x : Int} (h : k < t.length) (hw : w = shiftL (t.take k) m ++ t.drop k) (h0 : t.getD k 0 < 0) (hx : x = t.getD k 0 - m) : w.set k x = shiftL (t.take (k + 1)) m ++ t.drop (k + 1) := by
 have hl : (shiftL (t.take k) m).length = k := by rw [shift_len, List.length_take]; omega
 rw [hw, drop_get 0 h, take_succ_getD 0 h, List.set_append_right _ _ (by omega), hl, Nat.sub_self, List.set_cons_zero, hx]
 unfold shiftL
 rw [List.map_append, List.append_assoc, List.map_singleton, if_pos h0]; rfl
theorem shift_hit {l : List Int} {k : Nat} {x : Int} (h : k < l.length) : (l.set k x).getD k 0 = x := by simp [List.getD, h]
theorem shift_nextN {k : Nat} {m : Int} (h : k < t.length) (h0 : t.getD k 0 < 0) : shiftL (t.take k) m ++ [t.getD k 0 - m] = shiftL (t.take (k + 1)) m := by
 rw [take_succ_getD 0 h]; unfold shiftL; rw [List.map_append, List.map_singleton, if_pos h0]
theorem shift_nextS {k : Nat} {m : Int} (h : k < t.length) (h0 : 0 ≤ t.getD k 0) : shiftL (t.take k) m ++ [t.getD k 0] = shiftL (t.take (k + 1)) m := by
 rw [take_succ_getD 0 h]; unfold shiftL; rw [List.map_append, List.map_singleton, if_neg (by omega)]
theorem rn_one : (rnL [] [t]).getD 0 [] = byL (orderL t) t := by simp [rnL]; rfl
theorem one_len {u : List Int} (hu : u.length ≤ 60) (j : Nat) : (((List.replicate 24 ([] : List Int)).set i u).getD j []).length ≤ 4000000 := by
 rw [List.getD_eq_getElem?_getD, List.getElem?_set]
 split
 ·split
  ·simp; omega
  ·simp
 ·rw [List.getElem?_replicate]; split <;> simp
theorem lk_geAll (h : UniI ar A C s) {k q : Nat} (hk : k < 24) (hq : q < (lk s (-1 - (k : Int))).length) : -4000000 ≤ (lk s (-1 - (k : Int))).getD q 0 := by
 have hm : (lk s (-1 - (k : Int))).getD q 0 ∈ lk s (-1 - (k : Int)) := mem_of_getD hq rfl
 have := h.geLk (n := -1 - (k : Int)) (by omega) _ hm
 omega
theorem put_leX {u : List Int} {q : Nat} : ((putL ar t q u).getD []).length ≤ 60 := by
 unfold putL
 split
 ·simp
 ·simp only [Option.getD_some]; omega
theorem filled_leX : ((filledL ar s t).getD []).length ≤ 60 := by
 unfold filledL
 split
 ·cases h : fillL s t with
  | none => simp
  | some u => exact (fillL_len h).1
 ·simp
end
end Go.Proofs.Ytcdjpapjjoldeaa.M
namespace Go.Proofs.Ytcdjpapjjoldeaa.X
open Go Go.WideShapes Go.ChangeShapes Go.RowKit
def fhOf (w : World) : FH := ⟨fun b => w.heap[b]?, w.os, w.output, w.tape⟩
theorem holds_fhOf (w : World) : Holds (fhOf w) [] w := ⟨rfl, rfl, rfl, fun _ _ h => h, [], rfl, List.nodup_nil, fun p hp => absurd hp (by simp)⟩
theorem cell_fhOf (w : World) (a : Addr) : (fhOf w).cell? a = w.cell? a := by
 unfold FH.cell? World.cell? fhOf
 rfl
theorem below_of_holds {w w' : World} {F' : FH} {L' : List HP} (le : fhOf w ≤ F') (h : Holds F' L' w') : Below w.heap.size w w' := by
 have key : ∀ k o, w.heap[k]? = some o → w'.heap[k]? = some o := fun k o hk => h.cells k o (le.cells k o hk)
 refine ⟨h.os.trans le.os, h.tape.trans le.tape, h.output.trans le.output, ?_, fun k hk => ?_⟩
 ·rcases Nat.eq_zero_or_pos w.heap.size with h0 | h0
  ·omega
  ·have h1 : w.heap[w.heap.size - 1]? = some (w.heap[w.heap.size - 1]'(by omega)) := Array.getElem?_eq_getElem (by omega)
   have h2 := (Array.getElem?_eq_some_iff.1 (key _ _ h1)).1
   omega
 ·have h1 : w.heap[k]? = some (w.heap[k]'hk) := Array.getElem?_eq_getElem hk
  rw [h1]
  exact key _ _ h1
def Opens (P : Program) (t : TypeId) {α : Type} (R : FH → List Value → α → Prop) (B : α → Prop) : Prop :=
 ∀ (H : Type) (enc : TypeId × Value → H) (w : World) (base : Nat) (spare : Nat → Bool) (held : Bool) (fuel : Nat) (cs : List Value) (x : DataW H × List MemPlace),
  DataW.trod enc P w base spare held fuel t cs = some x → ∃ a, R (fhOf w) cs a ∧ B a
section
variable {P : Program} {t e : TypeId}
theorem opens_slice {α : Type} {R : FH → List Value → α → Prop} {B : α → Prop} {s : Nat} (d : α) (ht : P.underlying t = some (.slice e)) (hc : P.cellsOf e = s) (ho : Opens P e R B) :
  Opens P t (fun F cs (xs : List α) => ∃ v, cs = [v] ∧ SlOf s R d F v xs) (fun xs => xs.length ≤ 9223372036854775807 ∧ ∀ i, i < xs.length → B (xs.getD i d)) := by
 intro H enc w base spare held fuel cs x h
 rcases Go.Deep.open_slice ht h with ⟨rfl, _⟩ | ⟨a, len, cap, m, n, D, Pl, rfl, hb, hl, hm, hmm, _, hx⟩
 ·exact ⟨[], ⟨_, rfl, [], ⟨by simp, none, 0, rfl, by simp, fun _ => rfl, fun a h => by cases h⟩, fun i hi => by simp at hi⟩, by simp, fun i hi => by simp at hi⟩
 ·have hlm : len ≤ m := by rw [hmm]; split <;> omega
  rw [hc] at hx
  have each : ∀ i, i < len → ∃ q : α, ∃ cs' : List Value, cs'.length = s ∧ (∀ r, r < s → w.cell? (a.add (i * s + r)) = cs'[r]?) ∧ R (fhOf w) cs' q ∧ B q := by
   intro i hi
   obtain ⟨cs', h1, h2⟩ := hx i (by omega)
   obtain ⟨_, hlen, hcell⟩ := World.cells?_some h1
   obtain ⟨q, hq, hbq⟩ := ho H enc w base spare held n cs' _ h2
   exact ⟨q, cs', hlen, fun r hr => by rw [← hcell r hr, add_add], hq, hbq⟩
  have ⟨q, hq⟩ : ∃ q : Nat → α, ∀ i, i < len → ∃ cs' : List Value, cs'.length = s ∧ (∀ r, r < s → w.cell? (a.add (i * s + r)) = cs'[r]?) ∧ R (fhOf w) cs' (q i) ∧ B (q i) := by
   haveI : Inhabited α := ⟨d⟩
   exact Go.Deep.choose_lt each
  let V : Nat → Value := fun j => (w.cell? (a.add j)).getD undef
  have hV : ∀ j, j < len * s → w.cell? (a.add j) = some (V j) := by
   intro j hj
   have hs : 0 < s := by rcases Nat.eq_zero_or_pos s with h0 | h0; subst h0; simp at hj; exact h0
   have hdiv : j / s < len := (Nat.div_lt_iff_lt_mul hs).2 hj
   obtain ⟨cs', hl', hcell, _⟩ := hq (j / s) hdiv
   have hr := hcell (j % s) (Nat.mod_lt _ hs)
   have e1 : j / s * s + j % s = j := by rw [Nat.mul_comm]; exact Nat.div_add_mod j s
   rw [e1] at hr
   have hlt : j % s < cs'.length := by rw [hl']; exact Nat.mod_lt _ hs
   rw [List.getElem?_eq_getElem hlt] at hr
   show w.cell? (a.add j) = some ((w.cell? (a.add j)).getD undef)
   rw [hr]; rfl
  have hxl : ((List.range len).map q).length = len := by simp
  have hgd : ∀ i, i < len → ((List.range len).map q).getD i d = q i := fun i hi => by simp [List.getD, hi]
  refine ⟨(List.range len).map q, ⟨_, rfl, (List.range (len * s)).map V, ⟨by simp, some a, cap, by rw [hxl], by omega, (fun h => by cases h), ?_⟩, ?_⟩, by rw [hxl]; unfold maxLen at hm; omega, fun i hi => ?_⟩
  ·intro a' ha i u hu
   obtain rfl := Option.some.inj ha
   have hi : i < len * s := by have := (List.getElem?_eq_some_iff.1 hu).1; simpa using this
   rw [cell_fhOf, hV i hi]
   rw [List.getElem?_map, List.getElem?_range hi] at hu
   exact hu
  ·intro i hi
   rw [hxl] at hi
   obtain ⟨cs', hl', hcell, hR, _⟩ := hq i hi
   refine ⟨cs', hl', ?_, by rw [hgd i hi]; exact hR⟩
   have hle : i * s + s ≤ len * s := by
    have : (i + 1) * s ≤ len * s := Nat.mul_le_mul_right s hi
    rwa [Nat.succ_mul] at this
   apply List.ext_getElem?
   intro r
   rcases Nat.lt_or_ge r s with hr | hr
   ·rw [List.getElem?_take, if_pos hr, List.getElem?_drop, List.getElem?_map, List.getElem?_range (by omega), ← hcell r hr, hV _ (by omega)]; rfl
   ·rw [List.getElem?_eq_none (by simp; omega), List.getElem?_eq_none (by omega)]
  ·rw [hxl] at hi
   obtain ⟨_, _, _, _, hB⟩ := hq i hi
   rw [hgd i hi]
   exact hB
theorem Opens.mono {α : Type} {R R' : FH → List Value → α → Prop} {B B' : α → Prop} (h : Opens P t R B) (hR : ∀ F cs a, R F cs a → R' F cs a) (hB : ∀ a, B a → B' a) : Opens P t R' B' := fun H enc w base spare held fuel cs x hx =>
 let ⟨a, h1, h2⟩ := h H enc w base spare held fuel cs x hx
 ⟨a, hR _ _ _ h1, hB _ h2⟩
theorem Opens.slv {α : Type} {R : FH → List Value → α → Prop} {B : α → Prop} (h : Opens P t R B) (ht : P.underlying t = some (.slice e)) {H : Type} {enc : TypeId × Value → H} {w : World} {r : Reach} {base b0 : Nat} {spare : Nat → Bool} {held : Bool} {v : Value} {d : DataW H} {ps : List MemPlace}
  (hv : Value.okWide P w r b0 t v) (ht' : DataW.Trod enc P w base spare held t v d ps) : ∃ a, R (fhOf w) [v] a ∧ B a := by
 obtain ⟨a, l, c, rfl⟩ := okWide_slice ht hv
 obtain ⟨n, hn⟩ := ht'
 exact h H enc w base spare held n _ _ hn
theorem Opens.agg {α : Type} {R : FH → List Value → α → Prop} {B : α → Prop} (h : Opens P t R B) {fs : Array Field} (ht : P.underlying t = some (.struct fs)) {H : Type} {enc : TypeId × Value → H} {w : World} {r : Reach} {base b0 : Nat} {spare : Nat → Bool} {held : Bool} {v : Value} {d : DataW H} {ps : List MemPlace}
  (hv : Value.okWide P w r b0 t v) (ht' : DataW.Trod enc P w base spare held t v d ps) : ∃ cs : List Value, v = .agg cs.toArray ∧ ∃ a, R (fhOf w) cs a ∧ B a := by
 obtain ⟨cs, rfl, _⟩ := okWide_struct ht hv
 obtain ⟨n, hn⟩ := ht'
 exact ⟨cs.toList, by simp, h H enc w base spare held n _ _ hn⟩
theorem Opens.int {k : IntKind} (ht : P.underlying t = some (.int k)) {H : Type} {enc : TypeId × Value → H} {w : World} {r : Reach} {base b0 : Nat} {spare : Nat → Bool} {held : Bool} {v : Value} {d : DataW H} {ps : List MemPlace}
  (hv : Value.okWide P w r b0 t v) (ht' : DataW.Trod enc P w base spare held t v d ps) : ∃ n, v = .int k n ∧ (Lit.int k n).wf = true := by
 obtain ⟨n, rfl, _, _, hw⟩ := open_int ht hv ht'
 exact ⟨n, rfl, hw⟩
theorem trodAll_below {H : Type} {enc : TypeId × Value → H} (hl : laidOutB P = true) {W W' : World} (hb : Below W.heap.size W W') {sp : Nat → Bool} :
  ∀ {ts : List TypeId} {vs : List Value} {ds : List (DataW H)} {ps : List MemPlace}, (ts.all fun t => P.readableRec t && decide (t < P.types.size)) = true → DataW.TrodAll enc P W 0 (fun _ => true) true ts vs ds ps →
   (∀ x ∈ ps, x.block < W.heap.size) → (∀ p ∈ ps, sp p.block = true) → DataW.TrodAll enc P W' 0 sp true ts vs ds ps
 | [], [], [], _, _, h, _, _ => h
 | [], _ :: _, _, _, _, h, _, _ => by cases h
 | [], [], _ :: _, _, _, h, _, _ => by cases h
 | _ :: _, [], _, _, _, h, _, _ => by cases h
 | _ :: _, _ :: _, [], _, _, h, _, _ => by cases h
 | t :: ts, v :: vs, d :: ds, ps, hr, h, hlt, hsp => by
  obtain ⟨p, q, h1, h2, rfl⟩ := h
  simp only [List.all_cons, Bool.and_eq_true, decide_eq_true_eq] at hr
  exact ⟨p, q, Go.WideElems.Trod_stays hl hr.1.1 hr.1.2 h1 (fun x hx => hb.same (hlt x (List.mem_append_left _ hx))) (fun x hx => hsp x (List.mem_append_left _ hx)),
   trodAll_below hl hb hr.2 h2 (fun x hx => hlt x (List.mem_append_right _ hx)) (fun x hx => hsp x (List.mem_append_right _ hx)), rfl⟩
theorem post_of_law {H : Type} {enc : TypeId × Value → H} {f : Func} {s : ChangeSpec} {apart fresh handsOn : Bool} {W W' : World} {args : Array Value} {ds gs : List (DataW H)} {before : List MemPlace} {tb : TypeId}
  (hs : s.vars = []) (hfn : s.fn H (ds ++ gs) = { results := [.lit (.bool true)], args := ds }) (hl : laidOutB P = true) (hr : (f.params.toList.all fun t => P.readableRec t && decide (t < P.types.size)) = true)
  (hres : f.resultTypes = #[tb]) (htb : P.underlying tb = some .bool) (hW : DataW.Whole enc P f.params.toList s.vars apart W args.toList ds gs before) (hb : Below W.heap.size W W') : s.post enc P f apart fresh handsOn false W args (.bool true) W' := by
 have hlt := hW.lt
 have hW' := hW
 obtain ⟨p, q, hA, hV, rfl, _, _⟩ := hW
 rw [hs] at hV
 obtain ⟨rfl, rfl⟩ := trodVars_none hV
 refine ⟨ds, [], p ++ [], [], p, [], hW', ?_, ?_, ?_, ?_, fun h => by cases h⟩
 ·rw [hfn, hres]
  exact trodAll_cons_mk (shut_bool htb _) trodAll_mk0
 ·rw [hfn]
  exact trodAll_below hl hb hr hA (fun x hx => hlt x (by simpa using hx)) (fun x hx => by simpa using hlt x (by simpa using hx))
 ·rw [hfn, hs]; rfl
 ·exact World.keptBut_mono (fun x hx => ⟨hx, .inr (.inl (by simpa using hx))⟩) (hb.frame (· ∈ p ++ []))
theorem Does.atTop {f : FuncId} {args : List Value} {W : World} (h : Does P f args (fhOf W) [] fun v _ _ => v = .bool true) : Calls P f args.toArray W fun e W' => e = .returned (.bool true) ∧ Below W.heap.size W W' :=
 (h W (holds_fhOf W)).mono fun _ _ ⟨_, _, _, he, le, H, hv⟩ => ⟨by rw [he, hv], below_of_holds le H⟩
end
section
variable {P : Program} {t e : TypeId}
end
open Go Go.ChangeShapes Go.WideShapes Go.ChangeAt
section
variable {P : Program} {t e : TypeId}
theorem opens_byte (ht : P.underlying e = some (.int .u8)) : Opens P e ByteE (fun _ => True) := by
 intro H enc w base spare held fuel cs x h
 obtain ⟨n, rfl, _, hw⟩ := DataW.trod_int ht h
 refine ⟨n, ⟨rfl, ?_⟩, trivial⟩
 simp [Lit.wf, IntKind.min, IntKind.max, IntKind.signed, IntKind.bits] at hw
 omega
theorem opens_bytes (ht : P.underlying t = some (.slice e)) (he : P.underlying e = some (.int .u8)) (hc : P.cellsOf e = 1) :
  Opens P t (fun F cs (xs : List Int) => ∃ v, cs = [v] ∧ BytesF F v xs) (fun xs => xs.length ≤ 9223372036854775807) :=
 (opens_slice 0 ht hc (opens_byte he)).mono (fun _ _ _ h => h) (fun _ h => h.1)
end
end Go.Proofs.Ytcdjpapjjoldeaa.X
