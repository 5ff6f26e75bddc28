/-
  What the walks rest on (part 2).
-/
import Derived.Orders
import Derived.Tactics
import Derived.Below
import Derived.Laws.CopyRow
import Derived.Laws.AppendOwn
import Derived.IntWalk
import Derived.Lib.AppendZeros
import Derived.OrdersIn
import Derived.TacticsIn
import Derived.RangeFuncSeq
import Derived.RangeFuncRecord
import Derived.RangeFuncLeaves
import Derived.Scope
import Derived.Laws.Append
import Derived.WalkKit
import Derived.ProofKit
import Derived.OpenShut
import Derived.JoinedCond
import Derived.Carry
import Derived.Deep.Slices
import Derived.Test.YtmaaifhmhclhdaaQFL0
set_option linter.unusedSimpArgs false
set_option linter.unusedVariables false
namespace Go.Proofs.Ytmaaifhmhclhdaa.X
open Go
abbrev FoundT := List Int × Int × StepT × Int
def FoundF (F : FH) (es : List Value) (x : FoundT) : Prop := ∃ a0 a4, es = [a0, .int .i64 x.2.1, .int .i64 x.2.2.1.1, .int .i64 x.2.2.1.2.1, a4, .int .i64 x.2.2.2] ∧ IntsF F a0 x.1 ∧ IntsF F a4 x.2.2.1.2.2
theorem FoundF.mono {F F' : FH} (le : F ≤ F') (es : List Value) (x : FoundT) (h : FoundF F es x) : FoundF F' es x := by
  obtain ⟨a0, a4, e, h0, h4⟩ := h
  exact ⟨a0, a4, e, h0.mono le, h4.mono le⟩
def FoundsF (F : FH) (v : Value) (xs : List FoundT) (cs : List Value) : Prop := ArrF F 6 v xs.length cs ∧ CO 6 FoundF ([], 0, (0, 0, []), 0) F cs xs
theorem FoundsF.mono {F F' : FH} {v : Value} {xs : List FoundT} {cs : List Value} (h : FoundsF F v xs cs) (le : F ≤ F') : FoundsF F' v xs cs := ⟨h.1.mono le, CO.mono (FoundF.mono le) h.2⟩
theorem FoundsF.slv {F : FH} {L : List HP} {v : Value} {xs : List FoundT} {cs : List Value} (h : FoundsF F v xs cs) : SlV F L v xs.length := SlV.arr h.1
theorem FoundsF.isSl {F : FH} {v : Value} {xs : List FoundT} {cs : List Value} (h : FoundsF F v xs cs) : IsSl v := h.1.isSl
theorem FoundsF.rd {F : FH} {v : Value} {xs : List FoundT} {cs : List Value} (h : FoundsF F v xs cs) {i : Nat} (hi : i < xs.length) : ∃ a0 a4, IntsF F a0 (xs.getD i ([], 0, (0, 0, []), 0)).1 ∧ IntsF F a4 (xs.getD i ([], 0, (0, 0, []), 0)).2.2.1.2.2 ∧ (∀ L j u, ([a0, .int .i64 (xs.getD i ([], 0, (0, 0, []), 0)).2.1, .int .i64 (xs.getD i ([], 0, (0, 0, []), 0)).2.2.1.1, .int .i64 (xs.getD i ([], 0, (0, 0, []), 0)).2.2.1.2.1, a4, .int .i64 (xs.getD i ([], 0, (0, 0, []), 0)).2.2.2] : List Value)[j]? = some u → Rd F L (elemA v (i * 6 + j)) u) ∧ (∀ j u, ([a0, .int .i64 (xs.getD i ([], 0, (0, 0, []), 0)).2.1, .int .i64 (xs.getD i ([], 0, (0, 0, []), 0)).2.2.1.1, .int .i64 (xs.getD i ([], 0, (0, 0, []), 0)).2.2.1.2.1, a4, .int .i64 (xs.getD i ([], 0, (0, 0, []), 0)).2.2.2] : List Value)[j]? = some u → cs[i * 6 + j]? = some u) := by
  obtain ⟨es, h1, h2, a0, a4, rfl, h0, h4⟩ := h.2.2 i hi
  refine ⟨a0, a4, h0, h4, fun L j u hu => ?_, fun j u hu => ?_⟩
  · have := Rd.arrN (L := L) (k := i * 6) (vs := [a0, .int .i64 (xs.getD i ([], 0, (0, 0, []), 0)).2.1, .int .i64 (xs.getD i ([], 0, (0, 0, []), 0)).2.2.1.1, .int .i64 (xs.getD i ([], 0, (0, 0, []), 0)).2.2.1.2.1, a4, .int .i64 (xs.getD i ([], 0, (0, 0, []), 0)).2.2.2]) h.1 (by rw [h1]; exact h2) j u hu
    rwa [elemA_add] at this
  · rw [← h2, List.getElem?_take] at hu
    split at hu
    · rwa [List.getElem?_drop] at hu
    · cases hu
def FoundsC (F : FH) (cs : List Value) (xs : List FoundT) : Prop := CO 6 FoundF ([], 0, (0, 0, []), 0) F cs xs
theorem FoundsC.mono {F F' : FH} {cs : List Value} {xs : List FoundT} (h : FoundsC F cs xs) (le : F ≤ F') : FoundsC F' cs xs := CO.mono (FoundF.mono le) h
theorem FoundsC.snoc {F : FH} {cs : List Value} {xs : List FoundT} {a0 a4 : Value} {y0 : List Int} {y1 : Int} {y2 : Int} {y3 : Int} {y4 : List Int} {y5 : Int} (h : FoundsC F cs xs) (h0 : IntsF F a0 y0) (h4 : IntsF F a4 y4) : FoundsC F (cs ++ [a0, .int .i64 y1, .int .i64 y2, .int .i64 y3, a4, .int .i64 y5]) (xs ++ [(y0, y1, (y2, y3, y4), y5)]) := CO.snoc h rfl ⟨a0, a4, rfl, h0, h4⟩
theorem FoundsC.get {F : FH} {cs : List Value} {xs : List FoundT} (h : FoundsC F cs xs) {i : Nat} (hi : i < xs.length) : ∃ a0 a4, IntsF F a0 (xs.getD i ([], 0, (0, 0, []), 0)).1 ∧ IntsF F a4 (xs.getD i ([], 0, (0, 0, []), 0)).2.2.1.2.2 ∧ (∀ j u, ([a0, .int .i64 (xs.getD i ([], 0, (0, 0, []), 0)).2.1, .int .i64 (xs.getD i ([], 0, (0, 0, []), 0)).2.2.1.1, .int .i64 (xs.getD i ([], 0, (0, 0, []), 0)).2.2.1.2.1, a4, .int .i64 (xs.getD i ([], 0, (0, 0, []), 0)).2.2.2] : List Value)[j]? = some u → cs[i * 6 + j]? = some u) := by
  obtain ⟨es, hl, ⟨a0, a4, rfl, h0, h4⟩, hr⟩ := CO.get h hi
  exact ⟨a0, a4, h0, h4, hr⟩
theorem FoundsC.fz {F : FH} {cs : List Value} {xs : List FoundT} {E : TypeId} {v : Value} {n : Nat} (h : FoundsC F cs xs) (hn : n = xs.length) (hf : Fz (slH E 6 v n cs) F) : FoundsF F v xs cs := by
  subst hn
  exact ⟨hf.sl, h⟩
abbrev MoveT := Int × Int × Bool × List Int
def MoveF (F : FH) (es : List Value) (x : MoveT) : Prop := ∃ a3, es = [.int .i64 x.1, .int .i64 x.2.1, .bool x.2.2.1, a3] ∧ IntsF F a3 x.2.2.2
theorem MoveF.mono {F F' : FH} (le : F ≤ F') (es : List Value) (x : MoveT) (h : MoveF F es x) : MoveF F' es x := by
  obtain ⟨a3, e, h3⟩ := h
  exact ⟨a3, e, h3.mono le⟩
def MovesF : FH → Value → List MoveT → Prop := SlOf 4 MoveF (0, 0, false, [])
theorem MovesF.mono {F F' : FH} {v : Value} {xs : List MoveT} (h : MovesF F v xs) (le : F ≤ F') : MovesF F' v xs := SlOf.mono (MoveF.mono le) h le
theorem MovesF.slv {F : FH} {L : List HP} {v : Value} {xs : List MoveT} (h : MovesF F v xs) : SlV F L v xs.length := SlOf.slv h
theorem MovesF.isSl {F : FH} {v : Value} {xs : List MoveT} (h : MovesF F v xs) : IsSl v := by obtain ⟨_, h, _⟩ := h; exact h.isSl
theorem MovesF.rd {F : FH} {v : Value} {xs : List MoveT} (h : MovesF F v xs) {i : Nat} (hi : i < xs.length) : ∃ a3, IntsF F a3 (xs.getD i (0, 0, false, [])).2.2.2 ∧ (∀ L j u, ([.int .i64 (xs.getD i (0, 0, false, [])).1, .int .i64 (xs.getD i (0, 0, false, [])).2.1, .bool (xs.getD i (0, 0, false, [])).2.2.1, a3] : List Value)[j]? = some u → Rd F L (elemA v (i * 4 + j)) u) ∧ True := by
  obtain ⟨es, hl, ⟨a3, rfl, h3⟩, hr⟩ := SlOf.get h hi
  exact ⟨a3, h3, hr, trivial⟩
def MovesC (F : FH) (cs : List Value) (xs : List MoveT) : Prop := CO 4 MoveF (0, 0, false, []) F cs xs
theorem MovesC.mono {F F' : FH} {cs : List Value} {xs : List MoveT} (h : MovesC F cs xs) (le : F ≤ F') : MovesC F' cs xs := CO.mono (MoveF.mono le) h
theorem MovesC.snoc {F : FH} {cs : List Value} {xs : List MoveT} {a3 : Value} {y0 : Int} {y1 : Int} {y2 : Bool} {y3 : List Int} (h : MovesC F cs xs) (h3 : IntsF F a3 y3) : MovesC F (cs ++ [.int .i64 y0, .int .i64 y1, .bool y2, a3]) (xs ++ [(y0, y1, y2, y3)]) := CO.snoc h rfl ⟨a3, rfl, h3⟩
theorem MovesC.get {F : FH} {cs : List Value} {xs : List MoveT} (h : MovesC F cs xs) {i : Nat} (hi : i < xs.length) : ∃ a3, IntsF F a3 (xs.getD i (0, 0, false, [])).2.2.2 ∧ (∀ j u, ([.int .i64 (xs.getD i (0, 0, false, [])).1, .int .i64 (xs.getD i (0, 0, false, [])).2.1, .bool (xs.getD i (0, 0, false, [])).2.2.1, a3] : List Value)[j]? = some u → cs[i * 4 + j]? = some u) := by
  obtain ⟨es, hl, ⟨a3, rfl, h3⟩, hr⟩ := CO.get h hi
  exact ⟨a3, h3, hr⟩
abbrev PolyT := Int × List Int
def PolyF (F : FH) (es : List Value) (x : PolyT) : Prop := ∃ a1, es = [.int .i64 x.1, a1] ∧ IntsF F a1 x.2
theorem PolyF.mono {F F' : FH} (le : F ≤ F') (es : List Value) (x : PolyT) (h : PolyF F es x) : PolyF F' es x := by
  obtain ⟨a1, e, h1⟩ := h
  exact ⟨a1, e, h1.mono le⟩
def PolysF : FH → Value → List PolyT → Prop := SlOf 2 PolyF (0, [])
theorem PolysF.mono {F F' : FH} {v : Value} {xs : List PolyT} (h : PolysF F v xs) (le : F ≤ F') : PolysF F' v xs := SlOf.mono (PolyF.mono le) h le
theorem PolysF.slv {F : FH} {L : List HP} {v : Value} {xs : List PolyT} (h : PolysF F v xs) : SlV F L v xs.length := SlOf.slv h
theorem PolysF.isSl {F : FH} {v : Value} {xs : List PolyT} (h : PolysF F v xs) : IsSl v := by obtain ⟨_, h, _⟩ := h; exact h.isSl
theorem PolysF.rd {F : FH} {v : Value} {xs : List PolyT} (h : PolysF F v xs) {i : Nat} (hi : i < xs.length) : ∃ a1, IntsF F a1 (xs.getD i (0, [])).2 ∧ (∀ L j u, ([.int .i64 (xs.getD i (0, [])).1, a1] : List Value)[j]? = some u → Rd F L (elemA v (i * 2 + j)) u) ∧ True := by
  obtain ⟨es, hl, ⟨a1, rfl, h1⟩, hr⟩ := SlOf.get h hi
  exact ⟨a1, h1, hr, trivial⟩
def PolysC (F : FH) (cs : List Value) (xs : List PolyT) : Prop := CO 2 PolyF (0, []) F cs xs
theorem PolysC.mono {F F' : FH} {cs : List Value} {xs : List PolyT} (h : PolysC F cs xs) (le : F ≤ F') : PolysC F' cs xs := CO.mono (PolyF.mono le) h
theorem PolysC.snoc {F : FH} {cs : List Value} {xs : List PolyT} {a1 : Value} {y0 : Int} {y1 : List Int} (h : PolysC F cs xs) (h1 : IntsF F a1 y1) : PolysC F (cs ++ [.int .i64 y0, a1]) (xs ++ [(y0, y1)]) := CO.snoc h rfl ⟨a1, rfl, h1⟩
theorem PolysC.get {F : FH} {cs : List Value} {xs : List PolyT} (h : PolysC F cs xs) {i : Nat} (hi : i < xs.length) : ∃ a1, IntsF F a1 (xs.getD i (0, [])).2 ∧ (∀ j u, ([.int .i64 (xs.getD i (0, [])).1, a1] : List Value)[j]? = some u → cs[i * 2 + j]? = some u) := by
  obtain ⟨es, hl, ⟨a1, rfl, h1⟩, hr⟩ := CO.get h hi
  exact ⟨a1, h1, hr⟩
abbrev LineT := Int × List (List Int) × List Int
def LineF (F : FH) (es : List Value) (x : LineT) : Prop := ∃ a1 a2, es = [.int .i64 x.1, a1, a2] ∧ RowsF F a1 x.2.1 ∧ IntsF F a2 x.2.2
theorem LineF.mono {F F' : FH} (le : F ≤ F') (es : List Value) (x : LineT) (h : LineF F es x) : LineF F' es x := by
  obtain ⟨a1, a2, e, h1, h2⟩ := h
  exact ⟨a1, a2, e, h1.mono le, h2.mono le⟩
def LinesF : FH → Value → List LineT → Prop := SlOf 3 LineF (0, [], [])
theorem LinesF.mono {F F' : FH} {v : Value} {xs : List LineT} (h : LinesF F v xs) (le : F ≤ F') : LinesF F' v xs := SlOf.mono (LineF.mono le) h le
theorem LinesF.slv {F : FH} {L : List HP} {v : Value} {xs : List LineT} (h : LinesF F v xs) : SlV F L v xs.length := SlOf.slv h
theorem LinesF.isSl {F : FH} {v : Value} {xs : List LineT} (h : LinesF F v xs) : IsSl v := by obtain ⟨_, h, _⟩ := h; exact h.isSl
theorem LinesF.rd {F : FH} {v : Value} {xs : List LineT} (h : LinesF F v xs) {i : Nat} (hi : i < xs.length) : ∃ a1 a2, RowsF F a1 (xs.getD i (0, [], [])).2.1 ∧ IntsF F a2 (xs.getD i (0, [], [])).2.2 ∧ (∀ L j u, ([.int .i64 (xs.getD i (0, [], [])).1, a1, a2] : List Value)[j]? = some u → Rd F L (elemA v (i * 3 + j)) u) ∧ True := by
  obtain ⟨es, hl, ⟨a1, a2, rfl, h1, h2⟩, hr⟩ := SlOf.get h hi
  exact ⟨a1, a2, h1, h2, hr, trivial⟩
def LinesC (F : FH) (cs : List Value) (xs : List LineT) : Prop := CO 3 LineF (0, [], []) F cs xs
theorem LinesC.mono {F F' : FH} {cs : List Value} {xs : List LineT} (h : LinesC F cs xs) (le : F ≤ F') : LinesC F' cs xs := CO.mono (LineF.mono le) h
theorem LinesC.snoc {F : FH} {cs : List Value} {xs : List LineT} {a1 a2 : Value} {y0 : Int} {y1 : List (List Int)} {y2 : List Int} (h : LinesC F cs xs) (h1 : RowsF F a1 y1) (h2 : IntsF F a2 y2) : LinesC F (cs ++ [.int .i64 y0, a1, a2]) (xs ++ [(y0, y1, y2)]) := CO.snoc h rfl ⟨a1, a2, rfl, h1, h2⟩
theorem LinesC.get {F : FH} {cs : List Value} {xs : List LineT} (h : LinesC F cs xs) {i : Nat} (hi : i < xs.length) : ∃ a1 a2, RowsF F a1 (xs.getD i (0, [], [])).2.1 ∧ IntsF F a2 (xs.getD i (0, [], [])).2.2 ∧ (∀ j u, ([.int .i64 (xs.getD i (0, [], [])).1, a1, a2] : List Value)[j]? = some u → cs[i * 3 + j]? = some u) := by
  obtain ⟨es, hl, ⟨a1, a2, rfl, h1, h2⟩, hr⟩ := CO.get h hi
  exact ⟨a1, a2, h1, h2, hr⟩
abbrev CRuleT := List Int × List Int × List (List Int × List Int)
def CRuleF (F : FH) (es : List Value) (x : CRuleT) : Prop := ∃ a0 a1 a2, es = [a0, a1, a2] ∧ IntsF F a0 x.1 ∧ IntsF F a1 x.2.1 ∧ PairsF F a2 x.2.2
theorem CRuleF.mono {F F' : FH} (le : F ≤ F') (es : List Value) (x : CRuleT) (h : CRuleF F es x) : CRuleF F' es x := by
  obtain ⟨a0, a1, a2, e, h0, h1, h2⟩ := h
  exact ⟨a0, a1, a2, e, h0.mono le, h1.mono le, h2.mono le⟩
def CRulesF : FH → Value → List CRuleT → Prop := SlOf 3 CRuleF ([], [], [])
theorem CRulesF.mono {F F' : FH} {v : Value} {xs : List CRuleT} (h : CRulesF F v xs) (le : F ≤ F') : CRulesF F' v xs := SlOf.mono (CRuleF.mono le) h le
theorem CRulesF.slv {F : FH} {L : List HP} {v : Value} {xs : List CRuleT} (h : CRulesF F v xs) : SlV F L v xs.length := SlOf.slv h
theorem CRulesF.isSl {F : FH} {v : Value} {xs : List CRuleT} (h : CRulesF F v xs) : IsSl v := by obtain ⟨_, h, _⟩ := h; exact h.isSl
theorem CRulesF.rd {F : FH} {v : Value} {xs : List CRuleT} (h : CRulesF F v xs) {i : Nat} (hi : i < xs.length) : ∃ a0 a1 a2, IntsF F a0 (xs.getD i ([], [], [])).1 ∧ IntsF F a1 (xs.getD i ([], [], [])).2.1 ∧ PairsF F a2 (xs.getD i ([], [], [])).2.2 ∧ (∀ L j u, ([a0, a1, a2] : List Value)[j]? = some u → Rd F L (elemA v (i * 3 + j)) u) ∧ True := by
  obtain ⟨es, hl, ⟨a0, a1, a2, rfl, h0, h1, h2⟩, hr⟩ := SlOf.get h hi
  exact ⟨a0, a1, a2, h0, h1, h2, hr, trivial⟩
def CRulesC (F : FH) (cs : List Value) (xs : List CRuleT) : Prop := CO 3 CRuleF ([], [], []) F cs xs
theorem CRulesC.mono {F F' : FH} {cs : List Value} {xs : List CRuleT} (h : CRulesC F cs xs) (le : F ≤ F') : CRulesC F' cs xs := CO.mono (CRuleF.mono le) h
theorem CRulesC.snoc {F : FH} {cs : List Value} {xs : List CRuleT} {a0 a1 a2 : Value} {y0 : List Int} {y1 : List Int} {y2 : List (List Int × List Int)} (h : CRulesC F cs xs) (h0 : IntsF F a0 y0) (h1 : IntsF F a1 y1) (h2 : PairsF F a2 y2) : CRulesC F (cs ++ [a0, a1, a2]) (xs ++ [(y0, y1, y2)]) := CO.snoc h rfl ⟨a0, a1, a2, rfl, h0, h1, h2⟩
theorem CRulesC.get {F : FH} {cs : List Value} {xs : List CRuleT} (h : CRulesC F cs xs) {i : Nat} (hi : i < xs.length) : ∃ a0 a1 a2, IntsF F a0 (xs.getD i ([], [], [])).1 ∧ IntsF F a1 (xs.getD i ([], [], [])).2.1 ∧ PairsF F a2 (xs.getD i ([], [], [])).2.2 ∧ (∀ j u, ([a0, a1, a2] : List Value)[j]? = some u → cs[i * 3 + j]? = some u) := by
  obtain ⟨es, hl, ⟨a0, a1, a2, rfl, h0, h1, h2⟩, hr⟩ := CO.get h hi
  exact ⟨a0, a1, a2, h0, h1, h2, hr⟩
end Go.Proofs.Ytmaaifhmhclhdaa.X
set_option linter.unusedSimpArgs false
set_option linter.unusedVariables false
namespace Go.Proofs.Ytmaaifhmhclhdaa.X
open Go
def XStepsF (F : FH) (v : Value) (xs : List StepT) (cs : List Value) : Prop := ArrF F 3 v xs.length cs ∧ StepsC F cs xs
theorem XStepsF.mono {F F' : FH} {v : Value} {xs : List StepT} {cs : List Value} (h : XStepsF F v xs cs) (le : F ≤ F') : XStepsF F' v xs cs := ⟨h.1.mono le, h.2.mono le⟩
theorem XStepsF.slv {F : FH} {L : List HP} {v : Value} {xs : List StepT} {cs : List Value} (h : XStepsF F v xs cs) : SlV F L v xs.length := SlV.arr h.1
theorem XStepsF.isSl {F : FH} {v : Value} {xs : List StepT} {cs : List Value} (h : XStepsF F v xs cs) : IsSl v := h.1.isSl
theorem XStepsF.rd {F : FH} {v : Value} {xs : List StepT} {cs : List Value} (h : XStepsF F v xs cs) {i : Nat} (hi : i < xs.length) : ∃ c, IntsF F c (xs.getD i (0, 0, [])).2.2 ∧ (∀ L, Rd F L (elemA v (i * 3)) (.int .i64 (xs.getD i (0, 0, [])).1)) ∧ (∀ L, Rd F L (elemA v (i * 3 + 1)) (.int .i64 (xs.getD i (0, 0, [])).2.1)) ∧ (∀ L, Rd F L (elemA v (i * 3 + 2)) c) ∧ cs[i * 3 + 2]? = some c := by
  obtain ⟨es, h1, h2, c, rfl, hc⟩ := h.2.2 i hi
  have hq : ∀ j u, ([.int .i64 (xs.getD i (0, 0, [])).1, .int .i64 (xs.getD i (0, 0, [])).2.1, c] : List Value)[j]? = some u → cs[i * 3 + j]? = some u := by
    intro j u hu
    rw [← h2, List.getElem?_take] at hu
    split at hu
    · rwa [List.getElem?_drop] at hu
    · cases hu
  have hr : ∀ L j u, ([.int .i64 (xs.getD i (0, 0, [])).1, .int .i64 (xs.getD i (0, 0, [])).2.1, c] : List Value)[j]? = some u → Rd F L (elemA v (i * 3 + j)) u := by
    intro L j u hu
    have := Rd.arrN (L := L) (k := i * 3) (vs := [.int .i64 (xs.getD i (0, 0, [])).1, .int .i64 (xs.getD i (0, 0, [])).2.1, c]) h.1 (by rw [h1]; exact h2) j u hu
    rwa [elemA_add] at this
  exact ⟨c, hc, fun L => by simpa using hr L 0 _ rfl, fun L => hr L 1 _ rfl, fun L => hr L 2 _ rfl, hq 2 _ rfl⟩
section
variable {F F' : FH} {A B M : List HP} {h : HP}
theorem Fresh.none (k : Fresh F F' (star (A ++ B))) : Fresh F F' (star A) := by
  obtain ⟨m, hm, nd, hp⟩ := k
  obtain ⟨a, b, ha, hb, rfl⟩ := star_append.1 hm
  refine ⟨a, ha, ?_, fun p h' => hp p (List.mem_append_left _ h')⟩
  rw [List.map_append] at nd
  exact (List.nodup_append.1 nd).1
end
def FrStepsF (F0 F : FH) (e : TypeId) (v : Value) (xs : List StepT) : Prop := ∃ acs Ls, XStepsF F v xs acs ∧ DeepL 3 (StepO e) acs xs Ls ∧ Fresh F0 F (star Ls)
theorem FrStepsF.mono {F0 F F' : FH} {e : TypeId} {v : Value} {xs : List StepT} (h : FrStepsF F0 F e v xs) (le : F ≤ F') : FrStepsF F0 F' e v xs := by
  obtain ⟨acs, Ls, h1, h2, h3⟩ := h
  exact ⟨acs, Ls, h1.mono le, h2, h3.mono le⟩
theorem FrStepsF.isSl {F0 F : FH} {e : TypeId} {v : Value} {xs : List StepT} (h : FrStepsF F0 F e v xs) : IsSl v := by
  obtain ⟨acs, Ls, h1, _, _⟩ := h
  exact h1.isSl
end Go.Proofs.Ytmaaifhmhclhdaa.X
set_option linter.unusedSimpArgs false
set_option linter.unusedVariables false
namespace Go.Proofs.Ytmaaifhmhclhdaa.M
section
variable {ar : List Int} {rs : Rules} {a b t : List Int} {ts : RowL} {n : Int} {m k : Nat}
end
end Go.Proofs.Ytmaaifhmhclhdaa.M
set_option linter.unusedSimpArgs false
set_option linter.unusedVariables false
namespace Go.Proofs.Ytmaaifhmhclhdaa.M
section
variable {α : Type} {q : α → Bool} {l : List α} {d : α} {k : Nat}
end
section
variable {ar : List Int} {rs es : Rules} {a b : List Int} {n : Int} {m k : Nat}
end
end Go.Proofs.Ytmaaifhmhclhdaa.M
set_option linter.unusedSimpArgs false
set_option linter.unusedVariables false
namespace Go.Proofs.Ytmaaifhmhclhdaa.M
abbrev StepV := Int × Int × List Int
def stepOne (ar : List Int) (rs : Rules) (t : List Int) (p r : Nat) : List StepV := match stepL ar rs t p r with | some u => [((p : Int), (r : Int), u)] | none => []
def stepsRow (ar : List Int) (rs : Rules) (t : List Int) (p k : Nat) : List StepV := (List.range k).flatMap (stepOne ar rs t p)
def stepsTo (ar : List Int) (rs : Rules) (t : List Int) (p : Nat) : List StepV := (List.range p).flatMap fun q => stepsRow ar rs t q rs.length
def stepsL (ar : List Int) (rs : Rules) (t : List Int) : List StepV := stepsTo ar rs t t.length
section
variable {ar t : List Int} {rs : Rules} {p r k : Nat} {u : List Int}
theorem stepsRow_succ : stepsRow ar rs t p (k + 1) = stepsRow ar rs t p k ++ stepOne ar rs t p k := by simp [stepsRow, List.range_succ]
theorem stepsTo_succ : stepsTo ar rs t (p + 1) = stepsTo ar rs t p ++ stepsRow ar rs t p rs.length := by simp [stepsTo, List.range_succ]
theorem redex_step (h : isRedex ar rs t p r = false) : stepL ar rs t p r = none := stepL_nomatch (by unfold isRedex at h; exact h)
theorem step_redex (h : (stepL ar rs t p r).isSome = true) : isRedex ar rs t p r = true := by
  cases hx : isRedex ar rs t p r with
  | true => rfl
  | false => rw [redex_step hx] at h; cases h
theorem stepOne_len : (stepOne ar rs t p r).length ≤ 1 := by unfold stepOne; split <;> simp
theorem stepsRow_len : ∀ k, (stepsRow ar rs t p k).length ≤ k
  | 0 => by simp [stepsRow]
  | k + 1 => by have := stepsRow_len k; have := stepOne_len (ar := ar) (rs := rs) (t := t) (p := p) (r := k); rw [stepsRow_succ, List.length_append]; omega
theorem stepsTo_len (h : rs.length ≤ 12) : ∀ p, (stepsTo ar rs t p).length ≤ 12 * p
  | 0 => by simp [stepsTo]
  | p + 1 => by have := stepsTo_len h p; have := stepsRow_len (ar := ar) (rs := rs) (t := t) (p := p) rs.length; rw [stepsTo_succ, List.length_append]; omega
end
abbrev FoundV := List Int × Int × StepV × Int
section
variable {ar t : List Int} {rs : Rules} {n d : Int} {k f : Nat} {all : List FoundV} {ss : List StepV}
abbrev EL (all : List FoundV) (k : Nat) : FoundV := all.getD k ([], 0, (0, 0, []), 0)
def AllOk (ar : List Int) (all : List FoundV) : Prop := ∀ i, i < all.length → termOk ar (EL all i).1 = true
theorem AllOk.snoc {x : FoundV} (h : AllOk ar all) (hx : termOk ar x.1 = true) : AllOk ar (all ++ [x]) := by
  intro i hi
  rw [List.length_append, List.length_singleton] at hi
  rcases Nat.lt_or_ge i all.length with h1 | h1
  · have := h i h1; unfold EL at *; rwa [List.getD_eq_getElem?_getD, List.getElem?_append_left h1, ← List.getD_eq_getElem?_getD]
  · obtain rfl : i = all.length := by omega
    unfold EL; simp [List.getD]; exact hx
def DeepOk (n : Int) (all : List FoundV) : Prop := ∀ i, i < all.length → 0 ≤ (EL all i).2.2.2 ∧ (EL all i).2.2.2 ≤ n
theorem DeepOk.snoc {x : FoundV} (h : DeepOk n all) (hx : 0 ≤ x.2.2.2 ∧ x.2.2.2 ≤ n) : DeepOk n (all ++ [x]) := by
  intro i hi
  rw [List.length_append, List.length_singleton] at hi
  rcases Nat.lt_or_ge i all.length with h1 | h1
  · have := h i h1; unfold EL at *; rwa [List.getD_eq_getElem?_getD, List.getElem?_append_left h1, ← List.getD_eq_getElem?_getD]
  · obtain rfl : i = all.length := by omega
    unfold EL; simp [List.getD]; exact hx
end
section
variable {all : List FoundV} {x : FoundV} {i : Nat}
end
end Go.Proofs.Ytmaaifhmhclhdaa.M
set_option linter.unusedSimpArgs false
set_option linter.unusedVariables false
namespace Go.Proofs.Ytmaaifhmhclhdaa.X
open Go
theorem yielded_undef {n : Nat} {a : Act} {ρ : Env} (r : Rep n a ρ) {ops : Array Oper} {g : Nat} {t : Tmp} (ht : (ops[g]?).bind (·.dst) = some t) (hv : ρ t = undef) : yielded ops a.tmps g = none := by
  unfold yielded
  rw [ht]
  have := r.get t
  rw [hv, Array.getD_eq_getD_getElem?] at this
  cases hx : a.tmps[t]? with
  | none => simp [hx]
  | some x => rw [hx] at this; simp at this; subst this; simp [hx, undef]
theorem XL.noU {P : Program} {n : Nat} {ops : Array Oper} {l : List Oper} {Q : QX} {ρ : Env} {F : FH} {L : List HP}
    {d : Option Tmp} {op : Op} {ty : TypeId} {pos : String} {af : Array Edge} {g : Nat} {b : Bool} {t : Tmp} (ht : (ops[g]?).bind (·.dst) = some t) (hv : ρ t = undef)
    (h : XL P n ops l Q (putE ρ d undef) F L) : XL P n ops (⟨d, op, ty, pos, af, some (g, b)⟩ :: l) Q ρ F L := by
  intro ok a w r H
  simp only [opsOk, List.all_cons, Bool.and_eq_true] at ok
  unfold wpList
  rw [if_neg (by simp [Region.wanted, yielded_undef r ht hv])]
  exact h ok.2 _ _ (r.put ok.1 undef) H
def FrIntsF (F0 F : FH) (e : TypeId) (v : Value) (xs : List Int) : Prop := Fresh F0 F (intsH e v xs)
theorem FrIntsF.mono {F0 F F' : FH} {e : TypeId} {v : Value} {xs : List Int} (h : FrIntsF F0 F e v xs) (le : F ≤ F') : FrIntsF F0 F' e v xs := Fresh.mono h le
end Go.Proofs.Ytmaaifhmhclhdaa.X
set_option linter.unusedSimpArgs false
set_option linter.unusedVariables false
namespace Go.Proofs.Ytmaaifhmhclhdaa.X
open Go
end Go.Proofs.Ytmaaifhmhclhdaa.X
set_option linter.unusedSimpArgs false
set_option linter.unusedVariables false
namespace Go.Proofs.Ytmaaifhmhclhdaa.X
open Go
section
variable {F F' G F1 F2 : FH} {D D' : HP} {L M : List HP} {P : Program} {o : Oper} {ρ : Env} {K : Post} {e E : TypeId}
theorem Fresh.perm {A B : List HP} (h : Fresh F F' (star A)) (p : A.Perm B) : Fresh F F' (star B) := by
  obtain ⟨m, hm, nd, hp⟩ := h
  obtain ⟨l, hl, pl⟩ := star_perm p m hm
  exact ⟨l, hl, ((pl.map Prod.fst).nodup_iff).2 nd, fun q hq => hp q (pl.mem_iff.1 hq)⟩
theorem Fresh.left {A B : List HP} (h : Fresh F F' (star (A ++ B))) : Fresh F F' (star A) := h.none
theorem Fresh.right {A B : List HP} (h : Fresh F F' (star (A ++ B))) : Fresh F F' (star B) := (h.perm List.perm_append_comm).none
theorem StepsC.get {F : FH} {cs : List Value} {xs : List StepT} (h : StepsC F cs xs) {i : Nat} (hi : i < xs.length) :
    ∃ a, IntsF F a (xs.getD i (0, 0, [])).2.2 ∧ cs[i * 3]? = some (.int .i64 (xs.getD i (0, 0, [])).1) ∧ cs[i * 3 + 1]? = some (.int .i64 (xs.getD i (0, 0, [])).2.1) ∧ cs[i * 3 + 2]? = some a := by
  obtain ⟨es, _, ⟨a, rfl, ha⟩, hg⟩ := CO.get h hi
  exact ⟨a, ha, by simpa using hg 0 _ rfl, hg 1 _ rfl, hg 2 _ rfl⟩
def FreshsF (F0 F : FH) (D : HP) : Prop := Fresh F0 F D
theorem FreshsF.mono {F0 F F' : FH} {D : HP} (h : FreshsF F0 F D) (le : F ≤ F') : FreshsF F0 F' D := Fresh.mono h le
theorem slH.isSl {s n : Nat} {v : Value} {cs : List Value} {l : OH} (h : slH E s v n cs l) : IsSl v := by
  rcases h.2 with ⟨b, rfl, _⟩ | ⟨b, c, sp, rfl, _⟩
  · exact ⟨_, _, _, rfl⟩
  · exact ⟨_, _, _, rfl⟩
end
end Go.Proofs.Ytmaaifhmhclhdaa.X
set_option linter.unusedSimpArgs false
set_option linter.unusedVariables false
namespace Go.Proofs.Ytmaaifhmhclhdaa.X
open Go
section
variable {F F' G : FH} {e E : TypeId} {v : Value}
def MoveO (e : TypeId) (es : List Value) (x : MoveT) (K : List HP) : Prop := ∃ c, es = [.int .i64 x.1, .int .i64 x.2.1, .bool x.2.2.1, c] ∧ K = [intsH e c x.2.2.2]
abbrev movesD (e E : TypeId) (v : Value) (xs : List MoveT) : HP := deepH 4 (MoveO e) E v xs
theorem MoveO.fz (es : List Value) (x : MoveT) (K : List HP) (h : MoveO e es x K) (hz : ∃ l, star K l ∧ ∀ p ∈ l, F.cells p.1 = some p.2) : MoveF F es x := by
  obtain ⟨c, rfl, rfl⟩ := h
  exact ⟨c, rfl, intsH.fz (E := e) (frozen_star hz _ (by simp))⟩
theorem movesD.fz {xs : List MoveT} (h : Fz (movesD e E v xs) F) : MovesF F v xs := deepH.fz MoveO.fz h
end
section
variable {P : Program} {ρ : Env} {F : FH} {L : List HP} {K : Post} {d : Option Tmp} {ty : TypeId} {pos : String} {af : Array Edge} {g : Option (Nat × Bool)}
theorem XOp.remC {x y : Operand} {t u : TypeId} {k : IntKind} {a b : Int} (hx : evO ρ x = .int k a) (hy : evO ρ y = .int k b) (h0 : 0 ≤ a) (hb : b ≠ 0) (kk : K (.int k (a % b)) F L) : XOp P ⟨d, .binOp .rem t x y u, ty, pos, af, g⟩ ρ F L K :=
  XOp.value (fun w _ => by simp [execOp, hx, hy, eqGuard, binOp, Op.intDiv, hb, IntWalk.rem_in _ _ h0]) kk
end
theorem StepsC.ones {F : FH} {cs : List Value} {xs : List StepT} (h : StepsC F cs xs) : ∀ u ∈ cs, u.oneCell' = true := by
  intro u hu
  obtain ⟨q, hq, rfl⟩ := List.getElem_of_mem hu
  have hl := h.1
  obtain ⟨es, h1, ⟨c, rfl, hc⟩, hg⟩ := CO.get h (i := q / 3) (by omega)
  have hj : q % 3 < 3 := Nat.mod_lt _ (by decide)
  have e : q / 3 * 3 + q % 3 = q := by omega
  have hx : ∀ v, [Value.int .i64 (xs.getD (q / 3) (0, 0, [])).1, .int .i64 (xs.getD (q / 3) (0, 0, [])).2.1, c][q % 3]? = some v → cs[q] = v := fun v hv => by
    have := hg (q % 3) v hv
    rw [e, List.getElem?_eq_getElem hq] at this
    exact Option.some.inj this
  obtain ⟨b, n, k, rfl⟩ := IntsF.isSl hc
  match hm : q % 3, hj with
  | 0, _ => rw [hx _ (by rw [hm]; rfl)]; rfl
  | 1, _ => rw [hx _ (by rw [hm]; rfl)]; rfl
  | 2, _ => rw [hx _ (by rw [hm]; rfl)]; rfl
end Go.Proofs.Ytmaaifhmhclhdaa.X
set_option linter.unusedSimpArgs false
set_option linter.unusedVariables false
namespace Go.Proofs.Ytmaaifhmhclhdaa.X
open Go
def WKJ (F0 : FH) (e ES T : TypeId) (bw : Nat) (fv : Value) (tl : List HP) (I : Nat → List StepT → Prop) (k : Nat) (Fy : FH) (Ly : List HP) : Prop :=
  ∃ (sv : Value) (ss : List StepT) (cs : List Value) (Ls : List HP) (m : Nat), IsSl sv ∧ StepsC Fy cs ss ∧ m = ss.length ∧ DeepL 3 (StepO e) cs ss Ls ∧ Fresh F0 Fy (star Ls) ∧ I k ss ∧ Ly = cellsH bw [fv, sv] T :: slH ES 3 sv m cs :: tl
theorem WKJ.mono {F0 F F' : FH} {e ES T : TypeId} {bw k : Nat} {fv : Value} {tl L : List HP} {I : Nat → List StepT → Prop} (h : WKJ F0 e ES T bw fv tl I k F L) (le : F ≤ F') : WKJ F0 e ES T bw fv tl I k F' L :=
  let ⟨sv, ss, cs, Ls, m, h1, h2, h3, h4, h5, h6, h7⟩ := h
  ⟨sv, ss, cs, Ls, m, h1, h2.mono le, h3, h4, h5.mono le, h6, h7⟩
section
variable {P : Program} {fn : Func} {Q : Post} {ρ : Env} {F F0 : FH} {L : List HP}
theorem Does.at {f : FuncId} {args : List Value} {Q : Value → FH → Prop} {h : HP} (A : List HP) {B : List HP} (H : Does P f args F (h :: (A ++ B)) fun v F' L' => Q v F' ∧ h :: (A ++ B) = L') : Does P f args F (A ++ h :: B) fun v F' L' => Q v F' ∧ A ++ h :: B = L' := fun w Hw =>
  (H w (Sub.front.holds Hw)).mono fun _ _ ⟨v, F', L', he, le, H', hq, hl⟩ => ⟨v, F', _, he, le, Sub.back.holds (hl ▸ H'), hq, rfl⟩
end
section
variable {P : Program} {ρ : Env} {F : FH} {L : List HP} {K : Post} {d : Option Tmp} {ty : TypeId} {pos : String} {af : Array Edge} {g : Option (Nat × Bool)}
end
end Go.Proofs.Ytmaaifhmhclhdaa.X
set_option linter.unusedSimpArgs false
set_option linter.unusedVariables false
namespace Go.Proofs.Ytmaaifhmhclhdaa.X
open Go
section
variable {P : Program} {ρ : Env} {F : FH} {L : List HP} {K : Post} {d : Option Tmp} {ty : TypeId} {pos : String} {af : Array Edge} {g : Option (Nat × Bool)}
theorem XOp.addW {x y : Operand} {t u : TypeId} {k : IntKind} {a b : Int} (hx : evO ρ x = .int k a) (hy : evO ρ y = .int k b) (kk : ∀ r, K (.int k r) F L) : XOp P ⟨d, .binOp .add t x y u, ty, pos, af, g⟩ ρ F L K :=
  XOp.value (v := .int k (k.wrap (a + b))) (fun w _ => by simp [execOp, hx, hy, eqGuard, binOp, Op.intArith]) (kk _)
theorem XOp.mulW {x y : Operand} {t u : TypeId} {k : IntKind} {a b : Int} (hx : evO ρ x = .int k a) (hy : evO ρ y = .int k b) (kk : ∀ r, K (.int k r) F L) : XOp P ⟨d, .binOp .mul t x y u, ty, pos, af, g⟩ ρ F L K :=
  XOp.value (v := .int k (k.wrap (a * b))) (fun w _ => by simp [execOp, hx, hy, eqGuard, binOp, Op.intArith]) (kk _)
theorem XOp.xorW {x y : Operand} {t u : TypeId} {k : IntKind} {a b : Int} (hx : evO ρ x = .int k a) (hy : evO ρ y = .int k b) (kk : ∀ r, K (.int k r) F L) : XOp P ⟨d, .binOp .xor t x y u, ty, pos, af, g⟩ ρ F L K :=
  XOp.value (v := .int k (k.wrap (BitVec.ofInt k.bits a ^^^ BitVec.ofInt k.bits b).toNat)) (fun w _ => by simp [execOp, hx, hy, eqGuard, binOp, Op.intBits]) (kk _)
theorem XOp.shrW {x y : Operand} {t u : TypeId} {k k' : IntKind} {a b : Int} (hx : evO ρ x = .int k a) (hy : evO ρ y = .int k' b) (hb : 0 ≤ b) (kk : ∀ r, K (.int k r) F L) : XOp P ⟨d, .binOp .shr t x y u, ty, pos, af, g⟩ ρ F L K :=
  XOp.value (v := .int k (a.fdiv (2 ^ min b.toNat k.bits))) (fun w _ => by simp [execOp, hx, hy, eqGuard, binOp, Op.shift, show ¬ b < 0 by omega]) (kk _)
theorem and_range {k : IntKind} (hk : k.bits = 64) {a b : Int} (hb : 0 ≤ b ∧ b < 4611686018427387904) : 0 ≤ k.wrap (BitVec.ofInt k.bits a &&& BitVec.ofInt k.bits b).toNat ∧ k.wrap (BitVec.ofInt k.bits a &&& BitVec.ofInt k.bits b).toNat ≤ b := by
  have h1 : ((BitVec.ofInt k.bits a &&& BitVec.ofInt k.bits b).toNat : Int) ≤ b := by
    rw [BitVec.toNat_and]
    have h2 : (BitVec.ofInt k.bits a).toNat &&& (BitVec.ofInt k.bits b).toNat ≤ (BitVec.ofInt k.bits b).toNat := Nat.and_le_right
    have h3 : ((BitVec.ofInt k.bits b).toNat : Int) = b := by
      rw [BitVec.toNat_ofInt, hk]
      have : b % ((2 ^ 64 : Nat) : Int) = b := Int.emod_eq_of_lt hb.1 (by omega)
      rw [this]; omega
    omega
  have h0 : (0 : Int) ≤ ((BitVec.ofInt k.bits a &&& BitVec.ofInt k.bits b).toNat : Int) := Int.natCast_nonneg _
  generalize ((BitVec.ofInt k.bits a &&& BitVec.ofInt k.bits b).toNat : Int) = r at h0 h1
  have e : k.wrap r = r := by
    cases k <;> first | exact IntWalk.i64_in _ ⟨by omega, by omega⟩ | exact IntWalk.u64_in _ ⟨by omega, by omega⟩ | (exfalso; revert hk; decide)
  rw [e]
  exact ⟨h0, h1⟩
theorem XOp.andW {x y : Operand} {t u : TypeId} {k : IntKind} {a b : Int} (hk : k.bits = 64) (hx : evO ρ x = .int k a) (hy : evO ρ y = .int k b) (hb : 0 ≤ b ∧ b < 4611686018427387904) (kk : ∀ r, 0 ≤ r ∧ r ≤ b → K (.int k r) F L) : XOp P ⟨d, .binOp .and t x y u, ty, pos, af, g⟩ ρ F L K :=
  XOp.value (v := .int k (k.wrap (BitVec.ofInt k.bits a &&& BitVec.ofInt k.bits b).toNat)) (fun w _ => by simp [execOp, hx, hy, eqGuard, binOp, Op.intBits]) (kk _ (and_range hk hb))
theorem XOp.remV {x y : Operand} {t u : TypeId} {k : IntKind} {a b : Int} (hx : evO ρ x = .int k a) (hy : evO ρ y = .int k b) (h0 : 0 ≤ a) (hb : 0 < b) (kk : ∀ r, 0 ≤ r ∧ r < b → K (.int k r) F L) : XOp P ⟨d, .binOp .rem t x y u, ty, pos, af, g⟩ ρ F L K :=
  XOp.remC hx hy h0 (by omega) (kk _ ⟨Int.emod_nonneg a (by omega), Int.emod_lt_of_pos a hb⟩)
end
def ByteE (F : FH) (es : List Value) (x : Int) : Prop := es = [.int .u8 x] ∧ 0 ≤ x ∧ x ≤ 255
theorem ByteE.mono {F F' : FH} (es : List Value) (x : Int) (h : ByteE F es x) : ByteE F' es x := h
def BytesF : FH → Value → List Int → Prop := SlOf 1 ByteE 0
theorem BytesF.mono {F F' : FH} {v : Value} {xs : List Int} (h : BytesF F v xs) (le : F ≤ F') : BytesF F' v xs := SlOf.mono ByteE.mono h le
theorem BytesF.slv {F : FH} {L : List HP} {v : Value} {xs : List Int} (h : BytesF F v xs) : SlV F L v xs.length := SlOf.slv h
theorem BytesF.isSl {F : FH} {v : Value} {xs : List Int} (h : BytesF F v xs) : IsSl v := by obtain ⟨_, h, _⟩ := h; exact h.isSl
theorem BytesF.rd {F : FH} {v : Value} {xs : List Int} (h : BytesF F v xs) {i : Nat} (hi : i < xs.length) : ∀ L, Rd F L (elemA v i) (.int .u8 (xs.getD i 0)) := by
  obtain ⟨es, hl, ⟨rfl, _⟩, hr⟩ := SlOf.get h hi
  intro L
  have := hr L 0 _ rfl
  simpa using this
theorem BytesF.range {F : FH} {v : Value} {xs : List Int} (h : BytesF F v xs) {i : Nat} (hi : i < xs.length) : 0 ≤ xs.getD i 0 ∧ xs.getD i 0 ≤ 255 := by
  obtain ⟨es, hl, ⟨rfl, h2⟩, hr⟩ := SlOf.get h hi
  exact h2
def curH (k : IntKind) (E : TypeId) (b : Nat) (bv : Value) (n : Nat) : HP := fun l => ∃ i h : Int, 0 ≤ i ∧ i ≤ n ∧ cellsH b [bv, .int .i64 i, .int k h] E l
theorem curH.of {k : IntKind} {E : TypeId} {b : Nat} {bv : Value} {n : Nat} {i h : Int} (h0 : 0 ≤ i) (h1 : i ≤ n) : ∀ l, cellsH b [bv, .int .i64 i, .int k h] E l → curH k E b bv n l := fun l hl => ⟨i, h, h0, h1, hl⟩
theorem Holds.uncur {k : IntKind} {E : TypeId} {b : Nat} {bv : Value} {n : Nat} {F : FH} {L : List HP} {w : World} (H : Holds F (curH k E b bv n :: L) w) : ∃ i h : Int, 0 ≤ i ∧ i ≤ n ∧ Holds F (cellsH b [bv, .int .i64 i, .int k h] E :: L) w := by
  obtain ⟨h1, h2, h3, h4, l, hl, nd, hp⟩ := H
  obtain ⟨a, c, ⟨i, h, q1, q2, hm⟩, hc, rfl⟩ := hl
  exact ⟨i, h, q1, q2, h1, h2, h3, h4, _, ⟨a, c, hm, hc, rfl⟩, nd, hp⟩
theorem Does.cur {P : Program} {f : FuncId} {args : List Value} {k : IntKind} {E : TypeId} {b : Nat} {bv : Value} {n : Nat} {F : FH} {L : List HP} {Q : Value → FH → Prop}
    (H : ∀ i h : Int, 0 ≤ i → i ≤ n → Does P f args F (cellsH b [bv, .int .i64 i, .int k h] E :: L) fun v F' L' => Q v F' ∧ ∃ i' h' : Int, 0 ≤ i' ∧ i' ≤ n ∧ cellsH b [bv, .int .i64 i', .int k h'] E :: L = L') :
    Does P f args F (curH k E b bv n :: L) fun v F' L' => Q v F' ∧ curH k E b bv n :: L = L' := by
  intro w Hw
  obtain ⟨i, h, q1, q2, Hw'⟩ := Hw.uncur
  refine (H i h q1 q2 w Hw').mono ?_
  rintro e w' ⟨v, F', L', he, le, H', hq, i', h', q3, q4, rfl⟩
  exact ⟨v, F', _, he, le, (Sub.keep (curH.of q3 q4) (Sub.refl _)).holds H', hq, rfl⟩
def intAt : Value → Int
  | .int _ n => n
  | _ => 0
def boolAt : Value → Bool
  | .bool b => b
  | _ => false
end Go.Proofs.Ytmaaifhmhclhdaa.X
set_option linter.unusedSimpArgs false
set_option linter.unusedVariables false
namespace Go.Proofs.Ytmaaifhmhclhdaa.X
open Go
theorem Holds.ex {ι : Type} {h : HP} {k : ι → HP} {p : ι → Prop} {F : FH} {A B : List HP} {w : World} (e : ∀ l, h l → ∃ i, p i ∧ k i l) (H : Holds F (A ++ h :: B) w) : ∃ i, p i ∧ Holds F (A ++ k i :: B) w := by
  obtain ⟨h1, h2, h3, h4, l, hl, nd, hp⟩ := H
  obtain ⟨a, m, c, ha, hm, hc, rfl⟩ := star_mid.1 hl
  obtain ⟨i, hi, hk⟩ := e m hm
  exact ⟨i, hi, h1, h2, h3, h4, _, star_mid.2 ⟨a, m, c, ha, hk, hc, rfl⟩, nd, hp⟩
def drawnH (e : TypeId) (v : Value) (Q : List Int → Prop) : HP := fun l => ∃ t, Q t ∧ intsH e v t l
theorem drawnH.of {e : TypeId} {v : Value} {Q : List Int → Prop} {t : List Int} (h : Q t) : ∀ l, intsH e v t l → drawnH e v Q l := fun l hl => ⟨t, h, hl⟩
section
variable {P : Program} {n : Nat} {ops : Array Oper} {l : List Oper} {Q : QX} {ρ : Env} {F : FH} {L : List HP} {c : Code}
theorem XL.undraw {e : TypeId} {v : Value} {R : List Int → Prop} (A : List HP) {B : List HP} (hL : L = A ++ drawnH e v R :: B) (h : ∀ t, R t → XL P n ops l Q ρ F (A ++ intsH e v t :: B)) : XL P n ops l Q ρ F L := by
  subst hL
  intro ok a w r H
  obtain ⟨t, ht, H'⟩ := Holds.ex (fun _ h => h) H
  exact h t ht ok a w r H'
end
def SomesF (F : FH) (v : Value) (Q : List Int → Prop) : Prop := ∃ t, IntsF F v t ∧ Q t
theorem SomesF.mono {F F' : FH} {v : Value} {Q : List Int → Prop} (h : SomesF F v Q) (le : F ≤ F') : SomesF F' v Q := let ⟨t, h1, h2⟩ := h; ⟨t, h1.mono le, h2⟩
theorem SomesF.isSl {F : FH} {v : Value} {Q : List Int → Prop} (h : SomesF F v Q) : IsSl v := let ⟨_, h1, _⟩ := h; h1.isSl
def SomeRowsF (F : FH) (v : Value) (Q : List (List Int) → Prop) : Prop := ∃ t, RowsF F v t ∧ Q t
theorem SomeRowsF.mono {F F' : FH} {v : Value} {Q : List (List Int) → Prop} (h : SomeRowsF F v Q) (le : F ≤ F') : SomeRowsF F' v Q := let ⟨t, h1, h2⟩ := h; ⟨t, h1.mono le, h2⟩
theorem SomeRowsF.isSl {F : FH} {v : Value} {Q : List (List Int) → Prop} (h : SomeRowsF F v Q) : IsSl v := let ⟨_, h1, _⟩ := h; h1.isSl
theorem Does.atO {P : Program} {f : FuncId} {args : List Value} {F : FH} {ι : Type} {O : ι → HP} {Q : ι → Value → FH → Prop} {h : HP} (A : List HP) {B : List HP} (H : Does P f args F (h :: (A ++ B)) fun v F' L' => ∃ i, Q i v F' ∧ O i :: h :: (A ++ B) = L') :
    Does P f args F (A ++ h :: B) fun v F' L' => ∃ i, Q i v F' ∧ O i :: (A ++ h :: B) = L' := fun w Hw =>
  (H w (Sub.front.holds Hw)).mono fun _ _ ⟨v, F', L', he, le, H', i, hq, hl⟩ => ⟨v, F', _, he, le, (Sub.cons Sub.back).holds (hl ▸ H'), i, hq, rfl⟩
end Go.Proofs.Ytmaaifhmhclhdaa.X
set_option linter.unusedSimpArgs false
set_option linter.unusedVariables false
namespace Go.Proofs.Ytmaaifhmhclhdaa.M
section
variable {ar : List Int} {rs : Rules} {a b t : List Int} {ts : RowL} {n : Int} {k : Nat}
end
end Go.Proofs.Ytmaaifhmhclhdaa.M
set_option linter.unusedSimpArgs false
set_option linter.unusedVariables false
namespace Go.Proofs.Ytmaaifhmhclhdaa.M
section
variable {ar t u : List Int} {n : Nat} {f : Int}
def goodN (ar t : List Int) (n : Nat) : Prop := (∀ x ∈ t, -24 ≤ x) ∧ ∀ r, endGo ar (t ++ r) n = some t.length
def goodT (ar t : List Int) : Prop := goodN ar t 1
theorem goodN.nil : goodN ar [] 0 := ⟨fun x hx => (List.not_mem_nil hx).elim, fun r => by cases r <;> rfl⟩
theorem goodN.snoc (h : goodN ar t n) (k : goodT ar u) : goodN ar (t ++ u) (n + 1) := by
  refine ⟨fun x hx => (List.mem_append.1 hx).elim (h.1 x) (k.1 x), fun r => ?_⟩
  have h1 := h.2 (u ++ r)
  have h2 : endGo ar ((t ++ (u ++ r)).drop t.length) 1 = some u.length := by rw [List.drop_left]; exact k.2 r
  rw [List.append_assoc, endGo_join h1 h2, List.length_append]
theorem goodT.one (hf : -24 ≤ f) (hl : f < ar.length) (ha : arity ar f = 0) : goodT ar [f] := by
  refine ⟨fun x hx => by obtain rfl := List.mem_singleton.1 hx; exact hf, fun r => ?_⟩
  show endGo ar (f :: r) (0 + 1) = some 1
  unfold endGo
  rw [if_pos hl, ha]
  cases r <;> rfl
theorem goodT.var (hf : -24 ≤ f) (h0 : f < 0) : goodT ar [f] := goodT.one hf (by omega) (by rw [arity, if_pos h0])
theorem goodT.node (h0 : 0 ≤ f) (hl : f < ar.length) (ha : arity ar f = (n : Int)) (h : goodN ar t n) : goodT ar (f :: t) := by
  refine ⟨fun x hx => (List.mem_cons.1 hx).elim (fun e => by omega) (h.1 x), fun r => ?_⟩
  show endGo ar (f :: (t ++ r)) (0 + 1) = some (t.length + 1)
  unfold endGo
  rw [if_pos hl, ha, show 0 + (n : Int).toNat = n from by omega, h.2 r]
  rfl
theorem goodT.ok (hs : sigOk ar = true) (hl : 1 ≤ t.length ∧ t.length ≤ 60) (h : goodT ar t) : termOk ar t = true := by
  have e := h.2 []
  rw [List.append_nil] at e
  exact termOk_iff.2 ⟨hs, hl.1, hl.2, h.1, e⟩
def szB : Nat → Nat
  | 0 => 1
  | d + 1 => 1 + 2 * szB d
def szT : Nat → Nat
  | 0 => 1
  | d + 1 => 1 + 3 * szT d
theorem szB_pos : ∀ d, 1 ≤ szB d
  | 0 => by simp [szB]
  | d + 1 => by simp only [szB]; omega
theorem szB_next {d : Nat} (h : 1 ≤ d) : szB d = 1 + 2 * szB (d - 1) := by
  obtain ⟨e, rfl⟩ : ∃ e, d = e + 1 := ⟨d - 1, by omega⟩
  rfl
theorem szB_le : ∀ {d e : Nat}, d ≤ e → szB d ≤ szB e
  | 0, e, _ => szB_pos e
  | d + 1, 0, h => by omega
  | d + 1, e + 1, h => by have := szB_le (d := d) (e := e) (by omega); simp only [szB]; omega
theorem szT_pos : ∀ d, 1 ≤ szT d
  | 0 => by simp [szT]
  | d + 1 => by simp only [szT]; omega
theorem szT_next {d : Nat} (h : 1 ≤ d) : szT d = 1 + 3 * szT (d - 1) := by
  obtain ⟨e, rfl⟩ : ∃ e, d = e + 1 := ⟨d - 1, by omega⟩
  rfl
theorem szT_le : ∀ {d e : Nat}, d ≤ e → szT d ≤ szT e
  | 0, e, _ => szT_pos e
  | d + 1, 0, h => by omega
  | d + 1, e + 1, h => by have := szT_le (d := d) (e := e) (by omega); simp only [szT]; omega
theorem sigOk_snoc {x : Int} (h : sigOk ar = true) (hl : ar.length ≤ 7) (hx : 0 ≤ x ∧ x ≤ 3) : sigOk (ar ++ [x]) = true := by
  have h1 := sigOk_spec h
  refine sigOk_of (by simp) (by simp; omega) (fun i hi => ?_)
  rcases Nat.lt_or_ge i ar.length with h' | h'
  · have := h1.2.2 i h'
    simpa [List.getD, List.getElem?_append_left h'] using this
  · have e : i = ar.length := by simp at hi; omega
    subst e
    simpa [List.getD] using hx
theorem rows_snoc {N : Nat} {os : List (List Int)} {x : List Int} (h : ∀ i, (os.getD i []).length ≤ N) (hx : x.length ≤ N) : ∀ i, ((os ++ [x]).getD i []).length ≤ N := fun i => by
  rcases Nat.lt_or_ge i os.length with h' | h'
  · have := h i
    simpa [List.getD, List.getElem?_append_left h'] using this
  · rcases Nat.eq_or_lt_of_le h' with e | e
    · subst e; simpa [List.getD] using hx
    · simp [List.getD, List.getElem?_eq_none (show (os ++ [x]).length ≤ i by simp; omega)]
theorem sub_le {t : List Int} {p : Nat} : (sub ar t p).length ≤ t.length := by
  unfold sub
  rw [List.length_take, List.length_drop]
  omega
theorem fill_le {s : RowL} {t : List Int} : ((fillL s t).getD []).length ≤ 60 := by
  cases h : fillL s t with
  | none => simp
  | some u => exact (fillL_len h).1
theorem put_le {t u : List Int} {p : Nat} : ((putL ar t p u).getD []).length ≤ 60 := by
  unfold putL
  split
  · simp
  · rename_i h; simpa using h
def smallS (ar : List Int) (rs : Rules) : Prop := ar.length ≤ 20 ∧ rs.length ≤ 20 ∧ ∀ i, i < rs.length → (rs.getD i ([], [])).1.length ≤ 2000 ∧ (rs.getD i ([], [])).2.length ≤ 2000
def smallR (rs : Rules) : Prop := ∀ i, i < rs.length → (rs.getD i ([], [])).1.length ≤ 2000 ∧ (rs.getD i ([], [])).2.length ≤ 2000
theorem smallR.nil : smallR [] := fun i hi => by simp at hi
theorem smallR.snoc {l r : List Int} {rs : Rules} (h : smallR rs) (hl : l.length ≤ 2000) (hr : r.length ≤ 2000) : smallR (rs ++ [(l, r)]) := fun i hi => by
  rcases Nat.lt_or_ge i rs.length with h' | h'
  · have := h i h'
    simpa [List.getD, List.getElem?_append_left h'] using this
  · have e : i = rs.length := by simp at hi; omega
    subst e
    simpa [List.getD] using And.intro hl hr
theorem smallS.mk' {rs : Rules} (ha : ar.length ≤ 20) (hn : rs.length ≤ 20) (h : smallR rs) : smallS ar rs := ⟨ha, hn, h⟩
theorem smallS.la {rs : Rules} (h : smallS ar rs) : ar.length ≤ 4000000 := by have := h.1; omega
theorem smallS.lr {rs : Rules} (h : smallS ar rs) : rs.length ≤ 4000000 := by have := h.2.1; omega
theorem smallS.each {rs : Rules} (h : smallS ar rs) : ∀ i, i < rs.length → (rs.getD i ([], [])).1.length ≤ 4000000 ∧ (rs.getD i ([], [])).2.length ≤ 4000000 := fun i hi => by have := h.2.2 i hi; omega
variable {rs : Rules} {a b : List Int} {ts : RowL} {m : Int} {i k : Nat}
end
end Go.Proofs.Ytmaaifhmhclhdaa.M
set_option linter.unusedSimpArgs false
set_option linter.unusedVariables false
namespace Go.Proofs.Ytmaaifhmhclhdaa.M
section
variable {ar t : List Int} {rs : Rules} {p r : Int} {k : Nat}
def stepsS (ar : List Int) (rs : Rules) (t : List Int) : List StepV := if rightB ar rs t = true then stepsL ar rs t else []
def redAtL (ar : List Int) (rs : Rules) (t : List Int) (p r : Int) : Bool := stepAtOk ar rs t p r && isRedex ar rs t p.toNat r.toNat
theorem stepsS_yes (h : rightB ar rs t = true) : stepsS ar rs t = stepsL ar rs t := if_pos h
theorem stepsS_no (h : rightB ar rs t = false) : stepsS ar rs t = [] := if_neg (by rw [h]; simp)
theorem stepsS_len : (stepsS ar rs t).length ≤ 4000000 := by
  unfold stepsS
  split
  · rename_i h
    have h1 := right_iff.1 h
    have h2 := stepsTo_len (ar := ar) (t := t) (rs := rs) (sysOk_iff.1 h1.1).2.1 t.length
    have h3 := termOk_len h1.2
    unfold stepsL; omega
  · simp
theorem mem_steps2 {s : StepV} (h : s ∈ stepsL ar rs t) : ∃ q k : Nat, q < t.length ∧ k < rs.length ∧ s.1 = q ∧ s.2.1 = k ∧ stepL ar rs t q k = some s.2.2 := by
  unfold stepsL stepsTo at h
  obtain ⟨q, hq, h⟩ := List.mem_flatMap.1 h
  unfold stepsRow at h
  obtain ⟨k, hk, h⟩ := List.mem_flatMap.1 h
  refine ⟨q, k, List.mem_range.1 hq, List.mem_range.1 hk, ?_⟩
  unfold stepOne at h
  cases hx : stepL ar rs t q k with
  | none => rw [hx] at h; cases h
  | some u => rw [hx] at h; obtain rfl := List.mem_singleton.1 h; exact ⟨rfl, rfl, rfl⟩
theorem steps_law (hk : k < (stepsS ar rs t).length) : stepAtL ar rs t ((stepsS ar rs t).getD k (0, 0, [])).1 ((stepsS ar rs t).getD k (0, 0, [])).2.1 = some ((stepsS ar rs t).getD k (0, 0, [])).2.2 ∧
    redAtL ar rs t ((stepsS ar rs t).getD k (0, 0, [])).1 ((stepsS ar rs t).getD k (0, 0, [])).2.1 = true := by
  cases hr : rightB ar rs t with
  | false => rw [stepsS_no hr] at hk; simp at hk
  | true =>
    rw [stepsS_yes hr] at hk ⊢
    generalize hs : (stepsL ar rs t).getD k (0, 0, []) = s
    have hm : s ∈ stepsL ar rs t := by rw [← hs]; simp [List.getD, hk]
    obtain ⟨q, j, hq, hj, e1, e2, hu⟩ := mem_steps2 hm
    have hok : stepAtOk ar rs t s.1 s.2.1 = true := by
      unfold stepAtOk
      rw [hr, e1, e2]
      simp; omega
    have hn1 : s.1.toNat = q := by omega
    have hn2 : s.2.1.toNat = j := by omega
    refine ⟨by rw [stepAtL, if_pos hok, hn1, hn2]; exact hu, ?_⟩
    unfold redAtL
    rw [hok, hn1, hn2, step_redex (by rw [hu]; rfl)]
    rfl
theorem ruleAtGo_neg {p : Nat} : ∀ (n r : Nat), ruleAtGo ar rs t p n r < 0 → ∀ k, r ≤ k → k < r + n → isRedex ar rs t p k = false
  | 0, r, _, k, h1, h2 => by omega
  | n + 1, r, h, k, h1, h2 => by
    rw [ruleAtGo] at h
    split at h
    · omega
    · rename_i hr
      rcases Nat.eq_or_lt_of_le h1 with rfl | h3
      · simpa using hr
      · exact ruleAtGo_neg n (r + 1) h k h3 (by omega)
theorem normal_nosteps (h : (rightB ar rs t && normalL ar rs t) = true) : stepsS ar rs t = [] := by
  simp only [Bool.and_eq_true] at h
  rw [stepsS_yes h.1]
  have hn : redL ar rs t = [] := of_decide_eq_true h.2
  rw [List.eq_nil_iff_forall_not_mem]
  intro s hs
  obtain ⟨q, j, hq, hj, e1, e2, hu⟩ := mem_steps2 hs
  have h1 := redL_nil.1 hn q hq
  have h2 := step_redex (ar := ar) (rs := rs) (t := t) (p := q) (r := j) (by rw [hu]; rfl)
  have h3 := ruleAtGo_neg (ar := ar) (rs := rs) (t := t) (p := q) rs.length 0 h1 j (Nat.zero_le _) (by omega)
  rw [h2] at h3
  cases h3
end
end Go.Proofs.Ytmaaifhmhclhdaa.M
set_option linter.unusedSimpArgs false
set_option linter.unusedVariables false
namespace Go.Proofs.Ytmaaifhmhclhdaa.M
section
variable {ar t : List Int} {rs : Rules} {all os : List Int} {e x : Int} {c p k i : Nat}
theorem endN_nest (ho : termOk ar t = true) (hc : c < t.length) (h1 : c ≤ p) (h2 : p < endN ar t c) : endN ar t p ≤ endN ar t c := by
  obtain ⟨q, hq, _, _⟩ := endAt_some ho hc
  have hn : endN ar t c = q := by rw [endN, hq]; rfl
  unfold endAt at hq
  cases hx : endGo ar (t.drop c) 1 with
  | none => rw [hx] at hq; cases hq
  | some ec =>
    rw [hx] at hq
    have hqe : c + ec = q := by simpa using hq
    obtain ⟨m, hm⟩ := endGo_at hx (p - c) (by omega)
    rw [List.drop_drop, show c + (p - c) = p from by omega, show m + 1 = 1 + m from by omega] at hm
    obtain ⟨e1, e2, h3, _, h5⟩ := endGo_split hm
    have hp : endN ar t p = p + e1 := by rw [endN, endAt, h3]; rfl
    omega
def outGo (ar t : List Int) : List Int → Int → List Int
  | [], _ => []
  | x :: r, e => if e ≤ x then x :: outGo ar t r (endN ar t x.toNat : Int) else outGo ar t r e
def outL (ar : List Int) (rs : Rules) (t : List Int) : List Int := outGo ar t (redL ar rs t) 0
def outS (ar : List Int) (rs : Rules) (t : List Int) : List Int := if rightB ar rs t = true then outL ar rs t else []
theorem outGo_yes (hk : k < all.length) (h : e ≤ all.getD k 0) : outGo ar t (all.drop k) e = all.getD k 0 :: outGo ar t (all.drop (k + 1)) (endN ar t (all.getD k 0).toNat : Int) := by
  rw [drop_get 0 hk, outGo, if_pos h]
theorem outGo_no (hk : k < all.length) (h : ¬ e ≤ all.getD k 0) : outGo ar t (all.drop k) e = outGo ar t (all.drop (k + 1)) e := by
  rw [drop_get 0 hk, outGo, if_neg h]
theorem outGo_end (hk : all.length ≤ k) : outGo ar t (all.drop k) e = [] := by rw [List.drop_eq_nil_of_le hk]; rfl
theorem out_next (hk : k < all.length) (h : e ≤ all.getD k 0) (ho : os ++ outGo ar t (all.drop k) e = outGo ar t all 0) : (os ++ [all.getD k 0]) ++ outGo ar t (all.drop (k + 1)) (endN ar t (all.getD k 0).toNat : Int) = outGo ar t all 0 := by
  rw [← ho, outGo_yes hk h, List.append_assoc]; rfl
theorem out_skip (hk : k < all.length) (h : ¬ e ≤ all.getD k 0) (ho : os ++ outGo ar t (all.drop k) e = outGo ar t all 0) : os ++ outGo ar t (all.drop (k + 1)) e = outGo ar t all 0 := by
  rw [← ho, outGo_no hk h]
theorem out_done (hk : all.length ≤ k) (ho : os ++ outGo ar t (all.drop k) e = outGo ar t all 0) : os = outGo ar t all 0 := by
  rw [← ho, outGo_end hk, List.append_nil]
theorem redL_lt : ∀ {j : Nat}, j < (redL ar rs t).length → ∀ i, i < j → (redL ar rs t).getD i 0 < (redL ar rs t).getD j 0
  | 0, _, i, h => by omega
  | j + 1, hj, i, h => by
    have h1 := redL_asc (ar := ar) (rs := rs) (t := t) (i := j) hj
    rcases Nat.eq_or_lt_of_le (show i ≤ j by omega) with rfl | h2
    · exact h1
    · have := redL_lt (j := j) (by omega) i h2
      omega
theorem redL_at (hk : k < (redL ar rs t).length) : 0 ≤ (redL ar rs t).getD k 0 ∧ (redL ar rs t).getD k 0 < (t.length : Int) ∧ 0 ≤ ruleAtL ar rs t ((redL ar rs t).getD k 0).toNat := by
  obtain ⟨p, h1, h2, h3⟩ := redL_spec (ar := ar) (rs := rs) (t := t) 0 k hk
  rw [h1]
  exact ⟨by omega, by omega, of_decide_eq_true h3⟩
def insideB (ar t : List Int) (a p : Int) : Bool := (posOk ar t a && posOk ar t p) && decide (a ≤ p ∧ p < (endN ar t a.toNat : Int))
theorem in_law (hi : i < (inL ar rs t).length) (hk : k < (redL ar rs t).length) (hne : (redL ar rs t).getD k 0 ≠ (inL ar rs t).getD i 0) : insideB ar t ((inL ar rs t).getD i 0) ((redL ar rs t).getD k 0) = false := by
  generalize hx : (inL ar rs t).getD i 0 = x at hne
  have hm : x ∈ inL ar rs t := by rw [← hx]; simp [List.getD, hi]
  unfold inL inTo at hm
  obtain ⟨j, hj, rfl⟩ := List.mem_map.1 hm
  have hj1 := List.mem_range.1 (List.mem_filter.1 hj).1
  have hj2 : inOk ar t (redL ar rs t) j = true := (List.mem_filter.1 hj).2
  simp only [inOk, decide_eq_true_eq] at hj2
  unfold insideB
  rw [Bool.and_eq_false_iff]
  refine .inr (decide_eq_false (fun h => ?_))
  rcases Nat.lt_trichotomy j k with h1 | rfl | h1
  · rcases hj2 with h2 | h2
    · omega
    · rcases Nat.eq_or_lt_of_le (show j + 1 ≤ k by omega) with rfl | h3
      · omega
      · have := redL_lt hk (j + 1) h3; omega
  · exact hne rfl
  · have := redL_lt hj1 k h1; omega
theorem out_mem (ho : termOk ar t = true) : ∀ (n k : Nat) (e : Int), (redL ar rs t).length ≤ k + n → (∀ j, j < k → (endN ar t ((redL ar rs t).getD j 0).toNat : Int) ≤ e) → (e = 0 ∨ ∃ c, c < k ∧ e = (endN ar t ((redL ar rs t).getD c 0).toNat : Int)) →
    ∀ x ∈ outGo ar t ((redL ar rs t).drop k) e, ∃ m, m < (redL ar rs t).length ∧ x = (redL ar rs t).getD m 0 ∧ ∀ j, j < m → (endN ar t ((redL ar rs t).getD j 0).toNat : Int) ≤ x
  | n, k, e, hn, hj, he, x, hx => by
    rcases Nat.lt_or_ge k (redL ar rs t).length with hk | hk
    · have hr := redL_at hk
      have hsp := endN_spec ho (p := ((redL ar rs t).getD k 0).toNat) (by omega)
      match n with
      | 0 => omega
      | n + 1 =>
        by_cases h : e ≤ (redL ar rs t).getD k 0
        · rw [outGo_yes hk h] at hx
          rcases List.mem_cons.1 hx with rfl | hx
          · exact ⟨k, hk, rfl, fun j h1 => Int.le_trans (hj j h1) h⟩
          · refine out_mem ho n (k + 1) _ (by omega) (fun j h1 => ?_) (.inr ⟨k, by omega, rfl⟩) x hx
            rcases Nat.eq_or_lt_of_le (show j ≤ k by omega) with rfl | h2
            · omega
            · have := hj j h2; omega
        · rw [outGo_no hk h] at hx
          refine out_mem ho n (k + 1) e (by omega) (fun j h1 => ?_) ?_ x hx
          · rcases Nat.eq_or_lt_of_le (show j ≤ k by omega) with rfl | h2
            · rcases he with rfl | ⟨c, hc, rfl⟩
              · omega
              · have hc1 := redL_at (ar := ar) (rs := rs) (t := t) (k := c) (by omega)
                have hc2 := redL_lt hk c hc
                have := endN_nest ho (c := ((redL ar rs t).getD c 0).toNat) (p := ((redL ar rs t).getD j 0).toNat) (by omega) (by omega) (by omega)
                omega
            · exact hj j h2
          · rcases he with h1 | ⟨c, hc, h1⟩
            · exact .inl h1
            · exact .inr ⟨c, by omega, h1⟩
    · rw [outGo_end hk] at hx; cases hx
theorem out_law (ho : termOk ar t = true) (hi : i < (outL ar rs t).length) (hk : k < (redL ar rs t).length) (hne : (redL ar rs t).getD k 0 ≠ (outL ar rs t).getD i 0) : insideB ar t ((redL ar rs t).getD k 0) ((outL ar rs t).getD i 0) = false := by
  generalize hx : (outL ar rs t).getD i 0 = x at hne
  have hm : x ∈ outL ar rs t := by rw [← hx]; simp [List.getD, hi]
  obtain ⟨m, hm1, rfl, hm2⟩ := out_mem ho _ 0 0 (Nat.le_add_left _ 0) (fun j h => by omega) (.inl rfl) x (by simpa [outL] using hm)
  unfold insideB
  rw [Bool.and_eq_false_iff]
  refine .inr (decide_eq_false (fun h => ?_))
  rcases Nat.lt_trichotomy k m with h1 | rfl | h1
  · have := hm2 k h1; omega
  · exact hne rfl
  · have := redL_lt hk m h1; omega
theorem out_first (h : redL ar rs t ≠ []) : 0 < (outL ar rs t).length ∧ (outL ar rs t).getD 0 0 = (redL ar rs t).getD 0 0 := by
  have hl : 0 < (redL ar rs t).length := List.length_pos_iff.2 h
  have h0 := (redL_at hl).1
  have e := outGo_yes (ar := ar) (t := t) (all := redL ar rs t) (k := 0) (e := 0) hl h0
  rw [List.drop_zero] at e
  unfold outL
  rw [e]
  exact ⟨by simp, rfl⟩
theorem outGo_len : ∀ (l : List Int) (e : Int), (outGo ar t l e).length ≤ l.length
  | [], e => Nat.le_refl _
  | x :: r, e => by
    unfold outGo
    split
    · have := outGo_len r (endN ar t x.toNat : Int); simp; omega
    · have := outGo_len r e; simp; omega
theorem redS_y (h : rightB ar rs t = true) : redS ar rs t = redL ar rs t := if_pos h
theorem redS_n (h : rightB ar rs t = false) : redS ar rs t = [] := if_neg (by rw [h]; simp)
theorem inS_y (h : rightB ar rs t = true) : inS ar rs t = inL ar rs t := if_pos h
theorem inS_n (h : rightB ar rs t = false) : inS ar rs t = [] := if_neg (by rw [h]; simp)
theorem outS_y (h : rightB ar rs t = true) : outS ar rs t = outL ar rs t := if_pos h
theorem outS_n (h : rightB ar rs t = false) : outS ar rs t = [] := if_neg (by rw [h]; simp)
theorem outS_red : outGo ar t (redS ar rs t) 0 = outS ar rs t := by
  cases h : rightB ar rs t with
  | true => rw [redS_y h, outS_y h]; rfl
  | false => rw [redS_n h, outS_n h]; rfl
theorem inS_law (hi : i < (inS ar rs t).length) (hk : k < (redS ar rs t).length) (hne : (redS ar rs t).getD k 0 ≠ (inS ar rs t).getD i 0) : insideB ar t ((inS ar rs t).getD i 0) ((redS ar rs t).getD k 0) = false := by
  have h := redS_right hk
  rw [redS_y h] at hk hne ⊢
  rw [inS_y h] at hi hne ⊢
  exact in_law hi hk hne
theorem outS_law (hi : i < (outS ar rs t).length) (hk : k < (redS ar rs t).length) (hne : (redS ar rs t).getD k 0 ≠ (outS ar rs t).getD i 0) : insideB ar t ((redS ar rs t).getD k 0) ((outS ar rs t).getD i 0) = false := by
  have h := redS_right hk
  rw [redS_y h] at hk hne ⊢
  rw [outS_y h] at hi hne ⊢
  exact out_law (right_iff.1 h).2 hi hk hne
theorem S_len : (redS ar rs t).length ≤ 60 ∧ (inS ar rs t).length ≤ 60 ∧ (outS ar rs t).length ≤ 60 := by
  cases h : rightB ar rs t with
  | false => rw [redS_n h, inS_n h, outS_n h]; simp
  | true =>
    have h1 := termOk_len (right_iff.1 h).2
    have h2 := redL_len (ar := ar) (rs := rs) (t := t)
    have h3 := inTo_len (ar := ar) (t := t) (all := redL ar rs t) (k := (redL ar rs t).length)
    have h4 := outGo_len (ar := ar) (t := t) (redL ar rs t) 0
    rw [redS_y h, inS_y h, outS_y h]
    unfold inL outL
    omega
theorem some_law : ((redS ar rs t).length > 0 ↔ (inS ar rs t).length > 0) ∧ ((redS ar rs t).length > 0 ↔ (outS ar rs t).length > 0) ∧ (pickB ar rs t 2 = true ↔ (redS ar rs t).length > 0) ∧
    (pickB ar rs t 2 = true → pickAt ar rs t 2 = (outS ar rs t).getD 0 0 ∧ redAtL ar rs t (pickAt ar rs t 2) (pickRule ar rs t 2) = true) := by
  cases h : rightB ar rs t with
  | false =>
    have hp : pickB ar rs t 2 = false := pickB_no (fun q => by rw [h] at q; cases q.1)
    rw [redS_n h, inS_n h, outS_n h, hp]
    simp
  | true =>
    rw [redS_y h, inS_y h, outS_y h]
    by_cases hn : redL ar rs t = []
    · have hp : pickB ar rs t 2 = false := pickB_no (fun q => q.2.2 hn)
      have hi : (inL ar rs t).length = 0 := by have := inTo_len (ar := ar) (t := t) (all := redL ar rs t) (k := (redL ar rs t).length); rw [hn] at this; unfold inL; rw [hn]; simpa using this
      have ho : (outL ar rs t).length = 0 := by have := outGo_len (ar := ar) (t := t) (redL ar rs t) 0; rw [hn] at this; unfold outL; rw [hn]; simpa using this
      rw [hp, hi, ho, hn]
      simp
    · have hl : 0 < (redL ar rs t).length := List.length_pos_iff.2 hn
      have hi := inL_pos hn
      have ho := out_first hn
      have hp : pickB ar rs t 2 = true := pickB_iff.2 ⟨h, by omega, hn⟩
      have hat : pickAt ar rs t 2 = (redL ar rs t).getD 0 0 := by
        rw [pickAt, if_pos hp, pickL, if_neg hn, if_neg (by omega), if_pos rfl]
      have hru : pickRule ar rs t 2 = ruleAtL ar rs t ((redL ar rs t).getD 0 0).toNat := by
        rw [pickRule, if_pos hp, pickL, if_neg hn, if_neg (by omega), if_pos rfl]
      have h0 := redL_at hl
      refine ⟨⟨fun _ => hi, fun _ => hl⟩, ⟨fun _ => ho.1, fun _ => hl⟩, ⟨fun _ => hl, fun _ => hp⟩, fun _ => ⟨by rw [hat, ho.2], ?_⟩⟩
      rw [hat, hru]
      obtain ⟨j, h1, h2, h3⟩ := (ruleAt_spec (ar := ar) (rs := rs) (t := t) (p := ((redL ar rs t).getD 0 0).toNat)).resolve_left (by omega)
      unfold redAtL stepAtOk
      rw [h, h1, show ((j : Int)).toNat = j from by omega, h3]
      simp only [Bool.true_and, Bool.and_true, Bool.and_eq_true, decide_eq_true_eq]
      omega
end
end Go.Proofs.Ytmaaifhmhclhdaa.M
set_option linter.unusedSimpArgs false
set_option linter.unusedVariables false
namespace Go.Proofs.Ytmaaifhmhclhdaa.X
open Go Go.WideShapes Go.ChangeShapes Go.RowKit
def fhOf (w : World) : FH := ⟨fun b => w.heap[b]?, w.os, w.output, w.tape⟩
theorem holds_fhOf (w : World) : Holds (fhOf w) [] w := ⟨rfl, rfl, rfl, fun _ _ h => h, [], rfl, List.nodup_nil, fun p hp => absurd hp (by simp)⟩
theorem cell_fhOf (w : World) (a : Addr) : (fhOf w).cell? a = w.cell? a := by
  unfold FH.cell? World.cell? fhOf
  rfl
theorem below_of_holds {w w' : World} {F' : FH} {L' : List HP} (le : fhOf w ≤ F') (h : Holds F' L' w') : Below w.heap.size w w' := by
  have key : ∀ k o, w.heap[k]? = some o → w'.heap[k]? = some o := fun k o hk => h.cells k o (le.cells k o hk)
  refine ⟨h.os.trans le.os, h.tape.trans le.tape, h.output.trans le.output, ?_, fun k hk => ?_⟩
  · rcases Nat.eq_zero_or_pos w.heap.size with h0 | h0
    · omega
    · have h1 : w.heap[w.heap.size - 1]? = some (w.heap[w.heap.size - 1]'(by omega)) := Array.getElem?_eq_getElem (by omega)
      have h2 := (Array.getElem?_eq_some_iff.1 (key _ _ h1)).1
      omega
  · have h1 : w.heap[k]? = some (w.heap[k]'hk) := Array.getElem?_eq_getElem hk
    rw [h1]
    exact key _ _ h1
def Opens (P : Program) (t : TypeId) {α : Type} (R : FH → List Value → α → Prop) (B : α → Prop) : Prop :=
  ∀ (H : Type) (enc : TypeId × Value → H) (w : World) (base : Nat) (spare : Nat → Bool) (held : Bool) (fuel : Nat) (cs : List Value) (x : DataW H × List MemPlace),
    DataW.trod enc P w base spare held fuel t cs = some x → ∃ a, R (fhOf w) cs a ∧ B a
variable {P : Program} {t e : TypeId}
theorem opens_slice {α : Type} {R : FH → List Value → α → Prop} {B : α → Prop} {s : Nat} (d : α) (ht : P.underlying t = some (.slice e)) (hc : P.cellsOf e = s) (ho : Opens P e R B) :
    Opens P t (fun F cs (xs : List α) => ∃ v, cs = [v] ∧ SlOf s R d F v xs) (fun xs => xs.length ≤ 9223372036854775807 ∧ ∀ i, i < xs.length → B (xs.getD i d)) := by
  intro H enc w base spare held fuel cs x h
  rcases Go.Deep.open_slice ht h with ⟨rfl, _⟩ | ⟨a, len, cap, m, n, D, Pl, rfl, hb, hl, hm, hmm, _, hx⟩
  · exact ⟨[], ⟨_, rfl, [], ⟨by simp, none, 0, rfl, by simp, fun _ => rfl, fun a h => by cases h⟩, fun i hi => by simp at hi⟩, by simp, fun i hi => by simp at hi⟩
  · have hlm : len ≤ m := by rw [hmm]; split <;> omega
    rw [hc] at hx
    have each : ∀ i, i < len → ∃ q : α, ∃ cs' : List Value, cs'.length = s ∧ (∀ r, r < s → w.cell? (a.add (i * s + r)) = cs'[r]?) ∧ R (fhOf w) cs' q ∧ B q := by
      intro i hi
      obtain ⟨cs', h1, h2⟩ := hx i (by omega)
      obtain ⟨_, hlen, hcell⟩ := World.cells?_some h1
      obtain ⟨q, hq, hbq⟩ := ho H enc w base spare held n cs' _ h2
      exact ⟨q, cs', hlen, fun r hr => by rw [← hcell r hr, add_add], hq, hbq⟩
    have ⟨q, hq⟩ : ∃ q : Nat → α, ∀ i, i < len → ∃ cs' : List Value, cs'.length = s ∧ (∀ r, r < s → w.cell? (a.add (i * s + r)) = cs'[r]?) ∧ R (fhOf w) cs' (q i) ∧ B (q i) := by
      haveI : Inhabited α := ⟨d⟩
      exact Go.Deep.choose_lt each
    let V : Nat → Value := fun j => (w.cell? (a.add j)).getD undef
    have hV : ∀ j, j < len * s → w.cell? (a.add j) = some (V j) := by
      intro j hj
      have hs : 0 < s := by rcases Nat.eq_zero_or_pos s with h0 | h0; subst h0; simp at hj; exact h0
      have hdiv : j / s < len := (Nat.div_lt_iff_lt_mul hs).2 hj
      obtain ⟨cs', hl', hcell, _⟩ := hq (j / s) hdiv
      have hr := hcell (j % s) (Nat.mod_lt _ hs)
      have e1 : j / s * s + j % s = j := by rw [Nat.mul_comm]; exact Nat.div_add_mod j s
      rw [e1] at hr
      have hlt : j % s < cs'.length := by rw [hl']; exact Nat.mod_lt _ hs
      rw [List.getElem?_eq_getElem hlt] at hr
      show w.cell? (a.add j) = some ((w.cell? (a.add j)).getD undef)
      rw [hr]; rfl
    have hxl : ((List.range len).map q).length = len := by simp
    have hgd : ∀ i, i < len → ((List.range len).map q).getD i d = q i := fun i hi => by simp [List.getD, hi]
    refine ⟨(List.range len).map q, ⟨_, rfl, (List.range (len * s)).map V, ⟨by simp, some a, cap, by rw [hxl], by omega, (fun h => by cases h), ?_⟩, ?_⟩, by rw [hxl]; unfold maxLen at hm; omega, fun i hi => ?_⟩
    · intro a' ha i u hu
      obtain rfl := Option.some.inj ha
      have hi : i < len * s := by have := (List.getElem?_eq_some_iff.1 hu).1; simpa using this
      rw [cell_fhOf, hV i hi]
      rw [List.getElem?_map, List.getElem?_range hi] at hu
      exact hu
    · intro i hi
      rw [hxl] at hi
      obtain ⟨cs', hl', hcell, hR, _⟩ := hq i hi
      refine ⟨cs', hl', ?_, by rw [hgd i hi]; exact hR⟩
      have hle : i * s + s ≤ len * s := by
        have : (i + 1) * s ≤ len * s := Nat.mul_le_mul_right s hi
        rwa [Nat.succ_mul] at this
      apply List.ext_getElem?
      intro r
      rcases Nat.lt_or_ge r s with hr | hr
      · rw [List.getElem?_take, if_pos hr, List.getElem?_drop, List.getElem?_map, List.getElem?_range (by omega), ← hcell r hr, hV _ (by omega)]; rfl
      · rw [List.getElem?_eq_none (by simp; omega), List.getElem?_eq_none (by omega)]
    · rw [hxl] at hi
      obtain ⟨_, _, _, _, hB⟩ := hq i hi
      rw [hgd i hi]
      exact hB
theorem Opens.mono {α : Type} {R R' : FH → List Value → α → Prop} {B B' : α → Prop} (h : Opens P t R B) (hR : ∀ F cs a, R F cs a → R' F cs a) (hB : ∀ a, B a → B' a) : Opens P t R' B' := fun H enc w base spare held fuel cs x hx =>
  let ⟨a, h1, h2⟩ := h H enc w base spare held fuel cs x hx
  ⟨a, hR _ _ _ h1, hB _ h2⟩
theorem Opens.slv {α : Type} {R : FH → List Value → α → Prop} {B : α → Prop} (h : Opens P t R B) (ht : P.underlying t = some (.slice e)) {H : Type} {enc : TypeId × Value → H} {w : World} {r : Reach} {base b0 : Nat} {spare : Nat → Bool} {held : Bool} {v : Value} {d : DataW H} {ps : List MemPlace}
    (hv : Value.okWide P w r b0 t v) (ht' : DataW.Trod enc P w base spare held t v d ps) : ∃ a, R (fhOf w) [v] a ∧ B a := by
  obtain ⟨a, l, c, rfl⟩ := okWide_slice ht hv
  obtain ⟨n, hn⟩ := ht'
  exact h H enc w base spare held n _ _ hn
theorem Opens.agg {α : Type} {R : FH → List Value → α → Prop} {B : α → Prop} (h : Opens P t R B) {fs : Array Field} (ht : P.underlying t = some (.struct fs)) {H : Type} {enc : TypeId × Value → H} {w : World} {r : Reach} {base b0 : Nat} {spare : Nat → Bool} {held : Bool} {v : Value} {d : DataW H} {ps : List MemPlace}
    (hv : Value.okWide P w r b0 t v) (ht' : DataW.Trod enc P w base spare held t v d ps) : ∃ cs : List Value, v = .agg cs.toArray ∧ ∃ a, R (fhOf w) cs a ∧ B a := by
  obtain ⟨cs, rfl, _⟩ := okWide_struct ht hv
  obtain ⟨n, hn⟩ := ht'
  exact ⟨cs.toList, by simp, h H enc w base spare held n _ _ hn⟩
theorem Opens.int {k : IntKind} (ht : P.underlying t = some (.int k)) {H : Type} {enc : TypeId × Value → H} {w : World} {r : Reach} {base b0 : Nat} {spare : Nat → Bool} {held : Bool} {v : Value} {d : DataW H} {ps : List MemPlace}
    (hv : Value.okWide P w r b0 t v) (ht' : DataW.Trod enc P w base spare held t v d ps) : ∃ n, v = .int k n ∧ (Lit.int k n).wf = true := by
  obtain ⟨n, rfl, _, _, hw⟩ := open_int ht hv ht'
  exact ⟨n, rfl, hw⟩
theorem trodAll_below {H : Type} {enc : TypeId × Value → H} (hl : laidOutB P = true) {W W' : World} (hb : Below W.heap.size W W') {sp : Nat → Bool} :
    ∀ {ts : List TypeId} {vs : List Value} {ds : List (DataW H)} {ps : List MemPlace}, (ts.all fun t => P.readableRec t && decide (t < P.types.size)) = true → DataW.TrodAll enc P W 0 (fun _ => true) true ts vs ds ps →
      (∀ x ∈ ps, x.block < W.heap.size) → (∀ p ∈ ps, sp p.block = true) → DataW.TrodAll enc P W' 0 sp true ts vs ds ps
  | [], [], [], _, _, h, _, _ => h
  | [], _ :: _, _, _, _, h, _, _ => by cases h
  | [], [], _ :: _, _, _, h, _, _ => by cases h
  | _ :: _, [], _, _, _, h, _, _ => by cases h
  | _ :: _, _ :: _, [], _, _, h, _, _ => by cases h
  | t :: ts, v :: vs, d :: ds, ps, hr, h, hlt, hsp => by
    obtain ⟨p, q, h1, h2, rfl⟩ := h
    simp only [List.all_cons, Bool.and_eq_true, decide_eq_true_eq] at hr
    exact ⟨p, q, Go.WideElems.Trod_stays hl hr.1.1 hr.1.2 h1 (fun x hx => hb.same (hlt x (List.mem_append_left _ hx))) (fun x hx => hsp x (List.mem_append_left _ hx)),
      trodAll_below hl hb hr.2 h2 (fun x hx => hlt x (List.mem_append_right _ hx)) (fun x hx => hsp x (List.mem_append_right _ hx)), rfl⟩
theorem post_of_law {H : Type} {enc : TypeId × Value → H} {f : Func} {s : ChangeSpec} {apart fresh handsOn : Bool} {W W' : World} {args : Array Value} {ds gs : List (DataW H)} {before : List MemPlace} {tb : TypeId}
    (hs : s.vars = []) (hfn : s.fn H (ds ++ gs) = { results := [.lit (.bool true)], args := ds }) (hl : laidOutB P = true) (hr : (f.params.toList.all fun t => P.readableRec t && decide (t < P.types.size)) = true)
    (hres : f.resultTypes = #[tb]) (htb : P.underlying tb = some .bool) (hW : DataW.Whole enc P f.params.toList s.vars apart W args.toList ds gs before) (hb : Below W.heap.size W W') : s.post enc P f apart fresh handsOn false W args (.bool true) W' := by
  have hlt := hW.lt
  have hW' := hW
  obtain ⟨p, q, hA, hV, rfl, _, _⟩ := hW
  rw [hs] at hV
  obtain ⟨rfl, rfl⟩ := trodVars_none hV
  refine ⟨ds, [], p ++ [], [], p, [], hW', ?_, ?_, ?_, ?_, fun h => by cases h⟩
  · rw [hfn, hres]
    exact trodAll_cons_mk (shut_bool htb _) trodAll_mk0
  · rw [hfn]
    exact trodAll_below hl hb hr hA (fun x hx => hlt x (by simpa using hx)) (fun x hx => by simpa using hlt x (by simpa using hx))
  · rw [hfn, hs]; rfl
  · exact World.keptBut_mono (fun x hx => ⟨hx, .inr (.inl (by simpa using hx))⟩) (hb.frame (· ∈ p ++ []))
theorem Does.atTop {f : FuncId} {args : List Value} {W : World} (h : Does P f args (fhOf W) [] fun v _ _ => v = .bool true) : Calls P f args.toArray W fun e W' => e = .returned (.bool true) ∧ Below W.heap.size W W' :=
  (h W (holds_fhOf W)).mono fun _ _ ⟨_, _, _, he, le, H, hv⟩ => ⟨by rw [he, hv], below_of_holds le H⟩
end Go.Proofs.Ytmaaifhmhclhdaa.X
set_option linter.unusedSimpArgs false
set_option linter.unusedVariables false
namespace Go.Proofs.Ytmaaifhmhclhdaa.X
open Go Go.WideShapes Go.ChangeShapes Go.RowKit
variable {P : Program} {t e : TypeId}
end Go.Proofs.Ytmaaifhmhclhdaa.X
set_option linter.unusedSimpArgs false
set_option linter.unusedVariables false
namespace Go.Proofs.Ytmaaifhmhclhdaa.X
open Go Go.ChangeShapes Go.WideShapes Go.ChangeAt
variable {P : Program} {t e : TypeId}
theorem opens_byte (ht : P.underlying e = some (.int .u8)) : Opens P e ByteE (fun _ => True) := by
  intro H enc w base spare held fuel cs x h
  obtain ⟨n, rfl, _, hw⟩ := DataW.trod_int ht h
  refine ⟨n, ⟨rfl, ?_⟩, trivial⟩
  simp [Lit.wf, IntKind.min, IntKind.max, IntKind.signed, IntKind.bits] at hw
  omega
theorem opens_bytes (ht : P.underlying t = some (.slice e)) (he : P.underlying e = some (.int .u8)) (hc : P.cellsOf e = 1) :
    Opens P t (fun F cs (xs : List Int) => ∃ v, cs = [v] ∧ BytesF F v xs) (fun xs => xs.length ≤ 9223372036854775807) :=
  (opens_slice 0 ht hc (opens_byte he)).mono (fun _ _ _ h => h) (fun _ h => h.1)
end Go.Proofs.Ytmaaifhmhclhdaa.X
