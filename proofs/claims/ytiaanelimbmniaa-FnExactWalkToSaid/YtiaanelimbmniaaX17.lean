/-
  More kinds of slices of structs.
-/
import Derived.Test.YtiaanelimbmniaaX16
import Derived.Test.YtiaanelimbmniaaX14
set_option linter.unusedSimpArgs false
set_option linter.unusedVariables false
namespace Go.Proofs.Ytiaanelimbmniaa.X
open Go

theorem Rd.all {F : FH} {L : List HP} {v : Value} {k : Nat} {es : List Value} (h : ∀ j u, es[j]? = some u → Rd F L (elemA v (k + j)) u) : ∀ i u, es[i]? = some u → Rd F L ((elemA v k).add i) u := by
  intro i u hu
  rw [elemA_add]
  exact h i u hu
theorem Rd.part {F : FH} {L : List HP} {v : Value} {k : Nat} {es vs : List Value} (o : Nat) (h : ∀ j u, es[j]? = some u → Rd F L (elemA v (k + j)) u) (e : (es.drop o).take vs.length = vs) : ∀ i u, vs[i]? = some u → Rd F L ((elemA v (k + o)).add i) u := by
  intro i u hu
  rw [elemA_add, Nat.add_assoc]
  refine h (o + i) u ?_
  rw [← e, List.getElem?_take] at hu
  split at hu
  · rwa [List.getElem?_drop] at hu
  · cases hu
theorem Rd.slG {F : FH} {L : List HP} {E s n k : Nat} {v : Value} {cs es vs : List Value} (A : List HP) {B : List HP} (hL : L = A ++ slH E s v n cs :: B) (o : Nat) (h : ∀ j u, es[j]? = some u → cs[k + j]? = some u) (e : (es.drop o).take vs.length = vs) : ∀ i u, vs[i]? = some u → Rd F L ((elemA v (k + o)).add i) u := by
  intro i u hu
  rw [elemA_add, Nat.add_assoc]
  refine Rd.sl A hL (h (o + i) u ?_)
  rw [← e, List.getElem?_take] at hu
  split at hu
  · rwa [List.getElem?_drop] at hu
  · cases hu

/- found -/
abbrev FoundT := List Int × Int × StepT × Int
def FoundF (F : FH) (es : List Value) (x : FoundT) : Prop := ∃ a0 a4, es = [a0, .int .i64 x.2.1, .int .i64 x.2.2.1.1, .int .i64 x.2.2.1.2.1, a4, .int .i64 x.2.2.2] ∧ IntsF F a0 x.1 ∧ IntsF F a4 x.2.2.1.2.2
theorem FoundF.mono {F F' : FH} (le : F ≤ F') (es : List Value) (x : FoundT) (h : FoundF F es x) : FoundF F' es x := by
  obtain ⟨a0, a4, e, h0, h4⟩ := h
  exact ⟨a0, a4, e, h0.mono le, h4.mono le⟩
def FoundsF (F : FH) (v : Value) (xs : List FoundT) (cs : List Value) : Prop := ArrF F 6 v xs.length cs ∧ CO 6 FoundF ([], 0, (0, 0, []), 0) F cs xs
theorem FoundsF.mono {F F' : FH} {v : Value} {xs : List FoundT} {cs : List Value} (h : FoundsF F v xs cs) (le : F ≤ F') : FoundsF F' v xs cs := ⟨h.1.mono le, CO.mono (FoundF.mono le) h.2⟩
theorem FoundsF.slv {F : FH} {L : List HP} {v : Value} {xs : List FoundT} {cs : List Value} (h : FoundsF F v xs cs) : SlV F L v xs.length := SlV.arr h.1
theorem FoundsF.isSl {F : FH} {v : Value} {xs : List FoundT} {cs : List Value} (h : FoundsF F v xs cs) : IsSl v := h.1.isSl
theorem FoundsF.rd {F : FH} {v : Value} {xs : List FoundT} {cs : List Value} (h : FoundsF F v xs cs) {i : Nat} (hi : i < xs.length) : ∃ a0 a4, IntsF F a0 (xs.getD i ([], 0, (0, 0, []), 0)).1 ∧ IntsF F a4 (xs.getD i ([], 0, (0, 0, []), 0)).2.2.1.2.2 ∧ (∀ L j u, ([a0, .int .i64 (xs.getD i ([], 0, (0, 0, []), 0)).2.1, .int .i64 (xs.getD i ([], 0, (0, 0, []), 0)).2.2.1.1, .int .i64 (xs.getD i ([], 0, (0, 0, []), 0)).2.2.1.2.1, a4, .int .i64 (xs.getD i ([], 0, (0, 0, []), 0)).2.2.2] : List Value)[j]? = some u → Rd F L (elemA v (i * 6 + j)) u) ∧ (∀ j u, ([a0, .int .i64 (xs.getD i ([], 0, (0, 0, []), 0)).2.1, .int .i64 (xs.getD i ([], 0, (0, 0, []), 0)).2.2.1.1, .int .i64 (xs.getD i ([], 0, (0, 0, []), 0)).2.2.1.2.1, a4, .int .i64 (xs.getD i ([], 0, (0, 0, []), 0)).2.2.2] : List Value)[j]? = some u → cs[i * 6 + j]? = some u) := by
  obtain ⟨es, h1, h2, a0, a4, rfl, h0, h4⟩ := h.2.2 i hi
  refine ⟨a0, a4, h0, h4, fun L j u hu => ?_, fun j u hu => ?_⟩
  · have := Rd.arrN (L := L) (k := i * 6) (vs := [a0, .int .i64 (xs.getD i ([], 0, (0, 0, []), 0)).2.1, .int .i64 (xs.getD i ([], 0, (0, 0, []), 0)).2.2.1.1, .int .i64 (xs.getD i ([], 0, (0, 0, []), 0)).2.2.1.2.1, a4, .int .i64 (xs.getD i ([], 0, (0, 0, []), 0)).2.2.2]) h.1 (by rw [h1]; exact h2) j u hu
    rwa [elemA_add] at this
  · rw [← h2, List.getElem?_take] at hu
    split at hu
    · rwa [List.getElem?_drop] at hu
    · cases hu
def FoundsC (F : FH) (cs : List Value) (xs : List FoundT) : Prop := CO 6 FoundF ([], 0, (0, 0, []), 0) F cs xs
theorem FoundsC.mono {F F' : FH} {cs : List Value} {xs : List FoundT} (h : FoundsC F cs xs) (le : F ≤ F') : FoundsC F' cs xs := CO.mono (FoundF.mono le) h
theorem FoundsC.snoc {F : FH} {cs : List Value} {xs : List FoundT} {a0 a4 : Value} {y0 : List Int} {y1 : Int} {y2 : Int} {y3 : Int} {y4 : List Int} {y5 : Int} (h : FoundsC F cs xs) (h0 : IntsF F a0 y0) (h4 : IntsF F a4 y4) : FoundsC F (cs ++ [a0, .int .i64 y1, .int .i64 y2, .int .i64 y3, a4, .int .i64 y5]) (xs ++ [(y0, y1, (y2, y3, y4), y5)]) := CO.snoc h rfl ⟨a0, a4, rfl, h0, h4⟩
theorem FoundsC.get {F : FH} {cs : List Value} {xs : List FoundT} (h : FoundsC F cs xs) {i : Nat} (hi : i < xs.length) : ∃ a0 a4, IntsF F a0 (xs.getD i ([], 0, (0, 0, []), 0)).1 ∧ IntsF F a4 (xs.getD i ([], 0, (0, 0, []), 0)).2.2.1.2.2 ∧ (∀ j u, ([a0, .int .i64 (xs.getD i ([], 0, (0, 0, []), 0)).2.1, .int .i64 (xs.getD i ([], 0, (0, 0, []), 0)).2.2.1.1, .int .i64 (xs.getD i ([], 0, (0, 0, []), 0)).2.2.1.2.1, a4, .int .i64 (xs.getD i ([], 0, (0, 0, []), 0)).2.2.2] : List Value)[j]? = some u → cs[i * 6 + j]? = some u) := by
  obtain ⟨es, hl, ⟨a0, a4, rfl, h0, h4⟩, hr⟩ := CO.get h hi
  exact ⟨a0, a4, h0, h4, hr⟩
abbrev foundH (E : TypeId) (F : FH) (v : Value) (xs : List FoundT) : HP := coH 6 FoundF ([], 0, (0, 0, []), 0) E F v xs
theorem FoundsC.fz {F : FH} {cs : List Value} {xs : List FoundT} {E : TypeId} {v : Value} {n : Nat} (h : FoundsC F cs xs) (hn : n = xs.length) (hf : Fz (slH E 6 v n cs) F) : FoundsF F v xs cs := by
  subst hn
  exact ⟨hf.sl, h⟩

/- moves -/
abbrev MoveT := Int × Int × Bool × List Int
def MoveF (F : FH) (es : List Value) (x : MoveT) : Prop := ∃ a3, es = [.int .i64 x.1, .int .i64 x.2.1, .bool x.2.2.1, a3] ∧ IntsF F a3 x.2.2.2
theorem MoveF.mono {F F' : FH} (le : F ≤ F') (es : List Value) (x : MoveT) (h : MoveF F es x) : MoveF F' es x := by
  obtain ⟨a3, e, h3⟩ := h
  exact ⟨a3, e, h3.mono le⟩
def MovesF : FH → Value → List MoveT → Prop := SlOf 4 MoveF (0, 0, false, [])
theorem MovesF.mono {F F' : FH} {v : Value} {xs : List MoveT} (h : MovesF F v xs) (le : F ≤ F') : MovesF F' v xs := SlOf.mono (MoveF.mono le) h le
theorem MovesF.slv {F : FH} {L : List HP} {v : Value} {xs : List MoveT} (h : MovesF F v xs) : SlV F L v xs.length := SlOf.slv h
theorem MovesF.isSl {F : FH} {v : Value} {xs : List MoveT} (h : MovesF F v xs) : IsSl v := by obtain ⟨_, h, _⟩ := h; exact h.isSl
theorem MovesF.rd {F : FH} {v : Value} {xs : List MoveT} (h : MovesF F v xs) {i : Nat} (hi : i < xs.length) : ∃ a3, IntsF F a3 (xs.getD i (0, 0, false, [])).2.2.2 ∧ (∀ L j u, ([.int .i64 (xs.getD i (0, 0, false, [])).1, .int .i64 (xs.getD i (0, 0, false, [])).2.1, .bool (xs.getD i (0, 0, false, [])).2.2.1, a3] : List Value)[j]? = some u → Rd F L (elemA v (i * 4 + j)) u) ∧ True := by
  obtain ⟨es, hl, ⟨a3, rfl, h3⟩, hr⟩ := SlOf.get h hi
  exact ⟨a3, h3, hr, trivial⟩
def MovesC (F : FH) (cs : List Value) (xs : List MoveT) : Prop := CO 4 MoveF (0, 0, false, []) F cs xs
theorem MovesC.mono {F F' : FH} {cs : List Value} {xs : List MoveT} (h : MovesC F cs xs) (le : F ≤ F') : MovesC F' cs xs := CO.mono (MoveF.mono le) h
theorem MovesC.snoc {F : FH} {cs : List Value} {xs : List MoveT} {a3 : Value} {y0 : Int} {y1 : Int} {y2 : Bool} {y3 : List Int} (h : MovesC F cs xs) (h3 : IntsF F a3 y3) : MovesC F (cs ++ [.int .i64 y0, .int .i64 y1, .bool y2, a3]) (xs ++ [(y0, y1, y2, y3)]) := CO.snoc h rfl ⟨a3, rfl, h3⟩
theorem MovesC.get {F : FH} {cs : List Value} {xs : List MoveT} (h : MovesC F cs xs) {i : Nat} (hi : i < xs.length) : ∃ a3, IntsF F a3 (xs.getD i (0, 0, false, [])).2.2.2 ∧ (∀ j u, ([.int .i64 (xs.getD i (0, 0, false, [])).1, .int .i64 (xs.getD i (0, 0, false, [])).2.1, .bool (xs.getD i (0, 0, false, [])).2.2.1, a3] : List Value)[j]? = some u → cs[i * 4 + j]? = some u) := by
  obtain ⟨es, hl, ⟨a3, rfl, h3⟩, hr⟩ := CO.get h hi
  exact ⟨a3, h3, hr⟩
abbrev movesH (E : TypeId) (F : FH) (v : Value) (xs : List MoveT) : HP := coH 4 MoveF (0, 0, false, []) E F v xs

/- polys -/
abbrev PolyT := Int × List Int
def PolyF (F : FH) (es : List Value) (x : PolyT) : Prop := ∃ a1, es = [.int .i64 x.1, a1] ∧ IntsF F a1 x.2
theorem PolyF.mono {F F' : FH} (le : F ≤ F') (es : List Value) (x : PolyT) (h : PolyF F es x) : PolyF F' es x := by
  obtain ⟨a1, e, h1⟩ := h
  exact ⟨a1, e, h1.mono le⟩
def PolysF : FH → Value → List PolyT → Prop := SlOf 2 PolyF (0, [])
theorem PolysF.mono {F F' : FH} {v : Value} {xs : List PolyT} (h : PolysF F v xs) (le : F ≤ F') : PolysF F' v xs := SlOf.mono (PolyF.mono le) h le
theorem PolysF.slv {F : FH} {L : List HP} {v : Value} {xs : List PolyT} (h : PolysF F v xs) : SlV F L v xs.length := SlOf.slv h
theorem PolysF.isSl {F : FH} {v : Value} {xs : List PolyT} (h : PolysF F v xs) : IsSl v := by obtain ⟨_, h, _⟩ := h; exact h.isSl
theorem PolysF.rd {F : FH} {v : Value} {xs : List PolyT} (h : PolysF F v xs) {i : Nat} (hi : i < xs.length) : ∃ a1, IntsF F a1 (xs.getD i (0, [])).2 ∧ (∀ L j u, ([.int .i64 (xs.getD i (0, [])).1, a1] : List Value)[j]? = some u → Rd F L (elemA v (i * 2 + j)) u) ∧ True := by
  obtain ⟨es, hl, ⟨a1, rfl, h1⟩, hr⟩ := SlOf.get h hi
  exact ⟨a1, h1, hr, trivial⟩
def PolysC (F : FH) (cs : List Value) (xs : List PolyT) : Prop := CO 2 PolyF (0, []) F cs xs
theorem PolysC.mono {F F' : FH} {cs : List Value} {xs : List PolyT} (h : PolysC F cs xs) (le : F ≤ F') : PolysC F' cs xs := CO.mono (PolyF.mono le) h
theorem PolysC.snoc {F : FH} {cs : List Value} {xs : List PolyT} {a1 : Value} {y0 : Int} {y1 : List Int} (h : PolysC F cs xs) (h1 : IntsF F a1 y1) : PolysC F (cs ++ [.int .i64 y0, a1]) (xs ++ [(y0, y1)]) := CO.snoc h rfl ⟨a1, rfl, h1⟩
theorem PolysC.get {F : FH} {cs : List Value} {xs : List PolyT} (h : PolysC F cs xs) {i : Nat} (hi : i < xs.length) : ∃ a1, IntsF F a1 (xs.getD i (0, [])).2 ∧ (∀ j u, ([.int .i64 (xs.getD i (0, [])).1, a1] : List Value)[j]? = some u → cs[i * 2 + j]? = some u) := by
  obtain ⟨es, hl, ⟨a1, rfl, h1⟩, hr⟩ := CO.get h hi
  exact ⟨a1, h1, hr⟩
abbrev polysH (E : TypeId) (F : FH) (v : Value) (xs : List PolyT) : HP := coH 2 PolyF (0, []) E F v xs

/- lines -/
abbrev LineT := Int × List (List Int) × List Int
def LineF (F : FH) (es : List Value) (x : LineT) : Prop := ∃ a1 a2, es = [.int .i64 x.1, a1, a2] ∧ RowsF F a1 x.2.1 ∧ IntsF F a2 x.2.2
theorem LineF.mono {F F' : FH} (le : F ≤ F') (es : List Value) (x : LineT) (h : LineF F es x) : LineF F' es x := by
  obtain ⟨a1, a2, e, h1, h2⟩ := h
  exact ⟨a1, a2, e, h1.mono le, h2.mono le⟩
def LinesF : FH → Value → List LineT → Prop := SlOf 3 LineF (0, [], [])
theorem LinesF.mono {F F' : FH} {v : Value} {xs : List LineT} (h : LinesF F v xs) (le : F ≤ F') : LinesF F' v xs := SlOf.mono (LineF.mono le) h le
theorem LinesF.slv {F : FH} {L : List HP} {v : Value} {xs : List LineT} (h : LinesF F v xs) : SlV F L v xs.length := SlOf.slv h
theorem LinesF.isSl {F : FH} {v : Value} {xs : List LineT} (h : LinesF F v xs) : IsSl v := by obtain ⟨_, h, _⟩ := h; exact h.isSl
theorem LinesF.rd {F : FH} {v : Value} {xs : List LineT} (h : LinesF F v xs) {i : Nat} (hi : i < xs.length) : ∃ a1 a2, RowsF F a1 (xs.getD i (0, [], [])).2.1 ∧ IntsF F a2 (xs.getD i (0, [], [])).2.2 ∧ (∀ L j u, ([.int .i64 (xs.getD i (0, [], [])).1, a1, a2] : List Value)[j]? = some u → Rd F L (elemA v (i * 3 + j)) u) ∧ True := by
  obtain ⟨es, hl, ⟨a1, a2, rfl, h1, h2⟩, hr⟩ := SlOf.get h hi
  exact ⟨a1, a2, h1, h2, hr, trivial⟩
def LinesC (F : FH) (cs : List Value) (xs : List LineT) : Prop := CO 3 LineF (0, [], []) F cs xs
theorem LinesC.mono {F F' : FH} {cs : List Value} {xs : List LineT} (h : LinesC F cs xs) (le : F ≤ F') : LinesC F' cs xs := CO.mono (LineF.mono le) h
theorem LinesC.snoc {F : FH} {cs : List Value} {xs : List LineT} {a1 a2 : Value} {y0 : Int} {y1 : List (List Int)} {y2 : List Int} (h : LinesC F cs xs) (h1 : RowsF F a1 y1) (h2 : IntsF F a2 y2) : LinesC F (cs ++ [.int .i64 y0, a1, a2]) (xs ++ [(y0, y1, y2)]) := CO.snoc h rfl ⟨a1, a2, rfl, h1, h2⟩
theorem LinesC.get {F : FH} {cs : List Value} {xs : List LineT} (h : LinesC F cs xs) {i : Nat} (hi : i < xs.length) : ∃ a1 a2, RowsF F a1 (xs.getD i (0, [], [])).2.1 ∧ IntsF F a2 (xs.getD i (0, [], [])).2.2 ∧ (∀ j u, ([.int .i64 (xs.getD i (0, [], [])).1, a1, a2] : List Value)[j]? = some u → cs[i * 3 + j]? = some u) := by
  obtain ⟨es, hl, ⟨a1, a2, rfl, h1, h2⟩, hr⟩ := CO.get h hi
  exact ⟨a1, a2, h1, h2, hr⟩
abbrev linesH (E : TypeId) (F : FH) (v : Value) (xs : List LineT) : HP := coH 3 LineF (0, [], []) E F v xs

/- crules -/
abbrev CRuleT := List Int × List Int × List (List Int × List Int)
def CRuleF (F : FH) (es : List Value) (x : CRuleT) : Prop := ∃ a0 a1 a2, es = [a0, a1, a2] ∧ IntsF F a0 x.1 ∧ IntsF F a1 x.2.1 ∧ PairsF F a2 x.2.2
theorem CRuleF.mono {F F' : FH} (le : F ≤ F') (es : List Value) (x : CRuleT) (h : CRuleF F es x) : CRuleF F' es x := by
  obtain ⟨a0, a1, a2, e, h0, h1, h2⟩ := h
  exact ⟨a0, a1, a2, e, h0.mono le, h1.mono le, h2.mono le⟩
def CRulesF : FH → Value → List CRuleT → Prop := SlOf 3 CRuleF ([], [], [])
theorem CRulesF.mono {F F' : FH} {v : Value} {xs : List CRuleT} (h : CRulesF F v xs) (le : F ≤ F') : CRulesF F' v xs := SlOf.mono (CRuleF.mono le) h le
theorem CRulesF.slv {F : FH} {L : List HP} {v : Value} {xs : List CRuleT} (h : CRulesF F v xs) : SlV F L v xs.length := SlOf.slv h
theorem CRulesF.isSl {F : FH} {v : Value} {xs : List CRuleT} (h : CRulesF F v xs) : IsSl v := by obtain ⟨_, h, _⟩ := h; exact h.isSl
theorem CRulesF.rd {F : FH} {v : Value} {xs : List CRuleT} (h : CRulesF F v xs) {i : Nat} (hi : i < xs.length) : ∃ a0 a1 a2, IntsF F a0 (xs.getD i ([], [], [])).1 ∧ IntsF F a1 (xs.getD i ([], [], [])).2.1 ∧ PairsF F a2 (xs.getD i ([], [], [])).2.2 ∧ (∀ L j u, ([a0, a1, a2] : List Value)[j]? = some u → Rd F L (elemA v (i * 3 + j)) u) ∧ True := by
  obtain ⟨es, hl, ⟨a0, a1, a2, rfl, h0, h1, h2⟩, hr⟩ := SlOf.get h hi
  exact ⟨a0, a1, a2, h0, h1, h2, hr, trivial⟩
def CRulesC (F : FH) (cs : List Value) (xs : List CRuleT) : Prop := CO 3 CRuleF ([], [], []) F cs xs
theorem CRulesC.mono {F F' : FH} {cs : List Value} {xs : List CRuleT} (h : CRulesC F cs xs) (le : F ≤ F') : CRulesC F' cs xs := CO.mono (CRuleF.mono le) h
theorem CRulesC.snoc {F : FH} {cs : List Value} {xs : List CRuleT} {a0 a1 a2 : Value} {y0 : List Int} {y1 : List Int} {y2 : List (List Int × List Int)} (h : CRulesC F cs xs) (h0 : IntsF F a0 y0) (h1 : IntsF F a1 y1) (h2 : PairsF F a2 y2) : CRulesC F (cs ++ [a0, a1, a2]) (xs ++ [(y0, y1, y2)]) := CO.snoc h rfl ⟨a0, a1, a2, rfl, h0, h1, h2⟩
theorem CRulesC.get {F : FH} {cs : List Value} {xs : List CRuleT} (h : CRulesC F cs xs) {i : Nat} (hi : i < xs.length) : ∃ a0 a1 a2, IntsF F a0 (xs.getD i ([], [], [])).1 ∧ IntsF F a1 (xs.getD i ([], [], [])).2.1 ∧ PairsF F a2 (xs.getD i ([], [], [])).2.2 ∧ (∀ j u, ([a0, a1, a2] : List Value)[j]? = some u → cs[i * 3 + j]? = some u) := by
  obtain ⟨es, hl, ⟨a0, a1, a2, rfl, h0, h1, h2⟩, hr⟩ := CO.get h hi
  exact ⟨a0, a1, a2, h0, h1, h2, hr⟩
abbrev crulesH (E : TypeId) (F : FH) (v : Value) (xs : List CRuleT) : HP := coH 3 CRuleF ([], [], []) E F v xs
end Go.Proofs.Ytiaanelimbmniaa.X
