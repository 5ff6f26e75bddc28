/-
  How Go's data read in the frozen heap: slices of numbers, slices of slices, slices of structs.
-/
import Derived.Test.YtiaanelimbmniaaX3
set_option linter.unusedSimpArgs false
set_option linter.unusedVariables false
namespace Go.Proofs.Ytiaanelimbmniaa.X
open Go

theorem list_getD {α : Type} {l : List α} {i : Nat} (d : α) (h : i < l.length) : l[i]? = some (l.getD i d) := by simp [h]
theorem getD_map {α β : Type} (f : α → β) {l : List α} {i : Nat} (d : α) (h : i < l.length) : (l.map f)[i]? = some (f (l.getD i d)) := by simp [h]

/-- v reads as the list xs of numbers. -/
def IntsF (F : FH) (v : Value) (xs : List Int) : Prop := ArrF F 1 v xs.length (xs.map (Value.int .i64))
theorem IntsF.mono {F F' : FH} {v : Value} {xs : List Int} (h : IntsF F v xs) (le : F ≤ F') : IntsF F' v xs := ArrF.mono h le
theorem IntsF.slv {F : FH} {L : List HP} {v : Value} {xs : List Int} (h : IntsF F v xs) : SlV F L v xs.length := SlV.arr h
theorem IntsF.rd {F : FH} {L : List HP} {v : Value} {xs : List Int} (h : IntsF F v xs) {i : Nat} (hi : i < xs.length) : Rd F L (elemA v i) (.int .i64 (xs.getD i 0)) :=
  Rd.arr h (getD_map _ 0 hi)

theorem ArrF.isSl {F : FH} {s n : Nat} {v : Value} {cs : List Value} (h : ArrF F s v n cs) : IsSl v := by
  obtain ⟨_, b, c, hv, _⟩ := h; exact ⟨b, n, c, hv⟩
theorem IntsF.isSl {F : FH} {v : Value} {xs : List Int} (h : IntsF F v xs) : IsSl v := ArrF.isSl h
theorem Rd.two {F : FH} {L : List HP} {v : Value} {k : Nat} {a b : Value} (h : Rd F L (elemA v k) a) (h1 : Rd F L (elemA v (k + 1)) b) : ∀ i u, [a, b][i]? = some u → Rd F L ((elemA v k).add i) u := by
  intro i u hu
  rw [elemA_add]
  match i, hu with
  | 0, hu => simp at hu; subst hu; exact h
  | 1, hu => simp at hu; subst hu; exact h1
  | n + 2, hu => simp at hu

/-- v reads as the list xs; an element has s cells, of which R says what they are. -/
def SlOf {α : Type} (s : Nat) (R : FH → List Value → α → Prop) (d : α) (F : FH) (v : Value) (xs : List α) : Prop :=
  ∃ cs, ArrF F s v xs.length cs ∧ ∀ i, i < xs.length → ∃ es, es.length = s ∧ (cs.drop (i * s)).take s = es ∧ R F es (xs.getD i d)
theorem SlOf.slv {α : Type} {s : Nat} {R : FH → List Value → α → Prop} {d : α} {F : FH} {L : List HP} {v : Value} {xs : List α} (h : SlOf s R d F v xs) : SlV F L v xs.length := by
  obtain ⟨cs, h, _⟩ := h
  exact SlV.arr h
theorem SlOf.get {α : Type} {s : Nat} {R : FH → List Value → α → Prop} {d : α} {F : FH} {v : Value} {xs : List α} (h : SlOf s R d F v xs) {i : Nat} (hi : i < xs.length) :
    ∃ es, es.length = s ∧ R F es (xs.getD i d) ∧ (∀ L j u, es[j]? = some u → Rd F L (elemA v (i * s + j)) u) := by
  obtain ⟨cs, h, hr⟩ := h
  obtain ⟨es, hl, he, hR⟩ := hr i hi
  refine ⟨es, hl, hR, fun L j u hu => ?_⟩
  have := Rd.arrN (L := L) (k := i * s) (vs := es) h (by rw [hl]; exact he) j u hu
  rwa [elemA_add] at this
theorem SlOf.mono {α : Type} {s : Nat} {R : FH → List Value → α → Prop} {d : α} {F F' : FH} {v : Value} {xs : List α} (hR : ∀ es x, R F es x → R F' es x) (h : SlOf s R d F v xs) (le : F ≤ F') : SlOf s R d F' v xs := by
  obtain ⟨cs, h, hr⟩ := h
  refine ⟨cs, h.mono le, fun i hi => ?_⟩
  obtain ⟨es, hl, he, hx⟩ := hr i hi
  exact ⟨es, hl, he, hR _ _ hx⟩

def RowF (F : FH) (es : List Value) (x : List Int) : Prop := ∃ a, es = [a] ∧ IntsF F a x
/-- [][]int64 -/
def RowsF : FH → Value → List (List Int) → Prop := SlOf 1 RowF []
theorem RowF.mono {F F' : FH} (le : F ≤ F') (es : List Value) (x : List Int) (h : RowF F es x) : RowF F' es x := by
  obtain ⟨a, h1, h2⟩ := h
  exact ⟨a, h1, h2.mono le⟩
theorem RowsF.mono {F F' : FH} {v : Value} {xs : List (List Int)} (h : RowsF F v xs) (le : F ≤ F') : RowsF F' v xs := SlOf.mono (RowF.mono le) h le
theorem RowsF.slv {F : FH} {L : List HP} {v : Value} {xs : List (List Int)} (h : RowsF F v xs) : SlV F L v xs.length := SlOf.slv h
theorem RowsF.rd {F : FH} {v : Value} {xs : List (List Int)} (h : RowsF F v xs) {i : Nat} (hi : i < xs.length) : ∃ a, IntsF F a (xs.getD i []) ∧ ∀ L, Rd F L (elemA v i) a := by
  obtain ⟨es, hl, ⟨a, rfl, ha⟩, hr⟩ := SlOf.get h hi
  refine ⟨a, ha, fun L => ?_⟩
  have := hr L 0 a rfl
  simpa using this

def PairF (F : FH) (es : List Value) (x : List Int × List Int) : Prop := ∃ a b, es = [a, b] ∧ IntsF F a x.1 ∧ IntsF F b x.2
/-- []Rule, []Eq: structs of two []int64 -/
def PairsF : FH → Value → List (List Int × List Int) → Prop := SlOf 2 PairF ([], [])
theorem PairF.mono {F F' : FH} (le : F ≤ F') (es : List Value) (x : List Int × List Int) (h : PairF F es x) : PairF F' es x := by
  obtain ⟨a, b, h1, h2, h3⟩ := h
  exact ⟨a, b, h1, h2.mono le, h3.mono le⟩
theorem PairsF.mono {F F' : FH} {v : Value} {xs : List (List Int × List Int)} (h : PairsF F v xs) (le : F ≤ F') : PairsF F' v xs := SlOf.mono (PairF.mono le) h le
theorem PairsF.slv {F : FH} {L : List HP} {v : Value} {xs : List (List Int × List Int)} (h : PairsF F v xs) : SlV F L v xs.length := SlOf.slv h
theorem PairsF.rd {F : FH} {v : Value} {xs : List (List Int × List Int)} (h : PairsF F v xs) {i : Nat} (hi : i < xs.length) :
    ∃ a b, IntsF F a (xs.getD i ([], [])).1 ∧ IntsF F b (xs.getD i ([], [])).2 ∧ (∀ L, Rd F L (elemA v (i * 2)) a) ∧ (∀ L, Rd F L (elemA v (i * 2 + 1)) b) := by
  obtain ⟨es, hl, ⟨a, b, rfl, ha, hb⟩, hr⟩ := SlOf.get h hi
  exact ⟨a, b, ha, hb, fun L => by simpa using hr L 0 a rfl, fun L => hr L 1 b rfl⟩
theorem RowsF.isSl {F : FH} {v : Value} {xs : List (List Int)} (h : RowsF F v xs) : IsSl v := by obtain ⟨_, h, _⟩ := h; exact h.isSl
theorem PairsF.isSl {F : FH} {v : Value} {xs : List (List Int × List Int)} (h : PairsF F v xs) : IsSl v := by obtain ⟨_, h, _⟩ := h; exact h.isSl

/-- An owned slice of numbers. -/
def intsH (E : TypeId) (v : Value) (xs : List Int) : HP := slH E 1 v xs.length (xs.map (Value.int .i64))
theorem intsH.slv {F : FH} {L : List HP} {E : TypeId} {v : Value} {xs : List Int} (A : List HP) {B : List HP} (hL : L = A ++ intsH E v xs :: B) : SlV F L v xs.length := SlV.own A hL
theorem intsH.rd {F : FH} {L : List HP} {E : TypeId} {v : Value} {xs : List Int} (A : List HP) {B : List HP} (hL : L = A ++ intsH E v xs :: B) {i : Nat} (hi : i < xs.length) : Rd F L (elemA v i) (.int .i64 (xs.getD i 0)) :=
  Rd.sl A hL (getD_map _ 0 hi)
theorem intsH.fz {F : FH} {E : TypeId} {v : Value} {xs : List Int} (h : Fz (intsH E v xs) F) : IntsF F v xs := Fz.sl h
end Go.Proofs.Ytiaanelimbmniaa.X
