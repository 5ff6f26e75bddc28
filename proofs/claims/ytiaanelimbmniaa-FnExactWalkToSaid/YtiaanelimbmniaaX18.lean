/-
  Frozen steps by their cells; what was found, with the leaves of its terms.
-/
import Derived.Test.YtiaanelimbmniaaX17
set_option linter.unusedSimpArgs false
set_option linter.unusedVariables false
namespace Go.Proofs.Ytiaanelimbmniaa.X
open Go

/-- a slice of steps, frozen, its cells told -/
def XStepsF (F : FH) (v : Value) (xs : List StepT) (cs : List Value) : Prop := ArrF F 3 v xs.length cs ∧ StepsC F cs xs
theorem XStepsF.mono {F F' : FH} {v : Value} {xs : List StepT} {cs : List Value} (h : XStepsF F v xs cs) (le : F ≤ F') : XStepsF F' v xs cs := ⟨h.1.mono le, h.2.mono le⟩
theorem XStepsF.steps {F : FH} {v : Value} {xs : List StepT} {cs : List Value} (h : XStepsF F v xs cs) : StepsF F v xs := ⟨cs, h.1, h.2.2⟩
theorem XStepsF.slv {F : FH} {L : List HP} {v : Value} {xs : List StepT} {cs : List Value} (h : XStepsF F v xs cs) : SlV F L v xs.length := SlV.arr h.1
theorem XStepsF.isSl {F : FH} {v : Value} {xs : List StepT} {cs : List Value} (h : XStepsF F v xs cs) : IsSl v := h.1.isSl
theorem StepsC.fzx {F : FH} {cs : List Value} {xs : List StepT} {E : TypeId} {v : Value} {n : Nat} (h : StepsC F cs xs) (hn : n = xs.length) (hf : Fz (slH E 3 v n cs) F) : XStepsF F v xs cs := by
  subst hn
  exact ⟨hf.sl, h⟩
theorem XStepsF.rd {F : FH} {v : Value} {xs : List StepT} {cs : List Value} (h : XStepsF F v xs cs) {i : Nat} (hi : i < xs.length) : ∃ c, IntsF F c (xs.getD i (0, 0, [])).2.2 ∧ (∀ L, Rd F L (elemA v (i * 3)) (.int .i64 (xs.getD i (0, 0, [])).1)) ∧ (∀ L, Rd F L (elemA v (i * 3 + 1)) (.int .i64 (xs.getD i (0, 0, [])).2.1)) ∧ (∀ L, Rd F L (elemA v (i * 3 + 2)) c) ∧ cs[i * 3 + 2]? = some c := by
  obtain ⟨es, h1, h2, c, rfl, hc⟩ := h.2.2 i hi
  have hq : ∀ j u, ([.int .i64 (xs.getD i (0, 0, [])).1, .int .i64 (xs.getD i (0, 0, [])).2.1, c] : List Value)[j]? = some u → cs[i * 3 + j]? = some u := by
    intro j u hu
    rw [← h2, List.getElem?_take] at hu
    split at hu
    · rwa [List.getElem?_drop] at hu
    · cases hu
  have hr : ∀ L j u, ([.int .i64 (xs.getD i (0, 0, [])).1, .int .i64 (xs.getD i (0, 0, [])).2.1, c] : List Value)[j]? = some u → Rd F L (elemA v (i * 3 + j)) u := by
    intro L j u hu
    have := Rd.arrN (L := L) (k := i * 3) (vs := [.int .i64 (xs.getD i (0, 0, [])).1, .int .i64 (xs.getD i (0, 0, [])).2.1, c]) h.1 (by rw [h1]; exact h2) j u hu
    rwa [elemA_add] at this
  exact ⟨c, hc, fun L => by simpa using hr L 0 _ rfl, fun L => hr L 1 _ rfl, fun L => hr L 2 _ rfl, hq 2 _ rfl⟩

/-- the one leaf of each element -/
theorem DeepL.leaves {e : TypeId} {cs : List Value} {xs : List StepT} {L : List HP} (h : DeepL 3 (StepO e) cs xs L) : L.length = xs.length ∧ ∀ i c, i < xs.length → cs[i * 3 + 2]? = some c → L[i]? = some (intsH e c (xs.getD i (0, 0, [])).2.2) := by
  induction h with
  | nil => exact ⟨rfl, fun i c hi => absurd hi (by simp)⟩
  | @snoc cs es xs x L K h hl hr ih =>
    obtain ⟨c0, rfl, rfl⟩ := hr
    have hlen := h.len
    refine ⟨by simp [ih.1], fun i c hi hc => ?_⟩
    rw [List.length_append, List.length_singleton] at hi
    rcases Nat.lt_or_ge i xs.length with h1 | h1
    · rw [List.getElem?_append_left (by omega)] at hc
      have e1 : (xs ++ [x]).getD i (0, 0, []) = xs.getD i (0, 0, []) := by simp [List.getD_eq_getElem?_getD, List.getElem?_append_left h1]
      rw [List.getElem?_append_left (by omega), e1]
      exact ih.2 i c h1 hc
    · obtain rfl : i = xs.length := by omega
      rw [List.getElem?_append_right (by omega), show xs.length * 3 + 2 - cs.length = 2 from by omega] at hc
      have e1 : (xs ++ [x]).getD xs.length (0, 0, []) = x := by simp [List.getD_eq_getElem?_getD]
      rw [List.getElem?_append_right (by omega), e1, show xs.length - L.length = 0 from by omega]
      simp at hc
      subst hc
      rfl

/-- an element found: its term is a leaf of its own -/
def FoundO (e : TypeId) (es : List Value) (x : FoundT) (K : List HP) : Prop := ∃ a r, es = a :: r ∧ K = [intsH e a x.1]
/-- the terms' cells -/
def firsts (cs : List Value) (n : Nat) : List Value := (List.range n).map fun i => cs.getD (i * 6) undef
theorem firsts_succ {cs : List Value} {n : Nat} {a : Value} (h : cs[n * 6]? = some a) : firsts cs (n + 1) = firsts cs n ++ [a] := by
  unfold firsts
  rw [List.range_succ, List.map_append, List.map_singleton, List.getD_eq_getElem?_getD, h]; rfl
theorem DeepL.firsts {e : TypeId} {cs : List Value} {xs : List FoundT} {L : List HP} (h : DeepL 6 (FoundO e) cs xs L) : DeepL 1 (RowO e) (firsts cs xs.length) (xs.map (·.1)) L := by
  induction h with
  | nil => exact .nil
  | @snoc cs es xs x L K h hl hr ih =>
    obtain ⟨a, r, rfl, rfl⟩ := hr
    have hlen := h.len
    rw [List.length_append, List.length_singleton, List.map_append, List.map_singleton]
    have e1 : X.firsts (cs ++ a :: r) (xs.length + 1) = X.firsts cs xs.length ++ [a] := by
      rw [firsts_succ (a := a) (by rw [List.getElem?_append_right (by omega), show xs.length * 6 - cs.length = 0 from by omega]; rfl)]
      congr 1
      unfold X.firsts
      apply List.map_congr_left
      intro i hi
      have hi := List.mem_range.1 hi
      rw [List.getD_eq_getElem?_getD, List.getElem?_append_left (by omega), ← List.getD_eq_getElem?_getD]
    rw [e1]
    exact ih.snoc rfl ⟨a, rfl, rfl⟩

section
variable {F F' : FH} {A B M : List HP} {h : HP}
/-- of what is fresh together, less -/
theorem Fresh.less (k : Fresh F F' (star (A ++ h :: B))) : Fresh F F' (star (A ++ B)) := by
  obtain ⟨m, hm, nd, hp⟩ := k
  obtain ⟨a, c, b, ha, hc, hb, rfl⟩ := star_mid.1 hm
  refine ⟨a ++ b, star_append.2 ⟨a, b, ha, hb, rfl⟩, ?_, fun p h' => hp p ?_⟩
  · refine List.Nodup.sublist ?_ nd
    exact (List.Sublist.append_left (List.sublist_append_right c b) a).map _
  · rcases List.mem_append.1 h' with h' | h'
    · exact List.mem_append_left _ h'
    · exact List.mem_append_right _ (List.mem_append_right _ h')
theorem Fresh.none (k : Fresh F F' (star (A ++ B))) : Fresh F F' (star A) := by
  obtain ⟨m, hm, nd, hp⟩ := k
  obtain ⟨a, b, ha, hb, rfl⟩ := star_append.1 hm
  refine ⟨a, ha, ?_, fun p h' => hp p (List.mem_append_left _ h')⟩
  rw [List.map_append] at nd
  exact (List.nodup_append.1 nd).1
theorem leaf_next {L : List HP} {q : Nat} (hq : L[q]? = some h) : L.drop q = h :: L.drop (q + 1) := by
  have := (List.getElem?_eq_some_iff.1 hq)
  obtain ⟨hl, he⟩ := this
  rw [List.drop_eq_getElem_cons hl, he]
theorem Fresh.keepLeaf {L : List HP} {q : Nat} (k : Fresh F F' (star (A ++ L.drop q))) (hq : L[q]? = some h) : Fresh F F' (star ((A ++ [h]) ++ L.drop (q + 1))) := by
  rw [leaf_next hq] at k; simpa using k
theorem Fresh.skipLeaf {L : List HP} {q : Nat} (k : Fresh F F' (star (A ++ L.drop q))) (hq : L[q]? = some h) : Fresh F F' (star (A ++ L.drop (q + 1))) := by
  rw [leaf_next hq] at k; exact k.less
theorem Fresh.noMore {L : List HP} {q : Nat} (k : Fresh F F' (star (A ++ L.drop q))) : Fresh F F' (star A) := k.none
theorem nilRowsD {e E : TypeId} : star [rowsD e E (.slice none 0 0) []] [] := ⟨[], [], ⟨[], [], DeepL.nil, [], [], slH_nil E 1 none, rfl, rfl⟩, rfl, rfl⟩
end
theorem DeepL.leaves6 {e : TypeId} {cs : List Value} {xs : List FoundT} {L : List HP} (h : DeepL 6 (FoundO e) cs xs L) : L.length = xs.length ∧ ∀ i c, i < xs.length → cs[i * 6]? = some c → L[i]? = some (intsH e c (xs.getD i ([], 0, (0, 0, []), 0)).1) := by
  induction h with
  | nil => exact ⟨rfl, fun i c hi => absurd hi (by simp)⟩
  | @snoc cs es xs x L K h hl hr ih =>
    obtain ⟨c0, r0, rfl, rfl⟩ := hr
    have hlen := h.len
    refine ⟨by simp [ih.1], fun i c hi hc => ?_⟩
    rw [List.length_append, List.length_singleton] at hi
    rcases Nat.lt_or_ge i xs.length with h1 | h1
    · rw [List.getElem?_append_left (by omega)] at hc
      have e1 : (xs ++ [x]).getD i ([], 0, (0, 0, []), 0) = xs.getD i ([], 0, (0, 0, []), 0) := by simp [List.getD_eq_getElem?_getD, List.getElem?_append_left h1]
      rw [List.getElem?_append_left (by omega), e1]
      exact ih.2 i c h1 hc
    · obtain rfl : i = xs.length := by omega
      rw [List.getElem?_append_right (by omega), show xs.length * 6 - cs.length = 0 from by omega] at hc
      have e1 : (xs ++ [x]).getD xs.length ([], 0, (0, 0, []), 0) = x := by simp [List.getD_eq_getElem?_getD]
      rw [List.getElem?_append_right (by omega), e1, show xs.length - L.length = 0 from by omega]
      simp at hc
      subst hc
      rfl
/-- steps that were made between two heaps, with their leaves -/
def FrStepsF (F0 F : FH) (e : TypeId) (v : Value) (xs : List StepT) : Prop := ∃ acs Ls, XStepsF F v xs acs ∧ DeepL 3 (StepO e) acs xs Ls ∧ Fresh F0 F (star Ls)
theorem FrStepsF.mono {F0 F F' : FH} {e : TypeId} {v : Value} {xs : List StepT} (h : FrStepsF F0 F e v xs) (le : F ≤ F') : FrStepsF F0 F' e v xs := by
  obtain ⟨acs, Ls, h1, h2, h3⟩ := h
  exact ⟨acs, Ls, h1.mono le, h2, h3.mono le⟩
theorem FrStepsF.base {F0 F F1 : FH} {e : TypeId} {v : Value} {xs : List StepT} (h : FrStepsF F1 F e v xs) (le : F0 ≤ F1) : FrStepsF F0 F e v xs := by
  obtain ⟨acs, Ls, h1, h2, h3⟩ := h
  exact ⟨acs, Ls, h1, h2, h3.base le⟩
theorem FrStepsF.isSl {F0 F : FH} {e : TypeId} {v : Value} {xs : List StepT} (h : FrStepsF F0 F e v xs) : IsSl v := by
  obtain ⟨acs, Ls, h1, _, _⟩ := h
  exact h1.isSl
theorem FrStepsF.steps {F0 F : FH} {e : TypeId} {v : Value} {xs : List StepT} (h : FrStepsF F0 F e v xs) : StepsF F v xs := by
  obtain ⟨acs, Ls, h1, _, _⟩ := h
  exact h1.steps
end Go.Proofs.Ytiaanelimbmniaa.X
