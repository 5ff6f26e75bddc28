/-
  Plain: all steps from a term; what is reached.
-/
import Derived.Test.YtiaanelimbmniaaP13
import Derived.Test.YtiaanelimbmniaaP8
set_option linter.unusedSimpArgs false
set_option linter.unusedVariables false
namespace Go.Proofs.Ytiaanelimbmniaa.M

abbrev StepV := Int × Int × List Int
def stepOne (ar : List Int) (rs : Rules) (t : List Int) (p r : Nat) : List StepV := match stepL ar rs t p r with | some u => [((p : Int), (r : Int), u)] | none => []
def stepsRow (ar : List Int) (rs : Rules) (t : List Int) (p k : Nat) : List StepV := (List.range k).flatMap (stepOne ar rs t p)
def stepsTo (ar : List Int) (rs : Rules) (t : List Int) (p : Nat) : List StepV := (List.range p).flatMap fun q => stepsRow ar rs t q rs.length
/-- all steps from a term -/
def stepsL (ar : List Int) (rs : Rules) (t : List Int) : List StepV := stepsTo ar rs t t.length
def longOne (ar : List Int) (rs : Rules) (t : List Int) (p r : Nat) : Bool := isRedex ar rs t p r && !(stepL ar rs t p r).isSome
def longRow (ar : List Int) (rs : Rules) (t : List Int) (p k : Nat) : Bool := (List.range k).any (longOne ar rs t p)
def longTo (ar : List Int) (rs : Rules) (t : List Int) (p : Nat) : Bool := (List.range p).any fun q => longRow ar rs t q rs.length
/-- has some redex no step? -/
def longL (ar : List Int) (rs : Rules) (t : List Int) : Bool := longTo ar rs t t.length
section
variable {ar t : List Int} {rs : Rules} {p r k : Nat} {u : List Int}
theorem stepsRow_succ : stepsRow ar rs t p (k + 1) = stepsRow ar rs t p k ++ stepOne ar rs t p k := by simp [stepsRow, List.range_succ]
theorem stepsTo_succ : stepsTo ar rs t (p + 1) = stepsTo ar rs t p ++ stepsRow ar rs t p rs.length := by simp [stepsTo, List.range_succ]
theorem longRow_succ : longRow ar rs t p (k + 1) = (longRow ar rs t p k || longOne ar rs t p k) := by simp [longRow, List.range_succ, Bool.or_comm]
theorem longTo_succ : longTo ar rs t (p + 1) = (longTo ar rs t p || longRow ar rs t p rs.length) := by simp [longTo, List.range_succ, Bool.or_comm]
theorem redex_step (h : isRedex ar rs t p r = false) : stepL ar rs t p r = none := stepL_nomatch (by unfold isRedex at h; exact h)
theorem one_none (h : isRedex ar rs t p r = false) : stepOne ar rs t p r = [] ∧ longOne ar rs t p r = false := by
  refine ⟨?_, by unfold longOne; rw [h]; rfl⟩
  unfold stepOne; rw [redex_step h]
theorem step_redex (h : (stepL ar rs t p r).isSome = true) : isRedex ar rs t p r = true := by
  cases hx : isRedex ar rs t p r with
  | true => rfl
  | false => rw [redex_step hx] at h; cases h
theorem one_some (h : (stepL ar rs t p r).isSome = true) : stepOne ar rs t p r = [((p : Int), (r : Int), (stepL ar rs t p r).getD [])] ∧ longOne ar rs t p r = false := by
  obtain ⟨u, hu⟩ := Option.isSome_iff_exists.1 h
  refine ⟨by unfold stepOne; rw [hu]; rfl, by unfold longOne; rw [h]; simp⟩
theorem one_long (hr : isRedex ar rs t p r = true) (h : (stepL ar rs t p r).isSome = false) : stepOne ar rs t p r = [] ∧ longOne ar rs t p r = true := by
  refine ⟨?_, by unfold longOne; rw [hr, h]; rfl⟩
  unfold stepOne
  cases hx : stepL ar rs t p r with
  | none => rfl
  | some u => rw [hx] at h; cases h
theorem stepOne_no (h : (stepL ar rs t p r).isSome = false) : stepOne ar rs t p r = [] := by
  unfold stepOne
  cases hx : stepL ar rs t p r with
  | none => rfl
  | some u => rw [hx] at h; cases h
theorem stepOne_len : (stepOne ar rs t p r).length ≤ 1 := by unfold stepOne; split <;> simp
theorem stepsRow_len : ∀ k, (stepsRow ar rs t p k).length ≤ k
  | 0 => by simp [stepsRow]
  | k + 1 => by have := stepsRow_len k; have := stepOne_len (ar := ar) (rs := rs) (t := t) (p := p) (r := k); rw [stepsRow_succ, List.length_append]; omega
theorem stepsTo_len (h : rs.length ≤ 12) : ∀ p, (stepsTo ar rs t p).length ≤ 12 * p
  | 0 => by simp [stepsTo]
  | p + 1 => by have := stepsTo_len h p; have := stepsRow_len (ar := ar) (rs := rs) (t := t) (p := p) rs.length; rw [stepsTo_succ, List.length_append]; omega
theorem mem_steps {s : StepV} (h : s ∈ stepsL ar rs t) : ∃ q k, q < t.length ∧ k < rs.length ∧ stepL ar rs t q k = some s.2.2 := by
  unfold stepsL stepsTo at h
  obtain ⟨q, hq, h⟩ := List.mem_flatMap.1 h
  unfold stepsRow at h
  obtain ⟨k, hk, h⟩ := List.mem_flatMap.1 h
  refine ⟨q, k, List.mem_range.1 hq, List.mem_range.1 hk, ?_⟩
  unfold stepOne at h
  split at h
  · rename_i u hu; simp at h; rw [h]; exact hu
  · cases h
theorem steps_ok (hs : sysOk ar rs = true) (ht : termOk ar t = true) {i : Nat} (hi : i < (stepsL ar rs t).length) : termOk ar ((stepsL ar rs t).getD i (0, 0, [])).2.2 = true := by
  obtain ⟨q, k, h1, h2, h3⟩ := mem_steps (show (stepsL ar rs t).getD i (0, 0, []) ∈ stepsL ar rs t by simp [List.getD, hi])
  exact stepL_ok hs ht h1 h2 h3
end

/-- a term that was found: from which, by which step, behind how many -/
abbrev FoundV := List Int × Int × StepV × Int
def terms (all : List FoundV) : RowL := all.map (·.1)
def isIn (all : List FoundV) (t : List Int) : Bool := all.any fun x => decide (x.1 = t)
/-- what one term's steps add -/
def addGo (k d : Int) : List StepV → List FoundV → List FoundV × Bool
  | [], all => (all, true)
  | s :: r, all => if isIn all s.2.2 = true then addGo k d r all else if all.length = 60 then (all, false) else addGo k d r (all ++ [(s.2.2, k, s, d + 1)])
def reachGo (ar : List Int) (rs : Rules) (n : Int) : Nat → Nat → List FoundV → List FoundV × Bool
  | 0, _, all => (all, true)
  | f + 1, k, all => if k < all.length then
      (if (all.getD k ([], 0, (0, 0, []), 0)).2.2.2 = n then reachGo ar rs n f (k + 1) all
       else if (addGo (k : Int) (all.getD k ([], 0, (0, 0, []), 0)).2.2.2 (stepsL ar rs (all.getD k ([], 0, (0, 0, []), 0)).1) all).2 = true then reachGo ar rs n f (k + 1) (addGo (k : Int) (all.getD k ([], 0, (0, 0, []), 0)).2.2.2 (stepsL ar rs (all.getD k ([], 0, (0, 0, []), 0)).1) all).1
       else (addGo (k : Int) (all.getD k ([], 0, (0, 0, []), 0)).2.2.2 (stepsL ar rs (all.getD k ([], 0, (0, 0, []), 0)).1) all))
    else (all, true)
def start0 (t : List Int) : List FoundV := [(t, -1, (0, 0, []), 0)]
/-- what is reached from a term -/
def reachL (ar : List Int) (rs : Rules) (t : List Int) (n : Int) : List FoundV × Bool := reachGo ar rs n 60 0 (start0 t)
section
variable {ar t : List Int} {rs : Rules} {n d : Int} {k f : Nat} {all : List FoundV} {ss : List StepV}
abbrev EL (all : List FoundV) (k : Nat) : FoundV := all.getD k ([], 0, (0, 0, []), 0)
theorem reach_same (hk : k < all.length) (hf : 60 - k = f + 1) (hd : (EL all k).2.2.2 = n) : reachGo ar rs n (60 - k) k all = reachGo ar rs n (60 - (k + 1)) (k + 1) all := by
  rw [hf, reachGo, if_pos hk, if_pos hd, show 60 - (k + 1) = f from by omega]
theorem reach_more (hk : k < all.length) (hf : 60 - k = f + 1) (hd : (EL all k).2.2.2 ≠ n) (h : (addGo (k : Int) (EL all k).2.2.2 (stepsL ar rs (EL all k).1) all).2 = true) : reachGo ar rs n (60 - k) k all = reachGo ar rs n (60 - (k + 1)) (k + 1) (addGo (k : Int) (EL all k).2.2.2 (stepsL ar rs (EL all k).1) all).1 := by
  rw [hf, reachGo, if_pos hk, if_neg hd, if_pos h, show 60 - (k + 1) = f from by omega]
theorem reach_stop (hk : k < all.length) (hf : 60 - k = f + 1) (hd : (EL all k).2.2.2 ≠ n) (h : (addGo (k : Int) (EL all k).2.2.2 (stepsL ar rs (EL all k).1) all).2 = false) : reachGo ar rs n (60 - k) k all = addGo (k : Int) (EL all k).2.2.2 (stepsL ar rs (EL all k).1) all := by
  rw [hf, reachGo, if_pos hk, if_neg hd, if_neg (by rw [h]; simp)]
theorem reach_done (hk : all.length ≤ k) (hl : all.length ≤ 60) : reachGo ar rs n (60 - k) k all = (all, true) := by
  cases h : 60 - k with
  | zero => rfl
  | succ f => rw [reachGo, if_neg (by omega)]
theorem add_in {q : Nat} (hq : q < ss.length) (h : isIn all (ss.getD q (0, 0, [])).2.2 = true) : addGo (k : Int) d (ss.drop q) all = addGo (k : Int) d (ss.drop (q + 1)) all := by
  rw [drop_get (0, 0, []) hq, addGo, if_pos h]
theorem add_new {q : Nat} (hq : q < ss.length) (h : isIn all (ss.getD q (0, 0, [])).2.2 = false) (hl : all.length ≠ 60) : addGo (k : Int) d (ss.drop q) all = addGo (k : Int) d (ss.drop (q + 1)) (all ++ [((ss.getD q (0, 0, [])).2.2, (k : Int), ss.getD q (0, 0, []), d + 1)]) := by
  rw [drop_get (0, 0, []) hq, addGo, if_neg (by rw [h]; simp), if_neg hl]
theorem add_full {q : Nat} (hq : q < ss.length) (h : isIn all (ss.getD q (0, 0, [])).2.2 = false) (hl : all.length = 60) : addGo (k : Int) d (ss.drop q) all = (all, false) := by
  rw [drop_get (0, 0, []) hq, addGo, if_neg (by rw [h]; simp), if_pos hl]
theorem add_end {q : Nat} (hq : ss.length ≤ q) : addGo (k : Int) d (ss.drop q) all = (all, true) := by
  rw [List.drop_eq_nil_of_le hq]; rfl

/-- all that is found are right terms -/
def AllOk (ar : List Int) (all : List FoundV) : Prop := ∀ i, i < all.length → termOk ar (EL all i).1 = true
theorem AllOk.snoc {x : FoundV} (h : AllOk ar all) (hx : termOk ar x.1 = true) : AllOk ar (all ++ [x]) := by
  intro i hi
  rw [List.length_append, List.length_singleton] at hi
  rcases Nat.lt_or_ge i all.length with h1 | h1
  · have := h i h1; unfold EL at *; rwa [List.getD_eq_getElem?_getD, List.getElem?_append_left h1, ← List.getD_eq_getElem?_getD]
  · obtain rfl : i = all.length := by omega
    unfold EL; simp [List.getD]; exact hx
theorem AllOk.start (h : termOk ar t = true) : AllOk ar (start0 t) := by
  intro i hi
  obtain rfl : i = 0 := by simp [start0] at hi; exact hi
  exact h
def DeepOk (n : Int) (all : List FoundV) : Prop := ∀ i, i < all.length → 0 ≤ (EL all i).2.2.2 ∧ (EL all i).2.2.2 ≤ n
theorem DeepOk.snoc {x : FoundV} (h : DeepOk n all) (hx : 0 ≤ x.2.2.2 ∧ x.2.2.2 ≤ n) : DeepOk n (all ++ [x]) := by
  intro i hi
  rw [List.length_append, List.length_singleton] at hi
  rcases Nat.lt_or_ge i all.length with h1 | h1
  · have := h i h1; unfold EL at *; rwa [List.getD_eq_getElem?_getD, List.getElem?_append_left h1, ← List.getD_eq_getElem?_getD]
  · obtain rfl : i = all.length := by omega
    unfold EL; simp [List.getD]; exact hx
theorem DeepOk.start (hn : 0 ≤ n) : DeepOk n (start0 t) := by
  intro i hi
  obtain rfl : i = 0 := by simp [start0] at hi; exact hi
  exact ⟨by simp [EL, start0], by simpa [EL, start0] using hn⟩
theorem terms_len : (terms all).length = all.length := by simp [terms]
theorem terms_get (i : Nat) : (terms all).getD i [] = (EL all i).1 := by
  unfold terms EL
  rcases Nat.lt_or_ge i all.length with h | h
  · simp [List.getD, h]
  · simp [List.getD, h]
theorem add_ok2 (k d : Int) : ∀ (ss : List StepV) (all : List FoundV), all.length ≤ 60 → AllOk ar all → (∀ s ∈ ss, termOk ar s.2.2 = true) → (addGo k d ss all).1.length ≤ 60 ∧ AllOk ar (addGo k d ss all).1
  | [], all, hl, h, _ => ⟨hl, h⟩
  | s :: r, all, hl, h, hs => by
    rw [addGo]
    split
    · exact add_ok2 k d r all hl h (fun x hx => hs x (List.mem_cons_of_mem _ hx))
    · split
      · exact ⟨hl, h⟩
      · exact add_ok2 k d r _ (by rw [List.length_append, List.length_singleton]; omega) (h.snoc (hs s (by simp))) (fun x hx => hs x (List.mem_cons_of_mem _ hx))
theorem reachGo_ok (hs : sysOk ar rs = true) : ∀ (f k : Nat) (all : List FoundV), all.length ≤ 60 → AllOk ar all → (reachGo ar rs n f k all).1.length ≤ 60 ∧ AllOk ar (reachGo ar rs n f k all).1
  | 0, k, all, hl, h => ⟨hl, h⟩
  | f + 1, k, all, hl, h => by
    rw [reachGo]
    split
    · rename_i hk
      have ha := add_ok2 (ar := ar) (k : Int) (all.getD k ([], 0, (0, 0, []), 0)).2.2.2 (stepsL ar rs (all.getD k ([], 0, (0, 0, []), 0)).1) all hl h (fun s hx => by
        obtain ⟨q, j, h1, h2, h3⟩ := mem_steps hx
        exact stepL_ok hs (h k hk) h1 h2 h3)
      split
      · exact reachGo_ok hs f (k + 1) all hl h
      · split
        · exact reachGo_ok hs f (k + 1) _ ha.1 ha.2
        · exact ha
    · exact ⟨hl, h⟩
theorem reachL_ok (hs : sysOk ar rs = true) (ht : termOk ar t = true) : (reachL ar rs t n).1.length ≤ 60 ∧ AllOk ar (reachL ar rs t n).1 := reachGo_ok hs 60 0 _ (by simp [start0]) (AllOk.start ht)
theorem isIn_some {i : Nat} {u : List Int} (hi : i < all.length) (h : (EL all i).1 = u) : isIn all u = true := by
  unfold isIn
  rw [List.any_eq_true]
  refine ⟨EL all i, ?_, by simpa using h⟩
  unfold EL; simp [List.getD, hi]
theorem isIn_none {u : List Int} (h : ∀ i, i < all.length → (EL all i).1 ≠ u) : isIn all u = false := by
  rw [Bool.eq_false_iff]
  intro hx
  unfold isIn at hx
  rw [List.any_eq_true] at hx
  obtain ⟨x, hx, he⟩ := hx
  obtain ⟨i, hi, rfl⟩ := List.getElem_of_mem hx
  refine h i hi ?_
  unfold EL; simp [List.getD, hi]; simpa using he
end

def foundI (all : List FoundV) (u : List Int) : Int := badG (fun x => !decide (x.1 = u)) all
theorem foundI_at {all : List FoundV} {u : List Int} {k : Nat} (hk : k < all.length) (h : (EL all k).1 = u) (hall : ∀ i, i < k → (EL all i).1 ≠ u) : foundI all u = k :=
  badG_at ([], 0, (0, 0, []), 0) hk (by simpa using h) (fun i hi => by simpa using hall i hi)
theorem foundI_none {all : List FoundV} {u : List Int} (hall : ∀ i, i < all.length → (EL all i).1 ≠ u) : foundI all u = -1 :=
  badG_none ([], 0, (0, 0, []), 0) (fun i hi => by simpa using hall i hi)
theorem foundI_iff {all : List FoundV} {u : List Int} : (foundI all u ≥ 0) ↔ isIn all u = true := by
  unfold foundI
  rw [badG_iff]
  unfold isIn
  constructor
  · intro h
    rw [List.all_eq_false] at h
    obtain ⟨x, hx, h⟩ := h
    rw [List.any_eq_true]
    exact ⟨x, hx, by simpa using h⟩
  · intro h
    rw [List.any_eq_true] at h
    obtain ⟨x, hx, h⟩ := h
    rw [List.all_eq_false]
    exact ⟨x, hx, by simpa using h⟩
theorem foundI_terms {all : List FoundV} {u : List Int} : badG (fun y => !decide (y = u)) (terms all) = foundI all u := by
  unfold foundI badG terms
  rw [List.findIdx?_map]; rfl
def froms (all : List FoundV) : List Int := all.map (·.2.1)
def bys (all : List FoundV) : List StepV := all.map (·.2.2.1)
def deeps (all : List FoundV) : List Int := all.map (·.2.2.2)
section
variable {all : List FoundV} {x : FoundV} {i : Nat}
theorem terms_snoc : terms (all ++ [x]) = terms all ++ [x.1] := by simp [terms]
theorem froms_snoc : froms (all ++ [x]) = froms all ++ [x.2.1] := by simp [froms]
theorem bys_snoc : bys (all ++ [x]) = bys all ++ [x.2.2.1] := by simp [bys]
theorem deeps_snoc : deeps (all ++ [x]) = deeps all ++ [x.2.2.2] := by simp [deeps]
theorem froms_len : (froms all).length = all.length := by simp [froms]
theorem bys_len : (bys all).length = all.length := by simp [bys]
theorem deeps_len : (deeps all).length = all.length := by simp [deeps]
theorem deeps_get (hi : i < all.length) : (deeps all).getD i 0 = (EL all i).2.2.2 := by unfold deeps EL; simp [List.getD, hi]
theorem froms_get (hi : i < all.length) : (froms all).getD i 0 = (EL all i).2.1 := by unfold froms EL; simp [List.getD, hi]
theorem bys_get (hi : i < all.length) : (bys all).getD i (0, 0, []) = (EL all i).2.2.1 := by unfold bys EL; simp [List.getD, hi]
theorem EL_snoc {k : Nat} (hk : k < all.length) : EL (all ++ [x]) k = EL all k := by unfold EL; rw [List.getD_eq_getElem?_getD, List.getElem?_append_left hk, ← List.getD_eq_getElem?_getD]
end

/-- the arguments of a search are right -/
def reachOkL (ar : List Int) (rs : Rules) (n : Int) (ts : RowL) : Bool := (sysOk ar rs && decide (0 ≤ n ∧ n ≤ 20)) && ts.all (termOk ar)
def reachF (ar : List Int) (rs : Rules) (t : List Int) (n : Int) : List FoundV × Bool := if reachOkL ar rs n [t] = true then reachL ar rs t n else ([], false)
theorem flat_mem {N : Nat} : ∀ {ts : RowL}, (∀ x ∈ ts, x.length ≤ N) → (ts.flatMap flatRow).length ≤ N * ts.length
  | [], _ => by simp
  | x :: ts, h => by
    have h1 := h x (by simp)
    have h2 := flat_mem (ts := ts) (fun y hy => h y (List.mem_cons_of_mem _ hy))
    rw [List.flatMap_cons, List.length_append, List.length_cons, Nat.mul_succ]
    have h3 : (flatRow x).length = x.length := rfl
    omega
theorem flat_le {N : Nat} {ts : RowL} (h : ∀ i, (ts.getD i []).length ≤ N) : (ts.flatMap flatRow).length ≤ N * ts.length :=
  flat_mem fun x hx => by
    obtain ⟨i, hi, rfl⟩ := List.getElem_of_mem hx
    have := h i
    simpa [List.getD, hi] using this
theorem reachF_len {ar t : List Int} {rs : Rules} {n : Int} : (terms (reachF ar rs t n).1).length ≤ 60 ∧ ∀ i, ((terms (reachF ar rs t n).1).getD i []).length ≤ 60 := by
  unfold reachF
  split
  · rename_i h
    unfold reachOkL at h
    simp only [Bool.and_eq_true, List.all_cons, List.all_nil, Bool.and_true, decide_eq_true_eq] at h
    obtain ⟨⟨hs, hn⟩, ht⟩ := h
    obtain ⟨h1, h2⟩ := reachL_ok (n := n) hs ht
    refine ⟨by rw [terms_len]; exact h1, fun i => ?_⟩
    rw [terms_get]
    rcases Nat.lt_or_ge i (reachL ar rs t n).1.length with hi | hi
    · exact (termOk_len (h2 i hi)).2
    · unfold EL; rw [List.getD_eq_getElem?_getD, List.getElem?_eq_none hi]; simp
  · simp [terms]
theorem reachOk_iff {ar t : List Int} {rs : Rules} {n : Int} : reachOkL ar rs n [t] = true ↔ (sysOk ar rs = true ∧ termOk ar t = true) ∧ (0 ≤ n ∧ n ≤ 20) := by
  unfold reachOkL
  simp only [Bool.and_eq_true, List.all_cons, List.all_nil, Bool.and_true, decide_eq_true_eq]
  constructor
  · rintro ⟨⟨h1, h2⟩, h3⟩; exact ⟨⟨h1, h3⟩, h2⟩
  · rintro ⟨⟨h1, h3⟩, h2⟩; exact ⟨⟨h1, h2⟩, h3⟩
theorem reachOk_right {ar t : List Int} {rs : Rules} {n : Int} : reachOkL ar rs n [t] = (rightB ar rs t && decide (0 ≤ n ∧ n ≤ 20)) := by
  unfold reachOkL rightB
  simp only [List.all_cons, List.all_nil, Bool.and_true]
  cases sysOk ar rs <;> cases termOk ar t <;> simp
theorem reachF_yes {ar t : List Int} {rs : Rules} {n : Int} (h : reachOkL ar rs n [t] = true) : reachF ar rs t n = reachL ar rs t n := if_pos h
theorem reachF_no {ar t : List Int} {rs : Rules} {n : Int} (h : reachOkL ar rs n [t] = false) : reachF ar rs t n = ([], false) := if_neg (by rw [h]; simp)
theorem reachOk_fail {ar : List Int} {rs : Rules} {n : Int} {ts : RowL} {k : Nat} (hk : k < ts.length) (h : termOk ar (ts.getD k []) = false) : reachOkL ar rs n ts = false := by
  unfold reachOkL
  rw [all_fail [] hk h, Bool.and_false]
theorem reachOk_all {ar : List Int} {rs : Rules} {n : Int} {ts : RowL} (hs : sysOk ar rs = true) (hn : 0 ≤ n ∧ n ≤ 20) (h : ∀ i, i < ts.length → termOk ar (ts.getD i []) = true) : reachOkL ar rs n ts = true := by
  unfold reachOkL
  rw [hs, (all_getD_iff []).2 h]
  simp [hn]
end Go.Proofs.Ytiaanelimbmniaa.M
