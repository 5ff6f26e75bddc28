/-
  Plain: a walk to a term; two walks that meet.
-/
import Derived.Test.YtiaanelimbmniaaP21
import Derived.Test.YtiaanelimbmniaaP9
set_option linter.unusedSimpArgs false
set_option linter.unusedVariables false
namespace Go.Proofs.Ytiaanelimbmniaa.M

/-- the bounds of a walk that is given back -/
def WalkB (f : List Int) (ss : List StepV) : Prop := f.length ≤ 60 ∧ ss.length ≤ 60 ∧ (∀ i, i < ss.length → (ss.getD i (0, 0, [])).2.2.length ≤ 60) ∧ (ss.flatMap flatStep).length ≤ 4000
theorem WalkB.nil : WalkB [] [] := ⟨by simp, by simp, fun i hi => by simp at hi, by simp⟩
theorem WalkB.mk {f : List Int} {ss : List StepV} (hf : f.length ≤ 60) (hs : ss.length ≤ 60) (h : ∀ s ∈ ss, s.2.2.length ≤ 60) : WalkB f ss := by
  have h0 : ∀ i, i < ss.length → (ss.getD i (0, 0, [])).2.2.length ≤ 60 := fun i hi => h _ (by simp [List.getD, hi])
  refine ⟨hf, hs, h0, ?_⟩
  have h1 := flatStep_len ss
  have h2 := gTo_bound h0 _ (Nat.le_refl _)
  have h4 : ss.length * 60 ≤ 60 * 60 := Nat.mul_le_mul_right 60 hs
  omega
section
variable {ar t u a b : List Int} {rs : Rules} {n : Int} {all : List FoundV} {k : Nat}
theorem walkL_len (hl : Link all) (hd : DeepOk n all) (hk : k < all.length) : ((walkL all k).length : Int) = (EL all k).2.2.2 ∧ ((walkL all k).length : Int) ≤ n := by
  have h1 := backL_len hl k k (Nat.le_refl _) hk
  have h2 := hd k hk
  unfold walkL
  rw [List.length_reverse]
  omega
theorem walkL_bound (hs : sysOk ar rs = true) (ht : termOk ar t = true) (hn : 0 ≤ n ∧ n ≤ 20) (hk : k < (reachL ar rs t n).1.length) : WalkB t (walkL (reachL ar rs t n).1 k) := by
  have h1 := reachL_good (ar := ar) (rs := rs) (t := t) hn.1
  have h2 := walkL_len h1.1 h1.2.2.1 hk
  have h3 := reachL_ok (n := n) hs ht
  refine WalkB.mk (termOk_len ht).2 (by omega) (fun s hm => ?_)
  obtain ⟨i, hi, he⟩ := backL_mem h1.1 k k (Nat.le_refl _) hk s (by unfold walkL at hm; simpa using hm)
  rw [he]; exact (termOk_len (h3.2 i hi)).2

/-- a walk to a term, if it is found -/
def walkTo0 (ar : List Int) (rs : Rules) (t u : List Int) (n : Int) : List Int × List StepV × Bool :=
  if 0 ≤ foundI (reachL ar rs t n).1 u then (t, walkL (reachL ar rs t n).1 (foundI (reachL ar rs t n).1 u).toNat, true) else ([], [], false)
theorem walkTo0_yes (h : 0 ≤ foundI (reachL ar rs t n).1 u) : walkTo0 ar rs t u n = (t, walkL (reachL ar rs t n).1 (foundI (reachL ar rs t n).1 u).toNat, true) := if_pos h
theorem walkTo0_no (h : foundI (reachL ar rs t n).1 u < 0) : walkTo0 ar rs t u n = ([], [], false) := if_neg (by omega)
def walkToF (ar : List Int) (rs : Rules) (t u : List Int) (n : Int) : List Int × List StepV × Bool := if reachOkL ar rs n [t, u] = true then walkTo0 ar rs t u n else ([], [], false)
theorem reachOk2_iff : reachOkL ar rs n [t, u] = true ↔ (sysOk ar rs = true ∧ termOk ar t = true ∧ termOk ar u = true) ∧ (0 ≤ n ∧ n ≤ 20) := by
  unfold reachOkL
  simp only [Bool.and_eq_true, List.all_cons, List.all_nil, Bool.and_true, decide_eq_true_eq]
  constructor
  · rintro ⟨⟨h1, h2⟩, h3, h4⟩; exact ⟨⟨h1, h3, h4⟩, h2⟩
  · rintro ⟨⟨h1, h3, h4⟩, h2⟩; exact ⟨⟨h1, h2⟩, h3, h4⟩
theorem reachOk2 : reachOkL ar rs n [t, u] = (reachOkL ar rs n [t] && reachOkL ar rs n [u]) := by
  unfold reachOkL
  simp only [List.all_cons, List.all_nil, Bool.and_true]
  cases sysOk ar rs <;> cases termOk ar t <;> cases termOk ar u <;> simp
theorem walkToF_yes (h : reachOkL ar rs n [t, u] = true) : walkToF ar rs t u n = walkTo0 ar rs t u n := if_pos h
theorem walkToF_no (h : reachOkL ar rs n [t, u] = false) : walkToF ar rs t u n = ([], [], false) := if_neg (by rw [h]; simp)
theorem walkTo0_bound (hs : sysOk ar rs = true) (ht : termOk ar t = true) (hn : 0 ≤ n ∧ n ≤ 20) : WalkB (walkTo0 ar rs t u n).1 (walkTo0 ar rs t u n).2.1 := by
  unfold walkTo0
  split
  · rename_i h; exact walkL_bound hs ht hn (foundI_lt h).1
  · exact .nil
theorem walkToF_bound : WalkB (walkToF ar rs t u n).1 (walkToF ar rs t u n).2.1 := by
  unfold walkToF
  split
  · rename_i h
    have h := reachOk2_iff.1 h
    exact walkTo0_bound h.1.1 h.1.2.1 h.2
  · exact .nil

/-- where two searches meet -/
def joinI (l r : List FoundV) : Int := badG (fun x => !isIn r x.1) l
theorem joinI_at {l r : List FoundV} (hk : k < l.length) (h : foundI r (EL l k).1 ≥ 0) (hall : ∀ i, i < k → foundI r (EL l i).1 < 0) : joinI l r = k :=
  badG_at ([], 0, (0, 0, []), 0) hk (by have := foundI_iff.1 h; show (!isIn r (EL l k).1) = false; rw [this]; rfl) (fun i hi => by
    have := hall i hi
    cases hx : isIn r (EL l i).1 with
    | true => have := foundI_iff.2 hx; omega
    | false => rfl)
theorem joinI_none {l r : List FoundV} (hall : ∀ i, i < l.length → foundI r (EL l i).1 < 0) : joinI l r = -1 :=
  badG_none ([], 0, (0, 0, []), 0) (fun i hi => by
    have := hall i hi
    cases hx : isIn r (EL l i).1 with
    | true => have := foundI_iff.2 hx; omega
    | false => rfl)
abbrev Two := List Int × List StepV × List Int × List StepV × Bool
def join0 (ar : List Int) (rs : Rules) (a b : List Int) (n : Int) : Two :=
  if 0 ≤ joinI (reachL ar rs a n).1 (reachL ar rs b n).1 then
    (a, walkL (reachL ar rs a n).1 (joinI (reachL ar rs a n).1 (reachL ar rs b n).1).toNat, b, walkL (reachL ar rs b n).1 (foundI (reachL ar rs b n).1 (EL (reachL ar rs a n).1 (joinI (reachL ar rs a n).1 (reachL ar rs b n).1).toNat).1).toNat, true)
  else ([], [], [], [], false)
theorem join0_at (hk : k < (reachL ar rs a n).1.length) (h : foundI (reachL ar rs b n).1 (EL (reachL ar rs a n).1 k).1 ≥ 0) (hall : ∀ i, i < k → foundI (reachL ar rs b n).1 (EL (reachL ar rs a n).1 i).1 < 0) :
    join0 ar rs a b n = (a, walkL (reachL ar rs a n).1 k, b, walkL (reachL ar rs b n).1 (foundI (reachL ar rs b n).1 (EL (reachL ar rs a n).1 k).1).toNat, true) := by
  unfold join0
  rw [joinI_at hk h hall, if_pos (by omega), show ((k : Int)).toNat = k from by omega]
theorem join0_none (hall : ∀ i, i < (reachL ar rs a n).1.length → foundI (reachL ar rs b n).1 (EL (reachL ar rs a n).1 i).1 < 0) : join0 ar rs a b n = ([], [], [], [], false) := by
  unfold join0
  rw [joinI_none hall, if_neg (by omega)]
def joinF (ar : List Int) (rs : Rules) (a b : List Int) (n : Int) : Two := if reachOkL ar rs n [a, b] = true then join0 ar rs a b n else ([], [], [], [], false)
theorem joinF_yes (h : reachOkL ar rs n [a, b] = true) : joinF ar rs a b n = join0 ar rs a b n := if_pos h
theorem joinF_no (h : reachOkL ar rs n [a, b] = false) : joinF ar rs a b n = ([], [], [], [], false) := if_neg (by rw [h]; simp)
theorem badG_lt {α : Type} (d : α) {q : α → Bool} {l : List α} (h : 0 ≤ badG q l) : (badG q l).toNat < l.length ∧ q (l.getD (badG q l).toNat d) = false := by
  unfold badG at h ⊢
  split at h
  · rename_i i he
    rw [List.findIdx?_eq_some_iff_getElem] at he
    obtain ⟨hi, h1, _⟩ := he
    rw [show ((i : Int)).toNat = i from by omega]
    simp only [List.getD_eq_getElem?_getD, List.getElem?_eq_getElem hi, Option.getD_some]
    exact ⟨hi, by simpa using h1⟩
  · omega
theorem join0_bound (hs : sysOk ar rs = true) (ha : termOk ar a = true) (hb : termOk ar b = true) (hn : 0 ≤ n ∧ n ≤ 20) : WalkB (join0 ar rs a b n).1 (join0 ar rs a b n).2.1 ∧ WalkB (join0 ar rs a b n).2.2.1 (join0 ar rs a b n).2.2.2.1 := by
  unfold join0
  split
  · rename_i h
    unfold joinI at h
    obtain ⟨h1, h2⟩ := badG_lt ([], 0, (0, 0, []), 0) h
    refine ⟨walkL_bound hs ha hn h1, walkL_bound hs hb hn (foundI_lt (foundI_iff.2 ?_)).1⟩
    have h3 : isIn (reachL ar rs b n).1 ((reachL ar rs a n).1.getD (joinI (reachL ar rs a n).1 (reachL ar rs b n).1).toNat ([], 0, (0, 0, []), 0)).1 = true := by unfold joinI; simpa using h2
    exact h3
  · exact ⟨.nil, .nil⟩
theorem joinF_bound : WalkB (joinF ar rs a b n).1 (joinF ar rs a b n).2.1 ∧ WalkB (joinF ar rs a b n).2.2.1 (joinF ar rs a b n).2.2.2.1 := by
  unfold joinF
  split
  · rename_i h
    have h := reachOk2_iff.1 h
    exact join0_bound h.1.1 h.1.2.1 h.1.2.2 h.2
  · exact ⟨.nil, .nil⟩
end
end Go.Proofs.Ytiaanelimbmniaa.M
