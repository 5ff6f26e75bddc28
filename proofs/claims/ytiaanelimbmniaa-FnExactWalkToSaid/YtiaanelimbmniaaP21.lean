/-
  Plain: how what is reached hangs together; the walks back.
-/
import Derived.Test.YtiaanelimbmniaaP19
set_option linter.unusedSimpArgs false
set_option linter.unusedVariables false
namespace Go.Proofs.Ytiaanelimbmniaa.M

/-- how what is found hangs together -/
def Link (all : List FoundV) : Prop := (0 < all.length ∧ (EL all 0).2.1 = -1 ∧ (EL all 0).2.2.2 = 0) ∧ ∀ i, 0 < i → i < all.length → 0 ≤ (EL all i).2.1 ∧ (EL all i).2.1 < (i : Int) ∧ (EL all i).2.2.2 = (EL all (EL all i).2.1.toNat).2.2.2 + 1 ∧ (EL all i).2.2.1.2.2 = (EL all i).1
/-- no term stands twice -/
def Dist (all : List FoundV) : Prop := ∀ i j, i < j → j < all.length → (EL all i).1 ≠ (EL all j).1
section
variable {ar t : List Int} {rs : Rules} {n : Int} {all : List FoundV}
theorem EL_last {x : FoundV} : EL (all ++ [x]) all.length = x := by unfold EL; simp [List.getD]
theorem Link.start : Link (start0 t) := ⟨⟨by simp [start0], rfl, rfl⟩, fun i h0 hi => by simp [start0] at hi; omega⟩
theorem Link.snoc {k : Nat} {s : StepV} {d : Int} (h : Link all) (hk : k < all.length) (hd : d = (EL all k).2.2.2) : Link (all ++ [(s.2.2, (k : Int), s, d + 1)]) := by
  obtain ⟨⟨h0, h2, h3⟩, h4⟩ := h
  refine ⟨⟨by simp, by rw [EL_snoc h0]; exact h2, by rw [EL_snoc h0]; exact h3⟩, fun i hi hl => ?_⟩
  rw [List.length_append, List.length_singleton] at hl
  rcases Nat.lt_or_ge i all.length with h | h
  · obtain ⟨a, b, c, d⟩ := h4 i hi h
    rw [EL_snoc h]
    exact ⟨a, b, by rw [EL_snoc (by omega)]; exact c, d⟩
  · obtain rfl : i = all.length := by omega
    rw [EL_last]
    refine ⟨by dsimp only; omega, by dsimp only; omega, ?_, rfl⟩
    dsimp only
    rw [show ((k : Int)).toNat = k from by omega, EL_snoc hk, hd]
theorem add_link (k : Nat) (d : Int) : ∀ (ss : List StepV) (all : List FoundV), Link all → k < all.length → d = (EL all k).2.2.2 → Link (addGo (k : Int) d ss all).1
  | [], all, h, _, _ => h
  | s :: r, all, h, hk, hd => by
    rw [addGo]
    split
    · exact add_link k d r all h hk hd
    · split
      · exact h
      · exact add_link k d r _ (h.snoc hk hd) (by rw [List.length_append]; omega) (by rw [EL_snoc hk]; exact hd)
theorem add_deep (k d : Int) (h0 : 0 ≤ d) (h1 : d + 1 ≤ n) : ∀ (ss : List StepV) (all : List FoundV), DeepOk n all → DeepOk n (addGo k d ss all).1
  | [], all, h => h
  | s :: r, all, h => by
    rw [addGo]
    split
    · exact add_deep k d h0 h1 r all h
    · split
      · exact h
      · exact add_deep k d h0 h1 r _ (h.snoc ⟨by dsimp only; omega, by dsimp only; omega⟩)
theorem Dist.snoc {x : FoundV} (h : Dist all) (hx : isIn all x.1 = false) : Dist (all ++ [x]) := by
  intro i j hij hj
  rw [List.length_append, List.length_singleton] at hj
  rcases Nat.lt_or_ge j all.length with h1 | h1
  · rw [EL_snoc h1, EL_snoc (by omega)]; exact h i j hij h1
  · obtain rfl : j = all.length := by omega
    rw [EL_last, EL_snoc hij]
    intro he
    rw [isIn_some hij he] at hx
    cases hx
theorem add_dist (k d : Int) : ∀ (ss : List StepV) (all : List FoundV), Dist all → Dist (addGo k d ss all).1
  | [], all, h => h
  | s :: r, all, h => by
    rw [addGo]
    split
    · exact add_dist k d r all h
    · split
      · exact h
      · rename_i h1 h2
        exact add_dist k d r _ (h.snoc (by simpa using h1))
theorem add_first (k d : Int) : ∀ (ss : List StepV) (all : List FoundV), 0 < all.length → 0 < (addGo k d ss all).1.length ∧ (EL (addGo k d ss all).1 0).1 = (EL all 0).1
  | [], all, h => ⟨h, rfl⟩
  | s :: r, all, h => by
    rw [addGo]
    split
    · exact add_first k d r all h
    · split
      · exact ⟨h, rfl⟩
      · have := add_first k d r (all ++ [(s.2.2, k, s, d + 1)]) (by simp)
        rw [EL_snoc h] at this
        exact this
/-- all that is known of what is found -/
def Good (t : List Int) (n : Int) (all : List FoundV) : Prop := Link all ∧ Dist all ∧ DeepOk n all ∧ (EL all 0).1 = t
theorem reachGo_good : ∀ (f k : Nat) (all : List FoundV), Good t n all → Good t n (reachGo ar rs n f k all).1
  | 0, k, all, h => h
  | f + 1, k, all, h => by
    rw [reachGo]
    split
    · rename_i hk
      split
      · exact reachGo_good f (k + 1) all h
      · rename_i hd
        obtain ⟨a, b, c, d⟩ := h
        have hdk := c k hk
        have hd' : (EL all k).2.2.2 ≠ n := hd
        have h2 : Good t n (addGo (k : Int) (EL all k).2.2.2 (stepsL ar rs (EL all k).1) all).1 :=
          ⟨add_link k _ _ all a hk rfl, add_dist _ _ _ all b, add_deep _ _ hdk.1 (by omega) _ all c, by rw [(add_first _ _ _ all a.1.1).2]; exact d⟩
        split
        · exact reachGo_good f (k + 1) _ h2
        · exact h2
    · exact h
theorem reachL_good (hn : 0 ≤ n) : Good t n (reachL ar rs t n).1 := reachGo_good 60 0 _ ⟨Link.start, fun i j hij hj => by simp [start0] at hj; omega, DeepOk.start hn, rfl⟩

/-- the steps from what was found at a place back to the first -/
def backF (all : List FoundV) : Nat → Nat → List StepV
  | 0, _ => []
  | f + 1, k => if k = 0 then [] else (EL all k).2.2.1 :: backF all f (EL all k).2.1.toNat
def backL (all : List FoundV) (k : Nat) : List StepV := backF all k k
theorem backF_eq (h : Link all) : ∀ (f g k : Nat), k ≤ f → k ≤ g → k < all.length → backF all f k = backF all g k
  | 0, g, k, h1, h2, h3 => by
    obtain rfl : k = 0 := by omega
    cases g <;> simp [backF]
  | f + 1, 0, k, h1, h2, h3 => by
    obtain rfl : k = 0 := by omega
    simp [backF]
  | f + 1, g + 1, k, h1, h2, h3 => by
    rw [backF, backF]
    split
    · rfl
    · rename_i hk
      have := h.2 k (by omega) h3
      rw [backF_eq h f g _ (by omega) (by omega) (by omega)]
theorem backL_zero : backL all 0 = [] := rfl
theorem backL_succ {k : Nat} (h : Link all) (hk : 0 < k) (hl : k < all.length) : backL all k = (EL all k).2.2.1 :: backL all (EL all k).2.1.toNat := by
  have h9 := h.2 k hk hl
  unfold backL
  obtain ⟨j, rfl⟩ : ∃ j, k = j + 1 := ⟨k - 1, by omega⟩
  rw [backF, if_neg (by omega), backF_eq h j _ _ (by omega) (Nat.le_refl _) (by omega)]
theorem backL_len (h : Link all) : ∀ (f k : Nat), k ≤ f → k < all.length → ((backL all k).length : Int) = (EL all k).2.2.2
  | 0, k, h1, h2 => by
    obtain rfl : k = 0 := by omega
    rw [backL_zero, h.1.2.2]; rfl
  | f + 1, k, h1, h2 => by
    rcases Nat.eq_zero_or_pos k with h0 | h0
    · subst h0; rw [backL_zero, h.1.2.2]; rfl
    · have h9 := h.2 k h0 h2
      have := backL_len h f (EL all k).2.1.toNat (by omega) (by omega)
      rw [backL_succ h h0 h2, List.length_cons]
      omega
theorem backL_mem (h : Link all) : ∀ (f k : Nat), k ≤ f → k < all.length → ∀ s ∈ backL all k, ∃ i, i < all.length ∧ s.2.2 = (EL all i).1
  | 0, k, h1, h2, s, hs => by
    obtain rfl : k = 0 := by omega
    simp [backL_zero] at hs
  | f + 1, k, h1, h2, s, hs => by
    rcases Nat.eq_zero_or_pos k with h0 | h0
    · subst h0; simp [backL_zero] at hs
    · have h9 := h.2 k h0 h2
      rw [backL_succ h h0 h2] at hs
      rcases List.mem_cons.1 hs with rfl | hs
      · exact ⟨k, h2, h9.2.2.2⟩
      · exact backL_mem h f _ (by omega) (by omega) s hs
theorem drop_rev {α : Type} (d : α) {l : List α} {k : Nat} (h : k < l.length) : (l.drop k).reverse = (l.drop (k + 1)).reverse ++ [l.getD k d] := by rw [drop_get d h, List.reverse_cons]

/-- the walk to what was found at a place -/
def walkL (all : List FoundV) (k : Nat) : List StepV := (backL all k).reverse
theorem foundI_lt {u : List Int} (h : 0 ≤ foundI all u) : (foundI all u).toNat < all.length ∧ (EL all (foundI all u).toNat).1 = u := by
  unfold foundI badG at h ⊢
  split at h
  · rename_i i he
    rw [List.findIdx?_eq_some_iff_getElem] at he
    obtain ⟨hi, h1, _⟩ := he
    rw [show ((i : Int)).toNat = i from by omega]
    unfold EL
    simp only [List.getD_eq_getElem?_getD, List.getElem?_eq_getElem hi, Option.getD_some]
    exact ⟨hi, by simpa using h1⟩
  · omega
end
end Go.Proofs.Ytiaanelimbmniaa.M
