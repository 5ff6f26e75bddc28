/-
  Plain: the greatest term that is reached, the normal forms that are reached.
-/
import Derived.Test.YtiaanelimbmniaaP19
set_option linter.unusedSimpArgs false
set_option linter.unusedVariables false
namespace Go.Proofs.Ytiaanelimbmniaa.M

def maxI (a b : Int) : Int := if a < b then b else a
def maxTo (ts : RowL) : Nat → Int
  | 0 => 0
  | k + 1 => maxI (maxTo ts k) ((ts.getD k []).length : Int)
def growF (ar : List Int) (rs : Rules) (t : List Int) (n : Int) : Int := if (reachF ar rs t n).2 = true then maxTo (terms (reachF ar rs t n).1) (terms (reachF ar rs t n).1).length else -1
theorem maxTo_bound {ts : RowL} (h : ∀ i, (ts.getD i []).length ≤ 60) : ∀ k, 0 ≤ maxTo ts k ∧ maxTo ts k ≤ 60
  | 0 => by simp [maxTo]
  | k + 1 => by
    have h1 := maxTo_bound h k
    have h2 := h k
    rw [maxTo, maxI]
    split <;> omega

def normTo (ar : List Int) (rs : Rules) (all : List FoundV) (k : Nat) : RowL := ((all.take k).filter fun x => normalL ar rs x.1).map (·.1)
def normsF (ar : List Int) (rs : Rules) (t : List Int) (n : Int) : RowL := normTo ar rs (reachF ar rs t n).1 (reachF ar rs t n).1.length
section
variable {ar t : List Int} {rs : Rules} {all : List FoundV} {k : Nat} {n : Int}
theorem normTo_yes (hk : k < all.length) (h : normalL ar rs (EL all k).1 = true) : normTo ar rs all (k + 1) = normTo ar rs all k ++ [(EL all k).1] := by
  unfold normTo
  rw [take_succ_getD ([], 0, (0, 0, []), 0) hk, List.filter_append, List.map_append]
  congr 1
  unfold EL at h ⊢
  generalize all.getD k ([], 0, (0, 0, []), 0) = x at h ⊢
  simp [h]
theorem normTo_no (hk : k < all.length) (h : normalL ar rs (EL all k).1 = false) : normTo ar rs all (k + 1) = normTo ar rs all k := by
  unfold normTo
  rw [take_succ_getD ([], 0, (0, 0, []), 0) hk, List.filter_append, List.map_append]
  unfold EL at h
  generalize all.getD k ([], 0, (0, 0, []), 0) = x at h ⊢
  simp [h]
theorem normTo_len (k : Nat) : (normTo ar rs all k).length ≤ k := by
  unfold normTo
  rw [List.length_map]
  have h1 := List.length_filter_le (fun x : FoundV => normalL ar rs x.1) (all.take k)
  rw [List.length_take] at h1
  omega
theorem normTo_mem {x : List Int} (h : x ∈ normTo ar rs all k) : x ∈ terms all := by
  unfold normTo at h
  obtain ⟨y, hy, rfl⟩ := List.mem_map.1 h
  exact List.mem_map.2 ⟨y, List.mem_of_mem_take (List.mem_filter.1 hy).1, rfl⟩
theorem normsF_len : (normsF ar rs t n).length ≤ 60 ∧ ∀ i, ((normsF ar rs t n).getD i []).length ≤ 60 := by
  have h1 := reachF_len (ar := ar) (rs := rs) (t := t) (n := n)
  rw [terms_len] at h1
  refine ⟨Nat.le_trans (normTo_len _) h1.1, fun i => ?_⟩
  rcases Nat.lt_or_ge i (normsF ar rs t n).length with hi | hi
  · have hm : (normsF ar rs t n).getD i [] ∈ normsF ar rs t n := by simp [List.getD, hi]
    have := normTo_mem hm
    obtain ⟨j, hj, he⟩ := List.getElem_of_mem this
    have h2 := h1.2 j
    rw [← he]
    simpa [List.getD, hj] using h2
  · rw [List.getD_eq_getElem?_getD, List.getElem?_eq_none hi]; simp
end
end Go.Proofs.Ytiaanelimbmniaa.M
