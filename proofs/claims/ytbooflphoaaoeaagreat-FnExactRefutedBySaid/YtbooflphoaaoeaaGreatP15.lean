/-
  Plain mathematics: two words that are refuted by their normal forms.
-/
import Derived.Test.YtbooflphoaaoeaaGreatP12
set_option linter.unusedSimpArgs false
set_option linter.unusedVariables false
namespace Go.Proofs.YtbooflphoaaoeaaGreat.M
section
variable {ar : List Int} {rs : Rules} {a b t : List Int} {n : Int}
def refW (ar : List Int) (rs : Rules) (a b t : List Int) (n : Int) : List Int × List (Int × Int × List Int) × Bool := if eqB ar rs a b n = 0 then walkB ar rs t 1 n else ([], [], false)
theorem refW_no (h : ¬ eqB ar rs a b n = 0) : refW ar rs a b t n = ([], [], false) := by rw [refW, if_neg h]
theorem refW_yes (h : eqB ar rs a b n = 0) : refW ar rs a b t n = walkB ar rs t 1 n := by rw [refW, if_pos h]
theorem refW_len : (refW ar rs a b t n).2.1.length ≤ 60 := by
  unfold refW; split
  · exact walkB_len
  · simp
theorem refW_bounds : (refW ar rs a b t n).1.length ≤ 60 ∧ (∀ i, i < (refW ar rs a b t n).2.1.length → ((refW ar rs a b t n).2.1.getD i (0, 0, [])).2.2.length ≤ 60) ∧ ((refW ar rs a b t n).2.1.flatMap flatStep).length ≤ 4000 := by
  unfold refW; split
  · exact walkB_bounds
  · exact ⟨by simp, fun i hi => by simp at hi, by simp⟩
theorem eqB_zero (h : eqB ar rs a b n = 0) : (walkB ar rs a 1 n).2.2 = true ∧ (walkB ar rs b 1 n).2.2 = true := by
  unfold eqB at h
  split at h
  · rename_i g
    have wa : wOk ar rs a 1 n = true := by simp [wOk, g.1.1, g.2]
    have wb : wOk ar rs b 1 n = true := by simp [wOk, g.1.2, g.2]
    rw [walkB_yes wa, walkB_yes wb]
    unfold eqN at h
    split at h
    · rename_i g2; exact g2
    · omega
  · omega
theorem eqB_right (h : eqB ar rs a b n = 0) : (rightB ar rs a = true ∧ rightB ar rs b = true) ∧ 0 ≤ n ∧ n ≤ 60 := by
  unfold eqB at h
  split at h
  · assumption
  · omega
theorem refW_go (h : eqB ar rs a b n = 0) : refW ar rs a b a n = (a, walkGo ar rs 1 n.toNat a) ∧ refW ar rs a b b n = (b, walkGo ar rs 1 n.toNat b) ∧ (walkGo ar rs 1 n.toNat a).2 = true ∧ (walkGo ar rs 1 n.toNat b).2 = true := by
  have g := eqB_right h
  have wa : wOk ar rs a 1 n = true := by simp [wOk, g.1.1, g.2]
  have wb : wOk ar rs b 1 n = true := by simp [wOk, g.1.2, g.2]
  have z := eqB_zero h
  rw [refW_yes h, refW_yes h]
  rw [walkB_yes wa, walkB_yes wb] at *
  exact ⟨rfl, rfl, z.1, z.2⟩
end
end Go.Proofs.YtbooflphoaaoeaaGreat.M
