/-
  A walk that a loop over an iterator builds up.
-/
import Derived.Test.YtiaanelimbmniaaX18
import Derived.Test.YtiaanelimbmniaaX19
set_option linter.unusedSimpArgs false
set_option linter.unusedVariables false
namespace Go.Proofs.Ytiaanelimbmniaa.X
open Go

/-- the walk in the block bw, while the last k of the steps sg are still to come -/
def WJ (F0 : FH) (e ES T : TypeId) (bw : Nat) (fv : Value) (sg : List StepT) (tl : List HP) (k : Nat) (Fy : FH) (Ly : List HP) : Prop :=
  ∃ (sv : Value) (ss : List StepT) (cs : List Value) (Ls : List HP) (m : Nat), IsSl sv ∧ StepsC Fy cs ss ∧ m = ss.length ∧ DeepL 3 (StepO e) cs ss Ls ∧ Fresh F0 Fy (star Ls) ∧ ss = (sg.drop k).reverse ∧ Ly = cellsH bw [fv, sv] T :: slH ES 3 sv m cs :: tl
theorem WJ.start {F0 F : FH} {e ES T : TypeId} {bw : Nat} {fv : Value} {sg : List StepT} {tl : List HP} {b : Option Addr} : WJ F0 e ES T bw fv sg tl sg.length F (cellsH bw [fv, .slice b 0 0] T :: slH ES 3 (.slice b 0 0) 0 [] :: tl) :=
  ⟨_, [], [], [], 0, ⟨_, _, _, rfl⟩, CO.nil, rfl, .nil, .nilL, by simp, rfl⟩
end Go.Proofs.Ytiaanelimbmniaa.X
