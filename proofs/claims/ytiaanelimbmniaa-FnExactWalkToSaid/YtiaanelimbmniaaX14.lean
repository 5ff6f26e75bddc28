/-
  Parts of a frozen block.
-/
import Derived.Test.YtiaanelimbmniaaX13
set_option linter.unusedSimpArgs false
set_option linter.unusedVariables false
namespace Go.Proofs.Ytiaanelimbmniaa.X
open Go
theorem FzC.rdN {F : FH} {L : List HP} {b o : Nat} {cs vs : List Value} (h : FzC F b cs) (hv : (cs.drop o).take vs.length = vs) : ∀ i u, vs[i]? = some u → Rd F L ((⟨b, o, none⟩ : Addr).add i) u := by
  intro i u hu
  rw [add_lit]
  refine Rd.fz (h (o + i) u ?_)
  rw [← hv, List.getElem?_take] at hu
  split at hu
  · rwa [List.getElem?_drop] at hu
  · cases hu
end Go.Proofs.Ytiaanelimbmniaa.X
