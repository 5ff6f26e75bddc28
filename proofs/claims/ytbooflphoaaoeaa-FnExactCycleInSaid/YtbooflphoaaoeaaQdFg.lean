/-
  Walks: redexes.
-/
import Derived.Test.YtbooflphoaaoeaaQdFf
import Derived.Test.YtbooflphoaaoeaaP4
set_option linter.unusedSimpArgs false
set_option linter.unusedVariables false
namespace Go.Proofs.Ytbooflphoaaoeaa
open Go X M
end Go.Proofs.Ytbooflphoaaoeaa
