/-
  Walks: the reference's strategies.
-/
import Derived.Test.YtbooflphoaaoeaaQdFm
import Derived.Test.YtbooflphoaaoeaaP6
set_option linter.unusedSimpArgs false
set_option linter.unusedVariables false
namespace Go.Proofs.Ytbooflphoaaoeaa
open Go X M
end Go.Proofs.Ytbooflphoaaoeaa
