/-
  Walks: the strategies' walks.
-/
import Derived.Test.YtbooflphoaaoeaaQdFl
import Derived.Test.YtbooflphoaaoeaaP5
set_option linter.unusedSimpArgs false
set_option linter.unusedVariables false
namespace Go.Proofs.Ytbooflphoaaoeaa
open Go X M
end Go.Proofs.Ytbooflphoaaoeaa
