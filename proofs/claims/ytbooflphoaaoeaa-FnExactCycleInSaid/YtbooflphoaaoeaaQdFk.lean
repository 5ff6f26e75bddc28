/-
  Walks: picking, as the program and as the reference does it.
-/
import Derived.Test.YtbooflphoaaoeaaQdFj
set_option linter.unusedSimpArgs false
set_option linter.unusedVariables false
namespace Go.Proofs.Ytbooflphoaaoeaa
open Go X M
end Go.Proofs.Ytbooflphoaaoeaa
