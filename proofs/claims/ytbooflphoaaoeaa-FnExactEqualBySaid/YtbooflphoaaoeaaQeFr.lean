/-
  Walks: the statements' own helpers: marks.
-/
import Derived.Test.YtbooflphoaaoeaaQeFp
import Derived.Test.YtbooflphoaaoeaaP8
set_option linter.unusedSimpArgs false
set_option linter.unusedVariables false
namespace Go.Proofs.Ytbooflphoaaoeaa
open Go X M
end Go.Proofs.Ytbooflphoaaoeaa
