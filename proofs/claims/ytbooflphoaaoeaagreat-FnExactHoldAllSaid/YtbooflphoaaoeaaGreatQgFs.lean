/-
  Walks: the statements' own helpers for steps; rewrite sequences.
-/
import Derived.Test.YtbooflphoaaoeaaGreatQgFr
import Derived.Test.YtbooflphoaaoeaaGreatP9
set_option linter.unusedSimpArgs false
set_option linter.unusedVariables false
namespace Go.Proofs.YtbooflphoaaoeaaGreat
open Go X M
end Go.Proofs.YtbooflphoaaoeaaGreat
