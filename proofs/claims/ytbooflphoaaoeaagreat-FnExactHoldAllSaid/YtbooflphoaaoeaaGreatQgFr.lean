/-
  Walks: the statements' own helpers: marks.
-/
import Derived.Test.YtbooflphoaaoeaaGreatQgFp
import Derived.Test.YtbooflphoaaoeaaGreatP8
set_option linter.unusedSimpArgs false
set_option linter.unusedVariables false
namespace Go.Proofs.YtbooflphoaaoeaaGreat
open Go X M
end Go.Proofs.YtbooflphoaaoeaaGreat
