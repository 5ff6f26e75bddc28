/-
  Walks: the strategies' walks.
-/
import Derived.Test.YtacbenjncjcglaaGreatQhFl
import Derived.Test.YtacbenjncjcglaaGreatP5
set_option linter.unusedSimpArgs false
set_option linter.unusedVariables false
namespace Go.Proofs.YtacbenjncjcglaaGreat
open Go X M
end Go.Proofs.YtacbenjncjcglaaGreat
