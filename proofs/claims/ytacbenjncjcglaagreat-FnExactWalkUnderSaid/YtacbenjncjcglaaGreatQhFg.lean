/-
  Walks: redexes.
-/
import Derived.Test.YtacbenjncjcglaaGreatQhFf
import Derived.Test.YtacbenjncjcglaaGreatP4
set_option linter.unusedSimpArgs false
set_option linter.unusedVariables false
namespace Go.Proofs.YtacbenjncjcglaaGreat
open Go X M
end Go.Proofs.YtacbenjncjcglaaGreat
