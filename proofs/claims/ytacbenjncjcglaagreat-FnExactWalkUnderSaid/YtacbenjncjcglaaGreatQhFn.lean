/-
  Walks: the reference's strategies.
-/
import Derived.Test.YtacbenjncjcglaaGreatQhFm
import Derived.Test.YtacbenjncjcglaaGreatP6
set_option linter.unusedSimpArgs false
set_option linter.unusedVariables false
namespace Go.Proofs.YtacbenjncjcglaaGreat
open Go X M
end Go.Proofs.YtacbenjncjcglaaGreat
