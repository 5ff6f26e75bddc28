/-
  Walks: picking, as the program and as the reference does it.
-/
import Derived.Test.YtacbenjncjcglaaGreatQhFj
set_option linter.unusedSimpArgs false
set_option linter.unusedVariables false
namespace Go.Proofs.YtacbenjncjcglaaGreat
open Go X M
end Go.Proofs.YtacbenjncjcglaaGreat
