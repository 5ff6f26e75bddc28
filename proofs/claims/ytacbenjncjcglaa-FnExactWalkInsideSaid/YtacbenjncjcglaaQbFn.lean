/-
  Walks: the reference's strategies.
-/
import Derived.Test.YtacbenjncjcglaaQbFm
import Derived.Test.YtacbenjncjcglaaP6
set_option linter.unusedSimpArgs false
set_option linter.unusedVariables false
namespace Go.Proofs.Ytacbenjncjcglaa
open Go X M
end Go.Proofs.Ytacbenjncjcglaa
