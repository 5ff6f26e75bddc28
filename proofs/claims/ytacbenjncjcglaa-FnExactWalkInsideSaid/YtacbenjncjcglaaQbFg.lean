/-
  Walks: redexes.
-/
import Derived.Test.YtacbenjncjcglaaQbFf
import Derived.Test.YtacbenjncjcglaaP4
set_option linter.unusedSimpArgs false
set_option linter.unusedVariables false
namespace Go.Proofs.Ytacbenjncjcglaa
open Go X M
end Go.Proofs.Ytacbenjncjcglaa
