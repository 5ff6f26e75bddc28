/-
  Walks: the strategies' walks.
-/
import Derived.Test.YtacbenjncjcglaaQbFl
import Derived.Test.YtacbenjncjcglaaP5
set_option linter.unusedSimpArgs false
set_option linter.unusedVariables false
namespace Go.Proofs.Ytacbenjncjcglaa
open Go X M
end Go.Proofs.Ytacbenjncjcglaa
