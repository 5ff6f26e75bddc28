/-
  Walks: redexes.
-/
import Derived.Test.YtnloeeaidknblaaQmFf
import Derived.Test.YtnloeeaidknblaaP4
set_option linter.unusedSimpArgs false
set_option linter.unusedVariables false
namespace Go.Proofs.Ytnloeeaidknblaa
open Go X M
end Go.Proofs.Ytnloeeaidknblaa
