/-
  Walks: the reference's strategies.
-/
import Derived.Test.YtnloeeaidknblaaQmFm
import Derived.Test.YtnloeeaidknblaaP6
set_option linter.unusedSimpArgs false
set_option linter.unusedVariables false
namespace Go.Proofs.Ytnloeeaidknblaa
open Go X M
end Go.Proofs.Ytnloeeaidknblaa
