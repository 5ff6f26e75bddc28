/-
  Walks: the strategies' walks.
-/
import Derived.Test.YtnloeeaidknblaaQmFl
import Derived.Test.YtnloeeaidknblaaP5
set_option linter.unusedSimpArgs false
set_option linter.unusedVariables false
namespace Go.Proofs.Ytnloeeaidknblaa
open Go X M
end Go.Proofs.Ytnloeeaidknblaa
