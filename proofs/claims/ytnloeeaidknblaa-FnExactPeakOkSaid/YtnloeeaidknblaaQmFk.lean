/-
  Walks: picking, as the program and as the reference does it.
-/
import Derived.Test.YtnloeeaidknblaaQmFj
set_option linter.unusedSimpArgs false
set_option linter.unusedVariables false
namespace Go.Proofs.Ytnloeeaidknblaa
open Go X M
end Go.Proofs.Ytnloeeaidknblaa
