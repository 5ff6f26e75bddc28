/-
  Walks: substitutions that are right, loops; the statements LoopOk, CycleIn.
-/
import Derived.Test.YtnloeeaidknblaaQmFt
import Derived.Test.YtnloeeaidknblaaP11
set_option linter.unusedSimpArgs false
set_option linter.unusedVariables false
namespace Go.Proofs.Ytnloeeaidknblaa
open Go X M
end Go.Proofs.Ytnloeeaidknblaa
