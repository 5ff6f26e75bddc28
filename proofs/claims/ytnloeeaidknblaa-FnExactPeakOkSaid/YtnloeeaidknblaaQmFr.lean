/-
  Walks: the statements' own helpers: marks.
-/
import Derived.Test.YtnloeeaidknblaaQmFp
import Derived.Test.YtnloeeaidknblaaP8
set_option linter.unusedSimpArgs false
set_option linter.unusedVariables false
namespace Go.Proofs.Ytnloeeaidknblaa
open Go X M
end Go.Proofs.Ytnloeeaidknblaa
