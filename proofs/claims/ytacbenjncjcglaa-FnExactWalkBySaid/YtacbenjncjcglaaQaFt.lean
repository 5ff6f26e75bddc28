/-
  Walks: rewrite sequences, of the program and of the reference.
-/
import Derived.Test.YtacbenjncjcglaaQaFs
set_option linter.unusedSimpArgs false
set_option linter.unusedVariables false
namespace Go.Proofs.Ytacbenjncjcglaa
open Go X M
end Go.Proofs.Ytacbenjncjcglaa
