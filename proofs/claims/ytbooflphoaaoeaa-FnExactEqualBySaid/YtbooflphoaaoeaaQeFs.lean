/-
  Walks: the statements' own helpers for steps; rewrite sequences.
-/
import Derived.Test.YtbooflphoaaoeaaQeFr
import Derived.Test.YtbooflphoaaoeaaP9
set_option linter.unusedSimpArgs false
set_option linter.unusedVariables false
namespace Go.Proofs.Ytbooflphoaaoeaa
open Go X M
end Go.Proofs.Ytbooflphoaaoeaa
