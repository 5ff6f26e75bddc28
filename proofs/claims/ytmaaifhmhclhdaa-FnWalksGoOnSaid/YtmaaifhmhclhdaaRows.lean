/-
  No cell of these rows narrows 'for every input' (looked for: loops, veiled, ifaces, maps, wideKeys, modest, calm, conditions, laid).
  DERIVED. THE GIVEN ROWS OF THIS SEAT. 5 by the template 'for every input the law returns true; each argument reads behind the call as it read before'; 0 by the template 'total and deterministic' (their statements: YtmaaifhmhclhdaaTotals.lean).
  GIVEN WITH THE SEED: the statements are not yours to turn. If you find one false, say at which input.
  Laid BY PROGRAM, IN A SANDBOX (cutbox-rows.mjs): the forced cells as the released guide's own fill.sh prints them over the translation fbab0fff895c2903… (all of the seat's roots in one cut). By AI agents, Wed Nov 11 2026. No macro, syntax, notation, axiom, sorry.
-/
import Derived.Test.YtmaaifhmhclhdaaChecked
import GoSem.Claim
import GoSem.ClaimJoined
import GoSem.ClaimMapViews
import Derived.JoinedTies
import Derived.KernelRfl
namespace Go.Proofs.Ytmaaifhmhclhdaa
/- THE CELL 'sum', in the pinned program and in every row, IS THE sha256 OF THE DUMP (.gsa) THAT YtmaaifhmhclhdaaProg.lean LOADS. Nothing in Lean hashes anything: it is a label: what it is worth is what the hold of that sum in a sandbox is worth. -/
noncomputable def Try.pinned : Pinned := { name := "ytmaaifhmhclhdaa", sum := "fbab0fff895c290356f277b1f10e6a52557bc561e6f28c4503d8bc934fe4e79b", checked := Try.checked }
namespace Rows
def none {H : Type} : Left H := { results := [], args := [] }

/-- 'laws.FnRedexes': WHATEVER THE INPUT: true; the input reads as it did. -/
def fnRedexesSpec : ChangeSpec := { name := "fnRedexes", fn := fun _ => fun
  | [d] => { results := [.lit (.bool true)], args := [d] }
  | _ => none }
def fnRedexesRow : OpenClaim := { program := "ytmaaifhmhclhdaa", sum := "fbab0fff895c290356f277b1f10e6a52557bc561e6f28c4503d8bc934fe4e79b", func := "loop.example/g00895/laws.FnRedexes", spec := "fnRedexes", unfollowed := true, recurses := true, apart := false }
def FnRedexesSaid : Prop := fnRedexesRow.holds Try.pinned (OpenSpec.ofChange fnRedexesSpec)

/-- ITS FALSE NEIGHBOUR: 'it returns false'. Refute it at one input. -/
def fnRedexesWrong : ChangeSpec := { name := "fnRedexes", fn := fun _ => fun
  | [d] => { results := [.lit (.bool false)], args := [d] }
  | _ => none }
def FnRedexesWrongFalsely : Prop := fnRedexesRow.holds Try.pinned (OpenSpec.ofChange fnRedexesWrong)

/-- 'laws.FnWordClasses': WHATEVER THE INPUT: true; the input reads as it did. -/
def fnWordClassesSpec : ChangeSpec := { name := "fnWordClasses", fn := fun _ => fun
  | [d] => { results := [.lit (.bool true)], args := [d] }
  | _ => none }
def fnWordClassesRow : OpenClaim := { program := "ytmaaifhmhclhdaa", sum := "fbab0fff895c290356f277b1f10e6a52557bc561e6f28c4503d8bc934fe4e79b", func := "loop.example/g00895/laws.FnWordClasses", spec := "fnWordClasses", unfollowed := true, recurses := true, apart := false }
def FnWordClassesSaid : Prop := fnWordClassesRow.holds Try.pinned (OpenSpec.ofChange fnWordClassesSpec)

/-- ITS FALSE NEIGHBOUR: 'it returns false'. Refute it at one input. -/
def fnWordClassesWrong : ChangeSpec := { name := "fnWordClasses", fn := fun _ => fun
  | [d] => { results := [.lit (.bool false)], args := [d] }
  | _ => none }
def FnWordClassesWrongFalsely : Prop := fnWordClassesRow.holds Try.pinned (OpenSpec.ofChange fnWordClassesWrong)

/-- 'laws.FnSteps': WHATEVER THE INPUT: true; the input reads as it did. -/
def fnStepsSpec : ChangeSpec := { name := "fnSteps", fn := fun _ => fun
  | [d] => { results := [.lit (.bool true)], args := [d] }
  | _ => none }
def fnStepsRow : OpenClaim := { program := "ytmaaifhmhclhdaa", sum := "fbab0fff895c290356f277b1f10e6a52557bc561e6f28c4503d8bc934fe4e79b", func := "loop.example/g00895/laws.FnSteps", spec := "fnSteps", unfollowed := true, recurses := true, apart := false }
def FnStepsSaid : Prop := fnStepsRow.holds Try.pinned (OpenSpec.ofChange fnStepsSpec)

/-- ITS FALSE NEIGHBOUR: 'it returns false'. Refute it at one input. -/
def fnStepsWrong : ChangeSpec := { name := "fnSteps", fn := fun _ => fun
  | [d] => { results := [.lit (.bool false)], args := [d] }
  | _ => none }
def FnStepsWrongFalsely : Prop := fnStepsRow.holds Try.pinned (OpenSpec.ofChange fnStepsWrong)

/-- 'laws.FnSolutions': WHATEVER THE INPUT: true; the input reads as it did. -/
def fnSolutionsSpec : ChangeSpec := { name := "fnSolutions", fn := fun _ => fun
  | [d] => { results := [.lit (.bool true)], args := [d] }
  | _ => none }
def fnSolutionsRow : OpenClaim := { program := "ytmaaifhmhclhdaa", sum := "fbab0fff895c290356f277b1f10e6a52557bc561e6f28c4503d8bc934fe4e79b", func := "loop.example/g00895/laws.FnSolutions", spec := "fnSolutions", unfollowed := true, recurses := true, apart := false }
def FnSolutionsSaid : Prop := fnSolutionsRow.holds Try.pinned (OpenSpec.ofChange fnSolutionsSpec)

/-- ITS FALSE NEIGHBOUR: 'it returns false'. Refute it at one input. -/
def fnSolutionsWrong : ChangeSpec := { name := "fnSolutions", fn := fun _ => fun
  | [d] => { results := [.lit (.bool false)], args := [d] }
  | _ => none }
def FnSolutionsWrongFalsely : Prop := fnSolutionsRow.holds Try.pinned (OpenSpec.ofChange fnSolutionsWrong)

/-- 'laws.FnWalksGoOn': WHATEVER THE INPUT: true; the input reads as it did. -/
def fnWalksGoOnSpec : ChangeSpec := { name := "fnWalksGoOn", fn := fun _ => fun
  | [d] => { results := [.lit (.bool true)], args := [d] }
  | _ => none }
def fnWalksGoOnRow : OpenClaim := { program := "ytmaaifhmhclhdaa", sum := "fbab0fff895c290356f277b1f10e6a52557bc561e6f28c4503d8bc934fe4e79b", func := "loop.example/g00895/laws.FnWalksGoOn", spec := "fnWalksGoOn", unfollowed := true, recurses := true, apart := false }
def FnWalksGoOnSaid : Prop := fnWalksGoOnRow.holds Try.pinned (OpenSpec.ofChange fnWalksGoOnSpec)

/-- ITS FALSE NEIGHBOUR: 'it returns false'. Refute it at one input. -/
def fnWalksGoOnWrong : ChangeSpec := { name := "fnWalksGoOn", fn := fun _ => fun
  | [d] => { results := [.lit (.bool false)], args := [d] }
  | _ => none }
def FnWalksGoOnWrongFalsely : Prop := fnWalksGoOnRow.holds Try.pinned (OpenSpec.ofChange fnWalksGoOnWrong)

/- THE SECOND FORM. 'bulk': how many values and letters a reading holds, each counted each time it is reached (what is shared counts as often as it is met; a slice's spare places count too). A statement '..UptoSaid' is the law's where the arguments, and the package variables that the reading takes, are together of bulk at most 1048576: NARROWER than '..Said'. Prove '..Said' where nothing that the law and all that it calls make is longer than what came in: it says more and counts as full. Else prove '..UptoSaid'. A law counts once. -/
mutual
def uptoBulk {H : Type} : DataW H → Nat
  | .lit (.string bytes) => bytes.length + 1
  | .lit _ => 1
  | .nil => 1
  | .ptr d => uptoBulk d + 1
  | .slice elems spare => uptoBulkAll elems + uptoBulkAll spare + 1
  | .agg parts => uptoBulkAll parts + 1
  | .iface _ d => uptoBulk d + 1
  | .map entries => uptoBulkEntries entries + 1
  | .held _ => 1
def uptoBulkAll {H : Type} : List (DataW H) → Nat
  | [] => 0
  | d :: r => uptoBulk d + uptoBulkAll r
def uptoBulkEntries {H : Type} : List (Lit × DataW H) → Nat
  | [] => 0
  | x :: r => uptoBulkEntry x + uptoBulkEntries r
def uptoBulkEntry {H : Type} : Lit × DataW H → Nat
  | (.string bytes, d) => bytes.length + uptoBulk d + 1
  | (_, d) => uptoBulk d + 1
 end
def uptoSmall : (H : Type) → List (DataW H) → Bool := fun _ ds => decide (uptoBulkAll ds ≤ 1048576)
def OpenSpec.upto (s : _root_.Go.ChangeSpec) : _root_.Go.OpenSpec := { _root_.Go.OpenSpec.ofChange s with cond := some uptoSmall }

/-- 'laws.FnRedexes', WHERE WHAT IT READS IS OF BULK AT MOST 1048576: true; the input reads as it did. -/
def fnRedexesUptoRow : OpenClaim := { program := "ytmaaifhmhclhdaa", sum := "fbab0fff895c290356f277b1f10e6a52557bc561e6f28c4503d8bc934fe4e79b", func := "loop.example/g00895/laws.FnRedexes", spec := "fnRedexes", unfollowed := true, recurses := true, apart := false, narrowed := true }
def FnRedexesUptoSaid : Prop := fnRedexesUptoRow.holds Try.pinned (OpenSpec.upto fnRedexesSpec)

/-- 'laws.FnWordClasses', WHERE WHAT IT READS IS OF BULK AT MOST 1048576: true; the input reads as it did. -/
def fnWordClassesUptoRow : OpenClaim := { program := "ytmaaifhmhclhdaa", sum := "fbab0fff895c290356f277b1f10e6a52557bc561e6f28c4503d8bc934fe4e79b", func := "loop.example/g00895/laws.FnWordClasses", spec := "fnWordClasses", unfollowed := true, recurses := true, apart := false, narrowed := true }
def FnWordClassesUptoSaid : Prop := fnWordClassesUptoRow.holds Try.pinned (OpenSpec.upto fnWordClassesSpec)

/-- 'laws.FnSteps', WHERE WHAT IT READS IS OF BULK AT MOST 1048576: true; the input reads as it did. -/
def fnStepsUptoRow : OpenClaim := { program := "ytmaaifhmhclhdaa", sum := "fbab0fff895c290356f277b1f10e6a52557bc561e6f28c4503d8bc934fe4e79b", func := "loop.example/g00895/laws.FnSteps", spec := "fnSteps", unfollowed := true, recurses := true, apart := false, narrowed := true }
def FnStepsUptoSaid : Prop := fnStepsUptoRow.holds Try.pinned (OpenSpec.upto fnStepsSpec)

/-- 'laws.FnSolutions', WHERE WHAT IT READS IS OF BULK AT MOST 1048576: true; the input reads as it did. -/
def fnSolutionsUptoRow : OpenClaim := { program := "ytmaaifhmhclhdaa", sum := "fbab0fff895c290356f277b1f10e6a52557bc561e6f28c4503d8bc934fe4e79b", func := "loop.example/g00895/laws.FnSolutions", spec := "fnSolutions", unfollowed := true, recurses := true, apart := false, narrowed := true }
def FnSolutionsUptoSaid : Prop := fnSolutionsUptoRow.holds Try.pinned (OpenSpec.upto fnSolutionsSpec)

/-- 'laws.FnWalksGoOn', WHERE WHAT IT READS IS OF BULK AT MOST 1048576: true; the input reads as it did. -/
def fnWalksGoOnUptoRow : OpenClaim := { program := "ytmaaifhmhclhdaa", sum := "fbab0fff895c290356f277b1f10e6a52557bc561e6f28c4503d8bc934fe4e79b", func := "loop.example/g00895/laws.FnWalksGoOn", spec := "fnWalksGoOn", unfollowed := true, recurses := true, apart := false, narrowed := true }
def FnWalksGoOnUptoSaid : Prop := fnWalksGoOnUptoRow.holds Try.pinned (OpenSpec.upto fnWalksGoOnSpec)

end Rows
end Go.Proofs.Ytmaaifhmhclhdaa
