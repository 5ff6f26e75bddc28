/-
  No cell of these rows narrows 'for every input' (looked for: loops, veiled, ifaces, maps, wideKeys, modest, calm, conditions, laid).
  DERIVED. THE GIVEN ROWS OF THIS SEAT. 8 by the template 'for every input the law returns true; each argument reads behind the call as it read before'; 0 by the template 'total and deterministic' (their statements: YtcdjpapjjoldeaaTotals.lean).
  GIVEN WITH THE SEED: the statements are not yours to turn. If you find one false, say at which input.
  Laid BY PROGRAM, IN A SANDBOX (cutbox-rows.mjs): the forced cells as the released guide's own fill.sh prints them over the translation daffc4005892094e… (all of the seat's roots in one cut). By AI agents, Wed Nov 11 2026. No macro, syntax, notation, axiom, sorry.
-/
import Derived.Test.YtcdjpapjjoldeaaChecked
import GoSem.Claim
import GoSem.ClaimJoined
import GoSem.ClaimMapViews
import Derived.JoinedTies
import Derived.KernelRfl
namespace Go.Proofs.Ytcdjpapjjoldeaa
/- THE CELL 'sum', in the pinned program and in every row, IS THE sha256 OF THE DUMP (.gsa) THAT YtcdjpapjjoldeaaProg.lean LOADS. Nothing in Lean hashes anything: it is a label: what it is worth is what the hold of that sum in a sandbox is worth. -/
noncomputable def Try.pinned : Pinned := { name := "ytcdjpapjjoldeaa", sum := "daffc4005892094eede514fd49a37f622cbcc046dae3e88af12030396ee071ca", checked := Try.checked }
namespace Rows
def none {H : Type} : Left H := { results := [], args := [] }

/-- 'laws.FnWordClasses': WHATEVER THE INPUT: true; the input reads as it did. -/
def fnWordClassesSpec : ChangeSpec := { name := "fnWordClasses", fn := fun _ => fun
  | [d] => { results := [.lit (.bool true)], args := [d] }
  | _ => none }
def fnWordClassesRow : OpenClaim := { program := "ytcdjpapjjoldeaa", sum := "daffc4005892094eede514fd49a37f622cbcc046dae3e88af12030396ee071ca", func := "loop.example/g00895/laws.FnWordClasses", spec := "fnWordClasses", unfollowed := true, recurses := true, apart := false }
def FnWordClassesSaid : Prop := fnWordClassesRow.holds Try.pinned (OpenSpec.ofChange fnWordClassesSpec)

/-- ITS FALSE NEIGHBOUR: 'it returns false'. Refute it at one input. -/
def fnWordClassesWrong : ChangeSpec := { name := "fnWordClasses", fn := fun _ => fun
  | [d] => { results := [.lit (.bool false)], args := [d] }
  | _ => none }
def FnWordClassesWrongFalsely : Prop := fnWordClassesRow.holds Try.pinned (OpenSpec.ofChange fnWordClassesWrong)

/-- 'laws.FnMet': WHATEVER THE INPUT: true; the input reads as it did. -/
def fnMetSpec : ChangeSpec := { name := "fnMet", fn := fun _ => fun
  | [d] => { results := [.lit (.bool true)], args := [d] }
  | _ => none }
def fnMetRow : OpenClaim := { program := "ytcdjpapjjoldeaa", sum := "daffc4005892094eede514fd49a37f622cbcc046dae3e88af12030396ee071ca", func := "loop.example/g00895/laws.FnMet", spec := "fnMet", unfollowed := true, recurses := true, apart := false }
def FnMetSaid : Prop := fnMetRow.holds Try.pinned (OpenSpec.ofChange fnMetSpec)

/-- ITS FALSE NEIGHBOUR: 'it returns false'. Refute it at one input. -/
def fnMetWrong : ChangeSpec := { name := "fnMet", fn := fun _ => fun
  | [d] => { results := [.lit (.bool false)], args := [d] }
  | _ => none }
def FnMetWrongFalsely : Prop := fnMetRow.holds Try.pinned (OpenSpec.ofChange fnMetWrong)

/-- 'laws.FnExactOrthogonalIn': WHATEVER THE INPUT: true; the input reads as it did. -/
def fnExactOrthogonalInSpec : ChangeSpec := { name := "fnExactOrthogonalIn", fn := fun _ => fun
  | [d] => { results := [.lit (.bool true)], args := [d] }
  | _ => none }
def fnExactOrthogonalInRow : OpenClaim := { program := "ytcdjpapjjoldeaa", sum := "daffc4005892094eede514fd49a37f622cbcc046dae3e88af12030396ee071ca", func := "loop.example/g00895/laws.FnExactOrthogonalIn", spec := "fnExactOrthogonalIn", unfollowed := true, recurses := true, apart := false }
def FnExactOrthogonalInSaid : Prop := fnExactOrthogonalInRow.holds Try.pinned (OpenSpec.ofChange fnExactOrthogonalInSpec)

/-- ITS FALSE NEIGHBOUR: 'it returns false'. Refute it at one input. -/
def fnExactOrthogonalInWrong : ChangeSpec := { name := "fnExactOrthogonalIn", fn := fun _ => fun
  | [d] => { results := [.lit (.bool false)], args := [d] }
  | _ => none }
def FnExactOrthogonalInWrongFalsely : Prop := fnExactOrthogonalInRow.holds Try.pinned (OpenSpec.ofChange fnExactOrthogonalInWrong)

/-- 'laws.FnExactWeaklyIn': WHATEVER THE INPUT: true; the input reads as it did. -/
def fnExactWeaklyInSpec : ChangeSpec := { name := "fnExactWeaklyIn", fn := fun _ => fun
  | [d] => { results := [.lit (.bool true)], args := [d] }
  | _ => none }
def fnExactWeaklyInRow : OpenClaim := { program := "ytcdjpapjjoldeaa", sum := "daffc4005892094eede514fd49a37f622cbcc046dae3e88af12030396ee071ca", func := "loop.example/g00895/laws.FnExactWeaklyIn", spec := "fnExactWeaklyIn", unfollowed := true, recurses := true, apart := false }
def FnExactWeaklyInSaid : Prop := fnExactWeaklyInRow.holds Try.pinned (OpenSpec.ofChange fnExactWeaklyInSpec)

/-- ITS FALSE NEIGHBOUR: 'it returns false'. Refute it at one input. -/
def fnExactWeaklyInWrong : ChangeSpec := { name := "fnExactWeaklyIn", fn := fun _ => fun
  | [d] => { results := [.lit (.bool false)], args := [d] }
  | _ => none }
def FnExactWeaklyInWrongFalsely : Prop := fnExactWeaklyInRow.holds Try.pinned (OpenSpec.ofChange fnExactWeaklyInWrong)

/-- 'laws.FnExactPeaksOf': WHATEVER THE INPUT: true; the input reads as it did. -/
def fnExactPeaksOfSpec : ChangeSpec := { name := "fnExactPeaksOf", fn := fun _ => fun
  | [d] => { results := [.lit (.bool true)], args := [d] }
  | _ => none }
def fnExactPeaksOfRow : OpenClaim := { program := "ytcdjpapjjoldeaa", sum := "daffc4005892094eede514fd49a37f622cbcc046dae3e88af12030396ee071ca", func := "loop.example/g00895/laws.FnExactPeaksOf", spec := "fnExactPeaksOf", unfollowed := true, recurses := true, apart := false }
def FnExactPeaksOfSaid : Prop := fnExactPeaksOfRow.holds Try.pinned (OpenSpec.ofChange fnExactPeaksOfSpec)

/-- ITS FALSE NEIGHBOUR: 'it returns false'. Refute it at one input. -/
def fnExactPeaksOfWrong : ChangeSpec := { name := "fnExactPeaksOf", fn := fun _ => fun
  | [d] => { results := [.lit (.bool false)], args := [d] }
  | _ => none }
def FnExactPeaksOfWrongFalsely : Prop := fnExactPeaksOfRow.holds Try.pinned (OpenSpec.ofChange fnExactPeaksOfWrong)

/-- 'laws.FnExactRootPeaks': WHATEVER THE INPUT: true; the input reads as it did. -/
def fnExactRootPeaksSpec : ChangeSpec := { name := "fnExactRootPeaks", fn := fun _ => fun
  | [d] => { results := [.lit (.bool true)], args := [d] }
  | _ => none }
def fnExactRootPeaksRow : OpenClaim := { program := "ytcdjpapjjoldeaa", sum := "daffc4005892094eede514fd49a37f622cbcc046dae3e88af12030396ee071ca", func := "loop.example/g00895/laws.FnExactRootPeaks", spec := "fnExactRootPeaks", unfollowed := true, recurses := true, apart := false }
def FnExactRootPeaksSaid : Prop := fnExactRootPeaksRow.holds Try.pinned (OpenSpec.ofChange fnExactRootPeaksSpec)

/-- ITS FALSE NEIGHBOUR: 'it returns false'. Refute it at one input. -/
def fnExactRootPeaksWrong : ChangeSpec := { name := "fnExactRootPeaks", fn := fun _ => fun
  | [d] => { results := [.lit (.bool false)], args := [d] }
  | _ => none }
def FnExactRootPeaksWrongFalsely : Prop := fnExactRootPeaksRow.holds Try.pinned (OpenSpec.ofChange fnExactRootPeaksWrong)

/-- 'laws.FnPeakGeneral': WHATEVER THE INPUT: true; the input reads as it did. -/
def fnPeakGeneralSpec : ChangeSpec := { name := "fnPeakGeneral", fn := fun _ => fun
  | [d] => { results := [.lit (.bool true)], args := [d] }
  | _ => none }
def fnPeakGeneralRow : OpenClaim := { program := "ytcdjpapjjoldeaa", sum := "daffc4005892094eede514fd49a37f622cbcc046dae3e88af12030396ee071ca", func := "loop.example/g00895/laws.FnPeakGeneral", spec := "fnPeakGeneral", unfollowed := true, recurses := true, apart := false }
def FnPeakGeneralSaid : Prop := fnPeakGeneralRow.holds Try.pinned (OpenSpec.ofChange fnPeakGeneralSpec)

/-- ITS FALSE NEIGHBOUR: 'it returns false'. Refute it at one input. -/
def fnPeakGeneralWrong : ChangeSpec := { name := "fnPeakGeneral", fn := fun _ => fun
  | [d] => { results := [.lit (.bool false)], args := [d] }
  | _ => none }
def FnPeakGeneralWrongFalsely : Prop := fnPeakGeneralRow.holds Try.pinned (OpenSpec.ofChange fnPeakGeneralWrong)

/-- 'laws.FnPeakSteps': WHATEVER THE INPUT: true; the input reads as it did. -/
def fnPeakStepsSpec : ChangeSpec := { name := "fnPeakSteps", fn := fun _ => fun
  | [d] => { results := [.lit (.bool true)], args := [d] }
  | _ => none }
def fnPeakStepsRow : OpenClaim := { program := "ytcdjpapjjoldeaa", sum := "daffc4005892094eede514fd49a37f622cbcc046dae3e88af12030396ee071ca", func := "loop.example/g00895/laws.FnPeakSteps", spec := "fnPeakSteps", unfollowed := true, recurses := true, apart := false }
def FnPeakStepsSaid : Prop := fnPeakStepsRow.holds Try.pinned (OpenSpec.ofChange fnPeakStepsSpec)

/-- ITS FALSE NEIGHBOUR: 'it returns false'. Refute it at one input. -/
def fnPeakStepsWrong : ChangeSpec := { name := "fnPeakSteps", fn := fun _ => fun
  | [d] => { results := [.lit (.bool false)], args := [d] }
  | _ => none }
def FnPeakStepsWrongFalsely : Prop := fnPeakStepsRow.holds Try.pinned (OpenSpec.ofChange fnPeakStepsWrong)

/- THE SECOND FORM. 'bulk': how many values and letters a reading holds, each counted each time it is reached (what is shared counts as often as it is met; a slice's spare places count too). A statement '..UptoSaid' is the law's where the arguments, and the package variables that the reading takes, are together of bulk at most 1048576: NARROWER than '..Said'. Prove '..Said' where nothing that the law and all that it calls make is longer than what came in: it says more and counts as full. Else prove '..UptoSaid'. A law counts once. -/
mutual
def uptoBulk {H : Type} : DataW H → Nat
  | .lit (.string bytes) => bytes.length + 1
  | .lit _ => 1
  | .nil => 1
  | .ptr d => uptoBulk d + 1
  | .slice elems spare => uptoBulkAll elems + uptoBulkAll spare + 1
  | .agg parts => uptoBulkAll parts + 1
  | .iface _ d => uptoBulk d + 1
  | .map entries => uptoBulkEntries entries + 1
  | .held _ => 1
def uptoBulkAll {H : Type} : List (DataW H) → Nat
  | [] => 0
  | d :: r => uptoBulk d + uptoBulkAll r
def uptoBulkEntries {H : Type} : List (Lit × DataW H) → Nat
  | [] => 0
  | x :: r => uptoBulkEntry x + uptoBulkEntries r
def uptoBulkEntry {H : Type} : Lit × DataW H → Nat
  | (.string bytes, d) => bytes.length + uptoBulk d + 1
  | (_, d) => uptoBulk d + 1
 end
def uptoSmall : (H : Type) → List (DataW H) → Bool := fun _ ds => decide (uptoBulkAll ds ≤ 1048576)
def OpenSpec.upto (s : _root_.Go.ChangeSpec) : _root_.Go.OpenSpec := { _root_.Go.OpenSpec.ofChange s with cond := some uptoSmall }

/-- 'laws.FnWordClasses', WHERE WHAT IT READS IS OF BULK AT MOST 1048576: true; the input reads as it did. -/
def fnWordClassesUptoRow : OpenClaim := { program := "ytcdjpapjjoldeaa", sum := "daffc4005892094eede514fd49a37f622cbcc046dae3e88af12030396ee071ca", func := "loop.example/g00895/laws.FnWordClasses", spec := "fnWordClasses", unfollowed := true, recurses := true, apart := false, narrowed := true }
def FnWordClassesUptoSaid : Prop := fnWordClassesUptoRow.holds Try.pinned (OpenSpec.upto fnWordClassesSpec)

/-- 'laws.FnMet', WHERE WHAT IT READS IS OF BULK AT MOST 1048576: true; the input reads as it did. -/
def fnMetUptoRow : OpenClaim := { program := "ytcdjpapjjoldeaa", sum := "daffc4005892094eede514fd49a37f622cbcc046dae3e88af12030396ee071ca", func := "loop.example/g00895/laws.FnMet", spec := "fnMet", unfollowed := true, recurses := true, apart := false, narrowed := true }
def FnMetUptoSaid : Prop := fnMetUptoRow.holds Try.pinned (OpenSpec.upto fnMetSpec)

/-- 'laws.FnExactOrthogonalIn', WHERE WHAT IT READS IS OF BULK AT MOST 1048576: true; the input reads as it did. -/
def fnExactOrthogonalInUptoRow : OpenClaim := { program := "ytcdjpapjjoldeaa", sum := "daffc4005892094eede514fd49a37f622cbcc046dae3e88af12030396ee071ca", func := "loop.example/g00895/laws.FnExactOrthogonalIn", spec := "fnExactOrthogonalIn", unfollowed := true, recurses := true, apart := false, narrowed := true }
def FnExactOrthogonalInUptoSaid : Prop := fnExactOrthogonalInUptoRow.holds Try.pinned (OpenSpec.upto fnExactOrthogonalInSpec)

/-- 'laws.FnExactWeaklyIn', WHERE WHAT IT READS IS OF BULK AT MOST 1048576: true; the input reads as it did. -/
def fnExactWeaklyInUptoRow : OpenClaim := { program := "ytcdjpapjjoldeaa", sum := "daffc4005892094eede514fd49a37f622cbcc046dae3e88af12030396ee071ca", func := "loop.example/g00895/laws.FnExactWeaklyIn", spec := "fnExactWeaklyIn", unfollowed := true, recurses := true, apart := false, narrowed := true }
def FnExactWeaklyInUptoSaid : Prop := fnExactWeaklyInUptoRow.holds Try.pinned (OpenSpec.upto fnExactWeaklyInSpec)

/-- 'laws.FnExactPeaksOf', WHERE WHAT IT READS IS OF BULK AT MOST 1048576: true; the input reads as it did. -/
def fnExactPeaksOfUptoRow : OpenClaim := { program := "ytcdjpapjjoldeaa", sum := "daffc4005892094eede514fd49a37f622cbcc046dae3e88af12030396ee071ca", func := "loop.example/g00895/laws.FnExactPeaksOf", spec := "fnExactPeaksOf", unfollowed := true, recurses := true, apart := false, narrowed := true }
def FnExactPeaksOfUptoSaid : Prop := fnExactPeaksOfUptoRow.holds Try.pinned (OpenSpec.upto fnExactPeaksOfSpec)

/-- 'laws.FnExactRootPeaks', WHERE WHAT IT READS IS OF BULK AT MOST 1048576: true; the input reads as it did. -/
def fnExactRootPeaksUptoRow : OpenClaim := { program := "ytcdjpapjjoldeaa", sum := "daffc4005892094eede514fd49a37f622cbcc046dae3e88af12030396ee071ca", func := "loop.example/g00895/laws.FnExactRootPeaks", spec := "fnExactRootPeaks", unfollowed := true, recurses := true, apart := false, narrowed := true }
def FnExactRootPeaksUptoSaid : Prop := fnExactRootPeaksUptoRow.holds Try.pinned (OpenSpec.upto fnExactRootPeaksSpec)

/-- 'laws.FnPeakGeneral', WHERE WHAT IT READS IS OF BULK AT MOST 1048576: true; the input reads as it did. -/
def fnPeakGeneralUptoRow : OpenClaim := { program := "ytcdjpapjjoldeaa", sum := "daffc4005892094eede514fd49a37f622cbcc046dae3e88af12030396ee071ca", func := "loop.example/g00895/laws.FnPeakGeneral", spec := "fnPeakGeneral", unfollowed := true, recurses := true, apart := false, narrowed := true }
def FnPeakGeneralUptoSaid : Prop := fnPeakGeneralUptoRow.holds Try.pinned (OpenSpec.upto fnPeakGeneralSpec)

/-- 'laws.FnPeakSteps', WHERE WHAT IT READS IS OF BULK AT MOST 1048576: true; the input reads as it did. -/
def fnPeakStepsUptoRow : OpenClaim := { program := "ytcdjpapjjoldeaa", sum := "daffc4005892094eede514fd49a37f622cbcc046dae3e88af12030396ee071ca", func := "loop.example/g00895/laws.FnPeakSteps", spec := "fnPeakSteps", unfollowed := true, recurses := true, apart := false, narrowed := true }
def FnPeakStepsUptoSaid : Prop := fnPeakStepsUptoRow.holds Try.pinned (OpenSpec.upto fnPeakStepsSpec)

end Rows
end Go.Proofs.Ytcdjpapjjoldeaa
