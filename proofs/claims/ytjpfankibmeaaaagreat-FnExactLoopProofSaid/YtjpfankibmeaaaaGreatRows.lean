/-
  No cell of these rows narrows 'for every input' (looked for: loops, veiled, ifaces, maps, wideKeys, modest, calm, conditions, laid).
  DERIVED. THE GIVEN ROWS OF THIS SEAT. 6 by the template 'for every input the law returns true; each argument reads behind the call as it read before'; 0 by the template 'total and deterministic' (their statements: YtjpfankibmeaaaaGreatTotals.lean).
  GIVEN WITH THE SEED: the statements are not yours to turn. If you find one false, say at which input.
  Laid BY PROGRAM, IN A SANDBOX (cutbox-rows.mjs): the forced cells as the released guide's own fill.sh prints them over the translation b876626ce276a5bc… (all of the seat's roots in one cut). By AI agents, Wed Nov 11 2026. No macro, syntax, notation, axiom, sorry.
-/
import Derived.Test.YtjpfankibmeaaaaGreatChecked
import GoSem.Claim
import GoSem.ClaimJoined
import GoSem.ClaimMapViews
import Derived.JoinedTies
import Derived.KernelRfl
namespace Go.Proofs.YtjpfankibmeaaaaGreat
/- THE CELL 'sum', in the pinned program and in every row, IS THE sha256 OF THE DUMP (.gsa) THAT YtjpfankibmeaaaaGreatProg.lean LOADS. Nothing in Lean hashes anything: it is a label: what it is worth is what the hold of that sum in a sandbox is worth. -/
noncomputable def Tryz.pinned : Pinned := { name := "ytjpfankibmeaaaagreat", sum := "b876626ce276a5bc33095d8e615d86a259dc7d4a9fcde5a0b9fc9c0929f2b3b7", checked := Tryz.checked }
namespace Rows
def none {H : Type} : Left H := { results := [], args := [] }

/-- 'laws.FnExactBoundedWalk': WHATEVER THE INPUT: true; the input reads as it did. -/
def fnExactBoundedWalkSpec : ChangeSpec := { name := "fnExactBoundedWalk", fn := fun _ => fun
  | [d1, d2, d3] => { results := [.lit (.bool true)], args := [d1, d2, d3] }
  | _ => none }
def fnExactBoundedWalkRow : OpenClaim := { program := "ytjpfankibmeaaaagreat", sum := "b876626ce276a5bc33095d8e615d86a259dc7d4a9fcde5a0b9fc9c0929f2b3b7", func := "loop.example/g00895/laws.FnExactBoundedWalk", spec := "fnExactBoundedWalk", unfollowed := true, recurses := true, apart := false }
def FnExactBoundedWalkSaid : Prop := fnExactBoundedWalkRow.holds Tryz.pinned (OpenSpec.ofChange fnExactBoundedWalkSpec)

/-- ITS FALSE NEIGHBOUR: 'it returns false'. Refute it at one input. -/
def fnExactBoundedWalkWrong : ChangeSpec := { name := "fnExactBoundedWalk", fn := fun _ => fun
  | [d1, d2, d3] => { results := [.lit (.bool false)], args := [d1, d2, d3] }
  | _ => none }
def FnExactBoundedWalkWrongFalsely : Prop := fnExactBoundedWalkRow.holds Tryz.pinned (OpenSpec.ofChange fnExactBoundedWalkWrong)

/-- 'laws.FnExactLoopProof': WHATEVER THE INPUT: true; the input reads as it did. -/
def fnExactLoopProofSpec : ChangeSpec := { name := "fnExactLoopProof", fn := fun _ => fun
  | [d1, d2] => { results := [.lit (.bool true)], args := [d1, d2] }
  | _ => none }
def fnExactLoopProofRow : OpenClaim := { program := "ytjpfankibmeaaaagreat", sum := "b876626ce276a5bc33095d8e615d86a259dc7d4a9fcde5a0b9fc9c0929f2b3b7", func := "loop.example/g00895/laws.FnExactLoopProof", spec := "fnExactLoopProof", unfollowed := true, recurses := true, apart := false }
def FnExactLoopProofSaid : Prop := fnExactLoopProofRow.holds Tryz.pinned (OpenSpec.ofChange fnExactLoopProofSpec)

/-- ITS FALSE NEIGHBOUR: 'it returns false'. Refute it at one input. -/
def fnExactLoopProofWrong : ChangeSpec := { name := "fnExactLoopProof", fn := fun _ => fun
  | [d1, d2] => { results := [.lit (.bool false)], args := [d1, d2] }
  | _ => none }
def FnExactLoopProofWrongFalsely : Prop := fnExactLoopProofRow.holds Tryz.pinned (OpenSpec.ofChange fnExactLoopProofWrong)

/-- 'laws.FnConditions': WHATEVER THE INPUT: true; the input reads as it did. -/
def fnConditionsSpec : ChangeSpec := { name := "fnConditions", fn := fun _ => fun
  | [d] => { results := [.lit (.bool true)], args := [d] }
  | _ => none }
def fnConditionsRow : OpenClaim := { program := "ytjpfankibmeaaaagreat", sum := "b876626ce276a5bc33095d8e615d86a259dc7d4a9fcde5a0b9fc9c0929f2b3b7", func := "loop.example/g00895/laws.FnConditions", spec := "fnConditions", unfollowed := true, recurses := true, apart := false }
def FnConditionsSaid : Prop := fnConditionsRow.holds Tryz.pinned (OpenSpec.ofChange fnConditionsSpec)

/-- ITS FALSE NEIGHBOUR: 'it returns false'. Refute it at one input. -/
def fnConditionsWrong : ChangeSpec := { name := "fnConditions", fn := fun _ => fun
  | [d] => { results := [.lit (.bool false)], args := [d] }
  | _ => none }
def FnConditionsWrongFalsely : Prop := fnConditionsRow.holds Tryz.pinned (OpenSpec.ofChange fnConditionsWrong)

/-- 'laws.FnWorkParts': WHATEVER THE INPUT: true; the input reads as it did. -/
def fnWorkPartsSpec : ChangeSpec := { name := "fnWorkParts", fn := fun _ => fun
  | [d] => { results := [.lit (.bool true)], args := [d] }
  | _ => none }
def fnWorkPartsRow : OpenClaim := { program := "ytjpfankibmeaaaagreat", sum := "b876626ce276a5bc33095d8e615d86a259dc7d4a9fcde5a0b9fc9c0929f2b3b7", func := "loop.example/g00895/laws.FnWorkParts", spec := "fnWorkParts", unfollowed := true, recurses := true, apart := false }
def FnWorkPartsSaid : Prop := fnWorkPartsRow.holds Tryz.pinned (OpenSpec.ofChange fnWorkPartsSpec)

/-- ITS FALSE NEIGHBOUR: 'it returns false'. Refute it at one input. -/
def fnWorkPartsWrong : ChangeSpec := { name := "fnWorkParts", fn := fun _ => fun
  | [d] => { results := [.lit (.bool false)], args := [d] }
  | _ => none }
def FnWorkPartsWrongFalsely : Prop := fnWorkPartsRow.holds Tryz.pinned (OpenSpec.ofChange fnWorkPartsWrong)

/-- 'laws.FnLongest': WHATEVER THE INPUT: true; the input reads as it did. -/
def fnLongestSpec : ChangeSpec := { name := "fnLongest", fn := fun _ => fun
  | [d] => { results := [.lit (.bool true)], args := [d] }
  | _ => none }
def fnLongestRow : OpenClaim := { program := "ytjpfankibmeaaaagreat", sum := "b876626ce276a5bc33095d8e615d86a259dc7d4a9fcde5a0b9fc9c0929f2b3b7", func := "loop.example/g00895/laws.FnLongest", spec := "fnLongest", inPlace := ["internal/abi.NoEscape"], unfollowed := true, recurses := true, apart := false }
def FnLongestSaid : Prop := fnLongestRow.holds Tryz.pinned (OpenSpec.ofChange fnLongestSpec)

/-- ITS FALSE NEIGHBOUR: 'it returns false'. Refute it at one input. -/
def fnLongestWrong : ChangeSpec := { name := "fnLongest", fn := fun _ => fun
  | [d] => { results := [.lit (.bool false)], args := [d] }
  | _ => none }
def FnLongestWrongFalsely : Prop := fnLongestRow.holds Tryz.pinned (OpenSpec.ofChange fnLongestWrong)

/-- 'laws.FnCalls': WHATEVER THE INPUT: true; the input reads as it did. -/
def fnCallsSpec : ChangeSpec := { name := "fnCalls", fn := fun _ => fun
  | [d] => { results := [.lit (.bool true)], args := [d] }
  | _ => none }
def fnCallsRow : OpenClaim := { program := "ytjpfankibmeaaaagreat", sum := "b876626ce276a5bc33095d8e615d86a259dc7d4a9fcde5a0b9fc9c0929f2b3b7", func := "loop.example/g00895/laws.FnCalls", spec := "fnCalls", unfollowed := true, recurses := true, apart := false }
def FnCallsSaid : Prop := fnCallsRow.holds Tryz.pinned (OpenSpec.ofChange fnCallsSpec)

/-- ITS FALSE NEIGHBOUR: 'it returns false'. Refute it at one input. -/
def fnCallsWrong : ChangeSpec := { name := "fnCalls", fn := fun _ => fun
  | [d] => { results := [.lit (.bool false)], args := [d] }
  | _ => none }
def FnCallsWrongFalsely : Prop := fnCallsRow.holds Tryz.pinned (OpenSpec.ofChange fnCallsWrong)

/- THE SECOND FORM. 'bulk': how many values and letters a reading holds, each counted each time it is reached (what is shared counts as often as it is met; a slice's spare places count too). A statement '..UptoSaid' is the law's where the arguments, and the package variables that the reading takes, are together of bulk at most 1048576: NARROWER than '..Said'. Prove '..Said' where nothing that the law and all that it calls make is longer than what came in: it says more and counts as full. Else prove '..UptoSaid'. A law counts once. -/
mutual
def uptoBulk {H : Type} : DataW H → Nat
  | .lit (.string bytes) => bytes.length + 1
  | .lit _ => 1
  | .nil => 1
  | .ptr d => uptoBulk d + 1
  | .slice elems spare => uptoBulkAll elems + uptoBulkAll spare + 1
  | .agg parts => uptoBulkAll parts + 1
  | .iface _ d => uptoBulk d + 1
  | .map entries => uptoBulkEntries entries + 1
  | .held _ => 1
def uptoBulkAll {H : Type} : List (DataW H) → Nat
  | [] => 0
  | d :: r => uptoBulk d + uptoBulkAll r
def uptoBulkEntries {H : Type} : List (Lit × DataW H) → Nat
  | [] => 0
  | x :: r => uptoBulkEntry x + uptoBulkEntries r
def uptoBulkEntry {H : Type} : Lit × DataW H → Nat
  | (.string bytes, d) => bytes.length + uptoBulk d + 1
  | (_, d) => uptoBulk d + 1
 end
def uptoSmall : (H : Type) → List (DataW H) → Bool := fun _ ds => decide (uptoBulkAll ds ≤ 1048576)
def OpenSpec.upto (s : _root_.Go.ChangeSpec) : _root_.Go.OpenSpec := { _root_.Go.OpenSpec.ofChange s with cond := some uptoSmall }

/-- 'laws.FnExactBoundedWalk', WHERE WHAT IT READS IS OF BULK AT MOST 1048576: true; the input reads as it did. -/
def fnExactBoundedWalkUptoRow : OpenClaim := { program := "ytjpfankibmeaaaagreat", sum := "b876626ce276a5bc33095d8e615d86a259dc7d4a9fcde5a0b9fc9c0929f2b3b7", func := "loop.example/g00895/laws.FnExactBoundedWalk", spec := "fnExactBoundedWalk", unfollowed := true, recurses := true, apart := false, narrowed := true }
def FnExactBoundedWalkUptoSaid : Prop := fnExactBoundedWalkUptoRow.holds Tryz.pinned (OpenSpec.upto fnExactBoundedWalkSpec)

/-- 'laws.FnExactLoopProof', WHERE WHAT IT READS IS OF BULK AT MOST 1048576: true; the input reads as it did. -/
def fnExactLoopProofUptoRow : OpenClaim := { program := "ytjpfankibmeaaaagreat", sum := "b876626ce276a5bc33095d8e615d86a259dc7d4a9fcde5a0b9fc9c0929f2b3b7", func := "loop.example/g00895/laws.FnExactLoopProof", spec := "fnExactLoopProof", unfollowed := true, recurses := true, apart := false, narrowed := true }
def FnExactLoopProofUptoSaid : Prop := fnExactLoopProofUptoRow.holds Tryz.pinned (OpenSpec.upto fnExactLoopProofSpec)

/-- 'laws.FnConditions', WHERE WHAT IT READS IS OF BULK AT MOST 1048576: true; the input reads as it did. -/
def fnConditionsUptoRow : OpenClaim := { program := "ytjpfankibmeaaaagreat", sum := "b876626ce276a5bc33095d8e615d86a259dc7d4a9fcde5a0b9fc9c0929f2b3b7", func := "loop.example/g00895/laws.FnConditions", spec := "fnConditions", unfollowed := true, recurses := true, apart := false, narrowed := true }
def FnConditionsUptoSaid : Prop := fnConditionsUptoRow.holds Tryz.pinned (OpenSpec.upto fnConditionsSpec)

/-- 'laws.FnWorkParts', WHERE WHAT IT READS IS OF BULK AT MOST 1048576: true; the input reads as it did. -/
def fnWorkPartsUptoRow : OpenClaim := { program := "ytjpfankibmeaaaagreat", sum := "b876626ce276a5bc33095d8e615d86a259dc7d4a9fcde5a0b9fc9c0929f2b3b7", func := "loop.example/g00895/laws.FnWorkParts", spec := "fnWorkParts", unfollowed := true, recurses := true, apart := false, narrowed := true }
def FnWorkPartsUptoSaid : Prop := fnWorkPartsUptoRow.holds Tryz.pinned (OpenSpec.upto fnWorkPartsSpec)

/-- 'laws.FnLongest', WHERE WHAT IT READS IS OF BULK AT MOST 1048576: true; the input reads as it did. -/
def fnLongestUptoRow : OpenClaim := { program := "ytjpfankibmeaaaagreat", sum := "b876626ce276a5bc33095d8e615d86a259dc7d4a9fcde5a0b9fc9c0929f2b3b7", func := "loop.example/g00895/laws.FnLongest", spec := "fnLongest", inPlace := ["internal/abi.NoEscape"], unfollowed := true, recurses := true, apart := false, narrowed := true }
def FnLongestUptoSaid : Prop := fnLongestUptoRow.holds Tryz.pinned (OpenSpec.upto fnLongestSpec)

/-- 'laws.FnCalls', WHERE WHAT IT READS IS OF BULK AT MOST 1048576: true; the input reads as it did. -/
def fnCallsUptoRow : OpenClaim := { program := "ytjpfankibmeaaaagreat", sum := "b876626ce276a5bc33095d8e615d86a259dc7d4a9fcde5a0b9fc9c0929f2b3b7", func := "loop.example/g00895/laws.FnCalls", spec := "fnCalls", unfollowed := true, recurses := true, apart := false, narrowed := true }
def FnCallsUptoSaid : Prop := fnCallsUptoRow.holds Tryz.pinned (OpenSpec.upto fnCallsSpec)

end Rows
end Go.Proofs.YtjpfankibmeaaaaGreat
