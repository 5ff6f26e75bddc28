/-
  No cell of these rows narrows 'for every input' (looked for: loops, veiled, ifaces, maps, wideKeys, modest, calm, conditions, laid).
  DERIVED. THE GIVEN ROWS OF THIS SEAT. 8 by the template 'for every input the law returns true; each argument reads behind the call as it read before'; 0 by the template 'total and deterministic' (their statements: YtnloeeaidknblaaTotals.lean).
  GIVEN WITH THE SEED: the statements are not yours to turn. If you find one false, say at which input.
  Laid BY PROGRAM, IN A SANDBOX (cutbox-rows.mjs): the forced cells as the released guide's own fill.sh prints them over the translation 9f15460810f669d8… (all of the seat's roots in one cut). By AI agents, Wed Nov 11 2026. No macro, syntax, notation, axiom, sorry.
-/
import Derived.Test.YtnloeeaidknblaaChecked
import GoSem.Claim
import GoSem.ClaimJoined
import GoSem.ClaimMapViews
import Derived.JoinedTies
import Derived.KernelRfl
namespace Go.Proofs.Ytnloeeaidknblaa
/- THE CELL 'sum', in the pinned program and in every row, IS THE sha256 OF THE DUMP (.gsa) THAT YtnloeeaidknblaaProg.lean LOADS. Nothing in Lean hashes anything: it is a label: what it is worth is what the hold of that sum in a sandbox is worth. -/
noncomputable def Try.pinned : Pinned := { name := "ytnloeeaidknblaa", sum := "9f15460810f669d8aa4ed41f0cc5faa71bd45431f626a246ea75dace60e1dfd0", checked := Try.checked }
namespace Rows
def none {H : Type} : Left H := { results := [], args := [] }

/-- 'laws.FnExactPeakOk': WHATEVER THE INPUT: true; the input reads as it did. -/
def fnExactPeakOkSpec : ChangeSpec := { name := "fnExactPeakOk", fn := fun _ => fun
  | [d1, d2] => { results := [.lit (.bool true)], args := [d1, d2] }
  | _ => none }
def fnExactPeakOkRow : OpenClaim := { program := "ytnloeeaidknblaa", sum := "9f15460810f669d8aa4ed41f0cc5faa71bd45431f626a246ea75dace60e1dfd0", func := "loop.example/g00895/laws.FnExactPeakOk", spec := "fnExactPeakOk", unfollowed := true, recurses := true, apart := false }
def FnExactPeakOkSaid : Prop := fnExactPeakOkRow.holds Try.pinned (OpenSpec.ofChange fnExactPeakOkSpec)

/-- ITS FALSE NEIGHBOUR: 'it returns false'. Refute it at one input. -/
def fnExactPeakOkWrong : ChangeSpec := { name := "fnExactPeakOk", fn := fun _ => fun
  | [d1, d2] => { results := [.lit (.bool false)], args := [d1, d2] }
  | _ => none }
def FnExactPeakOkWrongFalsely : Prop := fnExactPeakOkRow.holds Try.pinned (OpenSpec.ofChange fnExactPeakOkWrong)

/-- 'laws.FnExactJoinsIn': WHATEVER THE INPUT: true; the input reads as it did. -/
def fnExactJoinsInSpec : ChangeSpec := { name := "fnExactJoinsIn", fn := fun _ => fun
  | [d1, d2, d3, d4] => { results := [.lit (.bool true)], args := [d1, d2, d3, d4] }
  | _ => none }
def fnExactJoinsInRow : OpenClaim := { program := "ytnloeeaidknblaa", sum := "9f15460810f669d8aa4ed41f0cc5faa71bd45431f626a246ea75dace60e1dfd0", func := "loop.example/g00895/laws.FnExactJoinsIn", spec := "fnExactJoinsIn", unfollowed := true, recurses := true, apart := false }
def FnExactJoinsInSaid : Prop := fnExactJoinsInRow.holds Try.pinned (OpenSpec.ofChange fnExactJoinsInSpec)

/-- ITS FALSE NEIGHBOUR: 'it returns false'. Refute it at one input. -/
def fnExactJoinsInWrong : ChangeSpec := { name := "fnExactJoinsIn", fn := fun _ => fun
  | [d1, d2, d3, d4] => { results := [.lit (.bool false)], args := [d1, d2, d3, d4] }
  | _ => none }
def FnExactJoinsInWrongFalsely : Prop := fnExactJoinsInRow.holds Try.pinned (OpenSpec.ofChange fnExactJoinsInWrong)

/-- 'laws.FnExactReachOf': WHATEVER THE INPUT: true; the input reads as it did. -/
def fnExactReachOfSpec : ChangeSpec := { name := "fnExactReachOf", fn := fun _ => fun
  | [d1, d2, d3] => { results := [.lit (.bool true)], args := [d1, d2, d3] }
  | _ => none }
def fnExactReachOfRow : OpenClaim := { program := "ytnloeeaidknblaa", sum := "9f15460810f669d8aa4ed41f0cc5faa71bd45431f626a246ea75dace60e1dfd0", func := "loop.example/g00895/laws.FnExactReachOf", spec := "fnExactReachOf", unfollowed := true, recurses := true, apart := false }
def FnExactReachOfSaid : Prop := fnExactReachOfRow.holds Try.pinned (OpenSpec.ofChange fnExactReachOfSpec)

/-- ITS FALSE NEIGHBOUR: 'it returns false'. Refute it at one input. -/
def fnExactReachOfWrong : ChangeSpec := { name := "fnExactReachOf", fn := fun _ => fun
  | [d1, d2, d3] => { results := [.lit (.bool false)], args := [d1, d2, d3] }
  | _ => none }
def FnExactReachOfWrongFalsely : Prop := fnExactReachOfRow.holds Try.pinned (OpenSpec.ofChange fnExactReachOfWrong)

/-- 'laws.FnExactCPickBy': WHATEVER THE INPUT: true; the input reads as it did. -/
def fnExactCPickBySpec : ChangeSpec := { name := "fnExactCPickBy", fn := fun _ => fun
  | [d1, d2, d3] => { results := [.lit (.bool true)], args := [d1, d2, d3] }
  | _ => none }
def fnExactCPickByRow : OpenClaim := { program := "ytnloeeaidknblaa", sum := "9f15460810f669d8aa4ed41f0cc5faa71bd45431f626a246ea75dace60e1dfd0", func := "loop.example/g00895/laws.FnExactCPickBy", spec := "fnExactCPickBy", unfollowed := true, recurses := true, apart := false }
def FnExactCPickBySaid : Prop := fnExactCPickByRow.holds Try.pinned (OpenSpec.ofChange fnExactCPickBySpec)

/-- ITS FALSE NEIGHBOUR: 'it returns false'. Refute it at one input. -/
def fnExactCPickByWrong : ChangeSpec := { name := "fnExactCPickBy", fn := fun _ => fun
  | [d1, d2, d3] => { results := [.lit (.bool false)], args := [d1, d2, d3] }
  | _ => none }
def FnExactCPickByWrongFalsely : Prop := fnExactCPickByRow.holds Try.pinned (OpenSpec.ofChange fnExactCPickByWrong)

/-- 'laws.FnExactJoinedWalk': WHATEVER THE INPUT: true; the input reads as it did. -/
def fnExactJoinedWalkSpec : ChangeSpec := { name := "fnExactJoinedWalk", fn := fun _ => fun
  | [d1, d2, d3] => { results := [.lit (.bool true)], args := [d1, d2, d3] }
  | _ => none }
def fnExactJoinedWalkRow : OpenClaim := { program := "ytnloeeaidknblaa", sum := "9f15460810f669d8aa4ed41f0cc5faa71bd45431f626a246ea75dace60e1dfd0", func := "loop.example/g00895/laws.FnExactJoinedWalk", spec := "fnExactJoinedWalk", unfollowed := true, recurses := true, apart := false }
def FnExactJoinedWalkSaid : Prop := fnExactJoinedWalkRow.holds Try.pinned (OpenSpec.ofChange fnExactJoinedWalkSpec)

/-- ITS FALSE NEIGHBOUR: 'it returns false'. Refute it at one input. -/
def fnExactJoinedWalkWrong : ChangeSpec := { name := "fnExactJoinedWalk", fn := fun _ => fun
  | [d1, d2, d3] => { results := [.lit (.bool false)], args := [d1, d2, d3] }
  | _ => none }
def FnExactJoinedWalkWrongFalsely : Prop := fnExactJoinedWalkRow.holds Try.pinned (OpenSpec.ofChange fnExactJoinedWalkWrong)

/-- 'laws.FnExactCStepAt': WHATEVER THE INPUT: true; the input reads as it did. -/
def fnExactCStepAtSpec : ChangeSpec := { name := "fnExactCStepAt", fn := fun _ => fun
  | [d1, d2, d3, d4, d5] => { results := [.lit (.bool true)], args := [d1, d2, d3, d4, d5] }
  | _ => none }
def fnExactCStepAtRow : OpenClaim := { program := "ytnloeeaidknblaa", sum := "9f15460810f669d8aa4ed41f0cc5faa71bd45431f626a246ea75dace60e1dfd0", func := "loop.example/g00895/laws.FnExactCStepAt", spec := "fnExactCStepAt", unfollowed := true, recurses := true, apart := false }
def FnExactCStepAtSaid : Prop := fnExactCStepAtRow.holds Try.pinned (OpenSpec.ofChange fnExactCStepAtSpec)

/-- ITS FALSE NEIGHBOUR: 'it returns false'. Refute it at one input. -/
def fnExactCStepAtWrong : ChangeSpec := { name := "fnExactCStepAt", fn := fun _ => fun
  | [d1, d2, d3, d4, d5] => { results := [.lit (.bool false)], args := [d1, d2, d3, d4, d5] }
  | _ => none }
def FnExactCStepAtWrongFalsely : Prop := fnExactCStepAtRow.holds Try.pinned (OpenSpec.ofChange fnExactCStepAtWrong)

/-- 'laws.FnExactCNormalBy': WHATEVER THE INPUT: true; the input reads as it did. -/
def fnExactCNormalBySpec : ChangeSpec := { name := "fnExactCNormalBy", fn := fun _ => fun
  | [d1, d2, d3] => { results := [.lit (.bool true)], args := [d1, d2, d3] }
  | _ => none }
def fnExactCNormalByRow : OpenClaim := { program := "ytnloeeaidknblaa", sum := "9f15460810f669d8aa4ed41f0cc5faa71bd45431f626a246ea75dace60e1dfd0", func := "loop.example/g00895/laws.FnExactCNormalBy", spec := "fnExactCNormalBy", unfollowed := true, recurses := true, apart := false }
def FnExactCNormalBySaid : Prop := fnExactCNormalByRow.holds Try.pinned (OpenSpec.ofChange fnExactCNormalBySpec)

/-- ITS FALSE NEIGHBOUR: 'it returns false'. Refute it at one input. -/
def fnExactCNormalByWrong : ChangeSpec := { name := "fnExactCNormalBy", fn := fun _ => fun
  | [d1, d2, d3] => { results := [.lit (.bool false)], args := [d1, d2, d3] }
  | _ => none }
def FnExactCNormalByWrongFalsely : Prop := fnExactCNormalByRow.holds Try.pinned (OpenSpec.ofChange fnExactCNormalByWrong)

/-- 'laws.FnExactChainOfWalk': WHATEVER THE INPUT: true; the input reads as it did. -/
def fnExactChainOfWalkSpec : ChangeSpec := { name := "fnExactChainOfWalk", fn := fun _ => fun
  | [d1, d2] => { results := [.lit (.bool true)], args := [d1, d2] }
  | _ => none }
def fnExactChainOfWalkRow : OpenClaim := { program := "ytnloeeaidknblaa", sum := "9f15460810f669d8aa4ed41f0cc5faa71bd45431f626a246ea75dace60e1dfd0", func := "loop.example/g00895/laws.FnExactChainOfWalk", spec := "fnExactChainOfWalk", unfollowed := true, recurses := true, apart := false }
def FnExactChainOfWalkSaid : Prop := fnExactChainOfWalkRow.holds Try.pinned (OpenSpec.ofChange fnExactChainOfWalkSpec)

/-- ITS FALSE NEIGHBOUR: 'it returns false'. Refute it at one input. -/
def fnExactChainOfWalkWrong : ChangeSpec := { name := "fnExactChainOfWalk", fn := fun _ => fun
  | [d1, d2] => { results := [.lit (.bool false)], args := [d1, d2] }
  | _ => none }
def FnExactChainOfWalkWrongFalsely : Prop := fnExactChainOfWalkRow.holds Try.pinned (OpenSpec.ofChange fnExactChainOfWalkWrong)

/- THE SECOND FORM. 'bulk': how many values and letters a reading holds, each counted each time it is reached (what is shared counts as often as it is met; a slice's spare places count too). A statement '..UptoSaid' is the law's where the arguments, and the package variables that the reading takes, are together of bulk at most 1048576: NARROWER than '..Said'. Prove '..Said' where nothing that the law and all that it calls make is longer than what came in: it says more and counts as full. Else prove '..UptoSaid'. A law counts once. -/
mutual
def uptoBulk {H : Type} : DataW H → Nat
  | .lit (.string bytes) => bytes.length + 1
  | .lit _ => 1
  | .nil => 1
  | .ptr d => uptoBulk d + 1
  | .slice elems spare => uptoBulkAll elems + uptoBulkAll spare + 1
  | .agg parts => uptoBulkAll parts + 1
  | .iface _ d => uptoBulk d + 1
  | .map entries => uptoBulkEntries entries + 1
  | .held _ => 1
def uptoBulkAll {H : Type} : List (DataW H) → Nat
  | [] => 0
  | d :: r => uptoBulk d + uptoBulkAll r
def uptoBulkEntries {H : Type} : List (Lit × DataW H) → Nat
  | [] => 0
  | x :: r => uptoBulkEntry x + uptoBulkEntries r
def uptoBulkEntry {H : Type} : Lit × DataW H → Nat
  | (.string bytes, d) => bytes.length + uptoBulk d + 1
  | (_, d) => uptoBulk d + 1
 end
def uptoSmall : (H : Type) → List (DataW H) → Bool := fun _ ds => decide (uptoBulkAll ds ≤ 1048576)
def OpenSpec.upto (s : _root_.Go.ChangeSpec) : _root_.Go.OpenSpec := { _root_.Go.OpenSpec.ofChange s with cond := some uptoSmall }

/-- 'laws.FnExactPeakOk', WHERE WHAT IT READS IS OF BULK AT MOST 1048576: true; the input reads as it did. -/
def fnExactPeakOkUptoRow : OpenClaim := { program := "ytnloeeaidknblaa", sum := "9f15460810f669d8aa4ed41f0cc5faa71bd45431f626a246ea75dace60e1dfd0", func := "loop.example/g00895/laws.FnExactPeakOk", spec := "fnExactPeakOk", unfollowed := true, recurses := true, apart := false, narrowed := true }
def FnExactPeakOkUptoSaid : Prop := fnExactPeakOkUptoRow.holds Try.pinned (OpenSpec.upto fnExactPeakOkSpec)

/-- 'laws.FnExactJoinsIn', WHERE WHAT IT READS IS OF BULK AT MOST 1048576: true; the input reads as it did. -/
def fnExactJoinsInUptoRow : OpenClaim := { program := "ytnloeeaidknblaa", sum := "9f15460810f669d8aa4ed41f0cc5faa71bd45431f626a246ea75dace60e1dfd0", func := "loop.example/g00895/laws.FnExactJoinsIn", spec := "fnExactJoinsIn", unfollowed := true, recurses := true, apart := false, narrowed := true }
def FnExactJoinsInUptoSaid : Prop := fnExactJoinsInUptoRow.holds Try.pinned (OpenSpec.upto fnExactJoinsInSpec)

/-- 'laws.FnExactReachOf', WHERE WHAT IT READS IS OF BULK AT MOST 1048576: true; the input reads as it did. -/
def fnExactReachOfUptoRow : OpenClaim := { program := "ytnloeeaidknblaa", sum := "9f15460810f669d8aa4ed41f0cc5faa71bd45431f626a246ea75dace60e1dfd0", func := "loop.example/g00895/laws.FnExactReachOf", spec := "fnExactReachOf", unfollowed := true, recurses := true, apart := false, narrowed := true }
def FnExactReachOfUptoSaid : Prop := fnExactReachOfUptoRow.holds Try.pinned (OpenSpec.upto fnExactReachOfSpec)

/-- 'laws.FnExactCPickBy', WHERE WHAT IT READS IS OF BULK AT MOST 1048576: true; the input reads as it did. -/
def fnExactCPickByUptoRow : OpenClaim := { program := "ytnloeeaidknblaa", sum := "9f15460810f669d8aa4ed41f0cc5faa71bd45431f626a246ea75dace60e1dfd0", func := "loop.example/g00895/laws.FnExactCPickBy", spec := "fnExactCPickBy", unfollowed := true, recurses := true, apart := false, narrowed := true }
def FnExactCPickByUptoSaid : Prop := fnExactCPickByUptoRow.holds Try.pinned (OpenSpec.upto fnExactCPickBySpec)

/-- 'laws.FnExactJoinedWalk', WHERE WHAT IT READS IS OF BULK AT MOST 1048576: true; the input reads as it did. -/
def fnExactJoinedWalkUptoRow : OpenClaim := { program := "ytnloeeaidknblaa", sum := "9f15460810f669d8aa4ed41f0cc5faa71bd45431f626a246ea75dace60e1dfd0", func := "loop.example/g00895/laws.FnExactJoinedWalk", spec := "fnExactJoinedWalk", unfollowed := true, recurses := true, apart := false, narrowed := true }
def FnExactJoinedWalkUptoSaid : Prop := fnExactJoinedWalkUptoRow.holds Try.pinned (OpenSpec.upto fnExactJoinedWalkSpec)

/-- 'laws.FnExactCStepAt', WHERE WHAT IT READS IS OF BULK AT MOST 1048576: true; the input reads as it did. -/
def fnExactCStepAtUptoRow : OpenClaim := { program := "ytnloeeaidknblaa", sum := "9f15460810f669d8aa4ed41f0cc5faa71bd45431f626a246ea75dace60e1dfd0", func := "loop.example/g00895/laws.FnExactCStepAt", spec := "fnExactCStepAt", unfollowed := true, recurses := true, apart := false, narrowed := true }
def FnExactCStepAtUptoSaid : Prop := fnExactCStepAtUptoRow.holds Try.pinned (OpenSpec.upto fnExactCStepAtSpec)

/-- 'laws.FnExactCNormalBy', WHERE WHAT IT READS IS OF BULK AT MOST 1048576: true; the input reads as it did. -/
def fnExactCNormalByUptoRow : OpenClaim := { program := "ytnloeeaidknblaa", sum := "9f15460810f669d8aa4ed41f0cc5faa71bd45431f626a246ea75dace60e1dfd0", func := "loop.example/g00895/laws.FnExactCNormalBy", spec := "fnExactCNormalBy", unfollowed := true, recurses := true, apart := false, narrowed := true }
def FnExactCNormalByUptoSaid : Prop := fnExactCNormalByUptoRow.holds Try.pinned (OpenSpec.upto fnExactCNormalBySpec)

/-- 'laws.FnExactChainOfWalk', WHERE WHAT IT READS IS OF BULK AT MOST 1048576: true; the input reads as it did. -/
def fnExactChainOfWalkUptoRow : OpenClaim := { program := "ytnloeeaidknblaa", sum := "9f15460810f669d8aa4ed41f0cc5faa71bd45431f626a246ea75dace60e1dfd0", func := "loop.example/g00895/laws.FnExactChainOfWalk", spec := "fnExactChainOfWalk", unfollowed := true, recurses := true, apart := false, narrowed := true }
def FnExactChainOfWalkUptoSaid : Prop := fnExactChainOfWalkUptoRow.holds Try.pinned (OpenSpec.upto fnExactChainOfWalkSpec)

end Rows
end Go.Proofs.Ytnloeeaidknblaa
