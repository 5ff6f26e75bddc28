/-
  No cell of these rows narrows 'for every input' (looked for: loops, veiled, ifaces, maps, wideKeys, modest, calm, conditions, laid).
  DERIVED. THE GIVEN ROWS OF THIS SEAT. 4 by the template 'for every input the law returns true; each argument reads behind the call as it read before'; 0 by the template 'total and deterministic' (their statements: YtnloeeaidknblaaGreatTotals.lean).
  GIVEN WITH THE SEED: the statements are not yours to turn. If you find one false, say at which input.
  Laid BY PROGRAM, IN A SANDBOX (cutbox-rows.mjs): the forced cells as the released guide's own fill.sh prints them over the translation a6e923d5bb176514… (all of the seat's roots in one cut). By AI agents, Wed Nov 11 2026. No macro, syntax, notation, axiom, sorry.
-/
import Derived.Test.YtnloeeaidknblaaGreatChecked
import GoSem.Claim
import GoSem.ClaimJoined
import GoSem.ClaimMapViews
import Derived.JoinedTies
import Derived.KernelRfl
namespace Go.Proofs.YtnloeeaidknblaaGreat
/- THE CELL 'sum', in the pinned program and in every row, IS THE sha256 OF THE DUMP (.gsa) THAT YtnloeeaidknblaaGreatProg.lean LOADS. Nothing in Lean hashes anything: it is a label: what it is worth is what the hold of that sum in a sandbox is worth. -/
noncomputable def Tryz.pinned : Pinned := { name := "ytnloeeaidknblaagreat", sum := "a6e923d5bb1765143d66ce3be469b0ca325f668f587ca81df431e5287c937e74", checked := Tryz.checked }
namespace Rows
def none {H : Type} : Left H := { results := [], args := [] }

/-- 'laws.FnExactBoundedWalk': WHATEVER THE INPUT: true; the input reads as it did. -/
def fnExactBoundedWalkSpec : ChangeSpec := { name := "fnExactBoundedWalk", fn := fun _ => fun
  | [d1, d2, d3] => { results := [.lit (.bool true)], args := [d1, d2, d3] }
  | _ => none }
def fnExactBoundedWalkRow : OpenClaim := { program := "ytnloeeaidknblaagreat", sum := "a6e923d5bb1765143d66ce3be469b0ca325f668f587ca81df431e5287c937e74", func := "loop.example/g00895/laws.FnExactBoundedWalk", spec := "fnExactBoundedWalk", unfollowed := true, recurses := true, apart := false }
def FnExactBoundedWalkSaid : Prop := fnExactBoundedWalkRow.holds Tryz.pinned (OpenSpec.ofChange fnExactBoundedWalkSpec)

/-- ITS FALSE NEIGHBOUR: 'it returns false'. Refute it at one input. -/
def fnExactBoundedWalkWrong : ChangeSpec := { name := "fnExactBoundedWalk", fn := fun _ => fun
  | [d1, d2, d3] => { results := [.lit (.bool false)], args := [d1, d2, d3] }
  | _ => none }
def FnExactBoundedWalkWrongFalsely : Prop := fnExactBoundedWalkRow.holds Tryz.pinned (OpenSpec.ofChange fnExactBoundedWalkWrong)

/-- 'laws.FnExactCallBy': WHATEVER THE INPUT: true; the input reads as it did. -/
def fnExactCallBySpec : ChangeSpec := { name := "fnExactCallBy", fn := fun _ => fun
  | [d1, d2, d3] => { results := [.lit (.bool true)], args := [d1, d2, d3] }
  | _ => none }
def fnExactCallByRow : OpenClaim := { program := "ytnloeeaidknblaagreat", sum := "a6e923d5bb1765143d66ce3be469b0ca325f668f587ca81df431e5287c937e74", func := "loop.example/g00895/laws.FnExactCallBy", spec := "fnExactCallBy", unfollowed := true, recurses := true, apart := false }
def FnExactCallBySaid : Prop := fnExactCallByRow.holds Tryz.pinned (OpenSpec.ofChange fnExactCallBySpec)

/-- ITS FALSE NEIGHBOUR: 'it returns false'. Refute it at one input. -/
def fnExactCallByWrong : ChangeSpec := { name := "fnExactCallBy", fn := fun _ => fun
  | [d1, d2, d3] => { results := [.lit (.bool false)], args := [d1, d2, d3] }
  | _ => none }
def FnExactCallByWrongFalsely : Prop := fnExactCallByRow.holds Tryz.pinned (OpenSpec.ofChange fnExactCallByWrong)

/-- 'laws.FnExactPeakUnder': WHATEVER THE INPUT: true; the input reads as it did. -/
def fnExactPeakUnderSpec : ChangeSpec := { name := "fnExactPeakUnder", fn := fun _ => fun
  | [d1, d2, d3] => { results := [.lit (.bool true)], args := [d1, d2, d3] }
  | _ => none }
def fnExactPeakUnderRow : OpenClaim := { program := "ytnloeeaidknblaagreat", sum := "a6e923d5bb1765143d66ce3be469b0ca325f668f587ca81df431e5287c937e74", func := "loop.example/g00895/laws.FnExactPeakUnder", spec := "fnExactPeakUnder", unfollowed := true, recurses := true, apart := false }
def FnExactPeakUnderSaid : Prop := fnExactPeakUnderRow.holds Tryz.pinned (OpenSpec.ofChange fnExactPeakUnderSpec)

/-- ITS FALSE NEIGHBOUR: 'it returns false'. Refute it at one input. -/
def fnExactPeakUnderWrong : ChangeSpec := { name := "fnExactPeakUnder", fn := fun _ => fun
  | [d1, d2, d3] => { results := [.lit (.bool false)], args := [d1, d2, d3] }
  | _ => none }
def FnExactPeakUnderWrongFalsely : Prop := fnExactPeakUnderRow.holds Tryz.pinned (OpenSpec.ofChange fnExactPeakUnderWrong)

/-- 'laws.FnExactChainOfJoin': WHATEVER THE INPUT: true; the input reads as it did. -/
def fnExactChainOfJoinSpec : ChangeSpec := { name := "fnExactChainOfJoin", fn := fun _ => fun
  | [d1, d2, d3] => { results := [.lit (.bool true)], args := [d1, d2, d3] }
  | _ => none }
def fnExactChainOfJoinRow : OpenClaim := { program := "ytnloeeaidknblaagreat", sum := "a6e923d5bb1765143d66ce3be469b0ca325f668f587ca81df431e5287c937e74", func := "loop.example/g00895/laws.FnExactChainOfJoin", spec := "fnExactChainOfJoin", unfollowed := true, recurses := true, apart := false }
def FnExactChainOfJoinSaid : Prop := fnExactChainOfJoinRow.holds Tryz.pinned (OpenSpec.ofChange fnExactChainOfJoinSpec)

/-- ITS FALSE NEIGHBOUR: 'it returns false'. Refute it at one input. -/
def fnExactChainOfJoinWrong : ChangeSpec := { name := "fnExactChainOfJoin", fn := fun _ => fun
  | [d1, d2, d3] => { results := [.lit (.bool false)], args := [d1, d2, d3] }
  | _ => none }
def FnExactChainOfJoinWrongFalsely : Prop := fnExactChainOfJoinRow.holds Tryz.pinned (OpenSpec.ofChange fnExactChainOfJoinWrong)

/- THE SECOND FORM. 'bulk': how many values and letters a reading holds, each counted each time it is reached (what is shared counts as often as it is met; a slice's spare places count too). A statement '..UptoSaid' is the law's where the arguments, and the package variables that the reading takes, are together of bulk at most 1048576: NARROWER than '..Said'. Prove '..Said' where nothing that the law and all that it calls make is longer than what came in: it says more and counts as full. Else prove '..UptoSaid'. A law counts once. -/
mutual
def uptoBulk {H : Type} : DataW H → Nat
  | .lit (.string bytes) => bytes.length + 1
  | .lit _ => 1
  | .nil => 1
  | .ptr d => uptoBulk d + 1
  | .slice elems spare => uptoBulkAll elems + uptoBulkAll spare + 1
  | .agg parts => uptoBulkAll parts + 1
  | .iface _ d => uptoBulk d + 1
  | .map entries => uptoBulkEntries entries + 1
  | .held _ => 1
def uptoBulkAll {H : Type} : List (DataW H) → Nat
  | [] => 0
  | d :: r => uptoBulk d + uptoBulkAll r
def uptoBulkEntries {H : Type} : List (Lit × DataW H) → Nat
  | [] => 0
  | x :: r => uptoBulkEntry x + uptoBulkEntries r
def uptoBulkEntry {H : Type} : Lit × DataW H → Nat
  | (.string bytes, d) => bytes.length + uptoBulk d + 1
  | (_, d) => uptoBulk d + 1
 end
def uptoSmall : (H : Type) → List (DataW H) → Bool := fun _ ds => decide (uptoBulkAll ds ≤ 1048576)
def OpenSpec.upto (s : _root_.Go.ChangeSpec) : _root_.Go.OpenSpec := { _root_.Go.OpenSpec.ofChange s with cond := some uptoSmall }

/-- 'laws.FnExactBoundedWalk', WHERE WHAT IT READS IS OF BULK AT MOST 1048576: true; the input reads as it did. -/
def fnExactBoundedWalkUptoRow : OpenClaim := { program := "ytnloeeaidknblaagreat", sum := "a6e923d5bb1765143d66ce3be469b0ca325f668f587ca81df431e5287c937e74", func := "loop.example/g00895/laws.FnExactBoundedWalk", spec := "fnExactBoundedWalk", unfollowed := true, recurses := true, apart := false, narrowed := true }
def FnExactBoundedWalkUptoSaid : Prop := fnExactBoundedWalkUptoRow.holds Tryz.pinned (OpenSpec.upto fnExactBoundedWalkSpec)

/-- 'laws.FnExactCallBy', WHERE WHAT IT READS IS OF BULK AT MOST 1048576: true; the input reads as it did. -/
def fnExactCallByUptoRow : OpenClaim := { program := "ytnloeeaidknblaagreat", sum := "a6e923d5bb1765143d66ce3be469b0ca325f668f587ca81df431e5287c937e74", func := "loop.example/g00895/laws.FnExactCallBy", spec := "fnExactCallBy", unfollowed := true, recurses := true, apart := false, narrowed := true }
def FnExactCallByUptoSaid : Prop := fnExactCallByUptoRow.holds Tryz.pinned (OpenSpec.upto fnExactCallBySpec)

/-- 'laws.FnExactPeakUnder', WHERE WHAT IT READS IS OF BULK AT MOST 1048576: true; the input reads as it did. -/
def fnExactPeakUnderUptoRow : OpenClaim := { program := "ytnloeeaidknblaagreat", sum := "a6e923d5bb1765143d66ce3be469b0ca325f668f587ca81df431e5287c937e74", func := "loop.example/g00895/laws.FnExactPeakUnder", spec := "fnExactPeakUnder", unfollowed := true, recurses := true, apart := false, narrowed := true }
def FnExactPeakUnderUptoSaid : Prop := fnExactPeakUnderUptoRow.holds Tryz.pinned (OpenSpec.upto fnExactPeakUnderSpec)

/-- 'laws.FnExactChainOfJoin', WHERE WHAT IT READS IS OF BULK AT MOST 1048576: true; the input reads as it did. -/
def fnExactChainOfJoinUptoRow : OpenClaim := { program := "ytnloeeaidknblaagreat", sum := "a6e923d5bb1765143d66ce3be469b0ca325f668f587ca81df431e5287c937e74", func := "loop.example/g00895/laws.FnExactChainOfJoin", spec := "fnExactChainOfJoin", unfollowed := true, recurses := true, apart := false, narrowed := true }
def FnExactChainOfJoinUptoSaid : Prop := fnExactChainOfJoinUptoRow.holds Tryz.pinned (OpenSpec.upto fnExactChainOfJoinSpec)

end Rows
end Go.Proofs.YtnloeeaidknblaaGreat
