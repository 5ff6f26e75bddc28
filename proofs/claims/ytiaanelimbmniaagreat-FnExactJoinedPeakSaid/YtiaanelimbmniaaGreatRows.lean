/-
  No cell of these rows narrows 'for every input' (looked for: loops, veiled, ifaces, maps, wideKeys, modest, calm, conditions, laid).
  DERIVED. THE GIVEN ROWS OF THIS SEAT. 5 by the template 'for every input the law returns true; each argument reads behind the call as it read before'; 0 by the template 'total and deterministic' (their statements: YtiaanelimbmniaaGreatTotals.lean).
  GIVEN WITH THE SEED: the statements are not yours to turn. If you find one false, say at which input.
  Laid BY PROGRAM, IN A SANDBOX (cutbox-rows.mjs): the forced cells as the released guide's own fill.sh prints them over the translation 4b882b0df2a29988… (all of the seat's roots in one cut). By AI agents, Wed Nov 11 2026. No macro, syntax, notation, axiom, sorry.
-/
import Derived.Test.YtiaanelimbmniaaGreatChecked
import GoSem.Claim
import GoSem.ClaimJoined
import GoSem.ClaimMapViews
import Derived.JoinedTies
import Derived.KernelRfl
namespace Go.Proofs.YtiaanelimbmniaaGreat
/- THE CELL 'sum', in the pinned program and in every row, IS THE sha256 OF THE DUMP (.gsa) THAT YtiaanelimbmniaaGreatProg.lean LOADS. Nothing in Lean hashes anything: it is a label: what it is worth is what the hold of that sum in a sandbox is worth. -/
noncomputable def Tryz.pinned : Pinned := { name := "ytiaanelimbmniaagreat", sum := "4b882b0df2a299883b5ff6410a8f9c7198f00cd96159b43479689fe22b7f3561", checked := Tryz.checked }
namespace Rows
def none {H : Type} : Left H := { results := [], args := [] }

/-- 'laws.FnExactShownBy': WHATEVER THE INPUT: true; the input reads as it did. -/
def fnExactShownBySpec : ChangeSpec := { name := "fnExactShownBy", fn := fun _ => fun
  | [d1, d2, d3, d4] => { results := [.lit (.bool true)], args := [d1, d2, d3, d4] }
  | _ => none }
def fnExactShownByRow : OpenClaim := { program := "ytiaanelimbmniaagreat", sum := "4b882b0df2a299883b5ff6410a8f9c7198f00cd96159b43479689fe22b7f3561", func := "loop.example/g00895/laws.FnExactShownBy", spec := "fnExactShownBy", unfollowed := true, recurses := true, apart := false }
def FnExactShownBySaid : Prop := fnExactShownByRow.holds Tryz.pinned (OpenSpec.ofChange fnExactShownBySpec)

/-- ITS FALSE NEIGHBOUR: 'it returns false'. Refute it at one input. -/
def fnExactShownByWrong : ChangeSpec := { name := "fnExactShownBy", fn := fun _ => fun
  | [d1, d2, d3, d4] => { results := [.lit (.bool false)], args := [d1, d2, d3, d4] }
  | _ => none }
def FnExactShownByWrongFalsely : Prop := fnExactShownByRow.holds Tryz.pinned (OpenSpec.ofChange fnExactShownByWrong)

/-- 'laws.FnExactLoopProof': WHATEVER THE INPUT: true; the input reads as it did. -/
def fnExactLoopProofSpec : ChangeSpec := { name := "fnExactLoopProof", fn := fun _ => fun
  | [d1, d2] => { results := [.lit (.bool true)], args := [d1, d2] }
  | _ => none }
def fnExactLoopProofRow : OpenClaim := { program := "ytiaanelimbmniaagreat", sum := "4b882b0df2a299883b5ff6410a8f9c7198f00cd96159b43479689fe22b7f3561", func := "loop.example/g00895/laws.FnExactLoopProof", spec := "fnExactLoopProof", unfollowed := true, recurses := true, apart := false }
def FnExactLoopProofSaid : Prop := fnExactLoopProofRow.holds Tryz.pinned (OpenSpec.ofChange fnExactLoopProofSpec)

/-- ITS FALSE NEIGHBOUR: 'it returns false'. Refute it at one input. -/
def fnExactLoopProofWrong : ChangeSpec := { name := "fnExactLoopProof", fn := fun _ => fun
  | [d1, d2] => { results := [.lit (.bool false)], args := [d1, d2] }
  | _ => none }
def FnExactLoopProofWrongFalsely : Prop := fnExactLoopProofRow.holds Tryz.pinned (OpenSpec.ofChange fnExactLoopProofWrong)

/-- 'laws.FnExactLoopFrom': WHATEVER THE INPUT: true; the input reads as it did. -/
def fnExactLoopFromSpec : ChangeSpec := { name := "fnExactLoopFrom", fn := fun _ => fun
  | [d1, d2, d3] => { results := [.lit (.bool true)], args := [d1, d2, d3] }
  | _ => none }
def fnExactLoopFromRow : OpenClaim := { program := "ytiaanelimbmniaagreat", sum := "4b882b0df2a299883b5ff6410a8f9c7198f00cd96159b43479689fe22b7f3561", func := "loop.example/g00895/laws.FnExactLoopFrom", spec := "fnExactLoopFrom", unfollowed := true, recurses := true, apart := false }
def FnExactLoopFromSaid : Prop := fnExactLoopFromRow.holds Tryz.pinned (OpenSpec.ofChange fnExactLoopFromSpec)

/-- ITS FALSE NEIGHBOUR: 'it returns false'. Refute it at one input. -/
def fnExactLoopFromWrong : ChangeSpec := { name := "fnExactLoopFrom", fn := fun _ => fun
  | [d1, d2, d3] => { results := [.lit (.bool false)], args := [d1, d2, d3] }
  | _ => none }
def FnExactLoopFromWrongFalsely : Prop := fnExactLoopFromRow.holds Tryz.pinned (OpenSpec.ofChange fnExactLoopFromWrong)

/-- 'laws.FnExactFirstLoop': WHATEVER THE INPUT: true; the input reads as it did. -/
def fnExactFirstLoopSpec : ChangeSpec := { name := "fnExactFirstLoop", fn := fun _ => fun
  | [d1, d2] => { results := [.lit (.bool true)], args := [d1, d2] }
  | _ => none }
def fnExactFirstLoopRow : OpenClaim := { program := "ytiaanelimbmniaagreat", sum := "4b882b0df2a299883b5ff6410a8f9c7198f00cd96159b43479689fe22b7f3561", func := "loop.example/g00895/laws.FnExactFirstLoop", spec := "fnExactFirstLoop", unfollowed := true, recurses := true, apart := false }
def FnExactFirstLoopSaid : Prop := fnExactFirstLoopRow.holds Tryz.pinned (OpenSpec.ofChange fnExactFirstLoopSpec)

/-- ITS FALSE NEIGHBOUR: 'it returns false'. Refute it at one input. -/
def fnExactFirstLoopWrong : ChangeSpec := { name := "fnExactFirstLoop", fn := fun _ => fun
  | [d1, d2] => { results := [.lit (.bool false)], args := [d1, d2] }
  | _ => none }
def FnExactFirstLoopWrongFalsely : Prop := fnExactFirstLoopRow.holds Tryz.pinned (OpenSpec.ofChange fnExactFirstLoopWrong)

/-- 'laws.FnExactJoinedPeak': WHATEVER THE INPUT: true; the input reads as it did. -/
def fnExactJoinedPeakSpec : ChangeSpec := { name := "fnExactJoinedPeak", fn := fun _ => fun
  | [d1, d2, d3] => { results := [.lit (.bool true)], args := [d1, d2, d3] }
  | _ => none }
def fnExactJoinedPeakRow : OpenClaim := { program := "ytiaanelimbmniaagreat", sum := "4b882b0df2a299883b5ff6410a8f9c7198f00cd96159b43479689fe22b7f3561", func := "loop.example/g00895/laws.FnExactJoinedPeak", spec := "fnExactJoinedPeak", unfollowed := true, recurses := true, apart := false }
def FnExactJoinedPeakSaid : Prop := fnExactJoinedPeakRow.holds Tryz.pinned (OpenSpec.ofChange fnExactJoinedPeakSpec)

/-- ITS FALSE NEIGHBOUR: 'it returns false'. Refute it at one input. -/
def fnExactJoinedPeakWrong : ChangeSpec := { name := "fnExactJoinedPeak", fn := fun _ => fun
  | [d1, d2, d3] => { results := [.lit (.bool false)], args := [d1, d2, d3] }
  | _ => none }
def FnExactJoinedPeakWrongFalsely : Prop := fnExactJoinedPeakRow.holds Tryz.pinned (OpenSpec.ofChange fnExactJoinedPeakWrong)

/- THE SECOND FORM. 'bulk': how many values and letters a reading holds, each counted each time it is reached (what is shared counts as often as it is met; a slice's spare places count too). A statement '..UptoSaid' is the law's where the arguments, and the package variables that the reading takes, are together of bulk at most 1048576: NARROWER than '..Said'. Prove '..Said' where nothing that the law and all that it calls make is longer than what came in: it says more and counts as full. Else prove '..UptoSaid'. A law counts once. -/
mutual
def uptoBulk {H : Type} : DataW H → Nat
  | .lit (.string bytes) => bytes.length + 1
  | .lit _ => 1
  | .nil => 1
  | .ptr d => uptoBulk d + 1
  | .slice elems spare => uptoBulkAll elems + uptoBulkAll spare + 1
  | .agg parts => uptoBulkAll parts + 1
  | .iface _ d => uptoBulk d + 1
  | .map entries => uptoBulkEntries entries + 1
  | .held _ => 1
def uptoBulkAll {H : Type} : List (DataW H) → Nat
  | [] => 0
  | d :: r => uptoBulk d + uptoBulkAll r
def uptoBulkEntries {H : Type} : List (Lit × DataW H) → Nat
  | [] => 0
  | x :: r => uptoBulkEntry x + uptoBulkEntries r
def uptoBulkEntry {H : Type} : Lit × DataW H → Nat
  | (.string bytes, d) => bytes.length + uptoBulk d + 1
  | (_, d) => uptoBulk d + 1
 end
def uptoSmall : (H : Type) → List (DataW H) → Bool := fun _ ds => decide (uptoBulkAll ds ≤ 1048576)
def OpenSpec.upto (s : _root_.Go.ChangeSpec) : _root_.Go.OpenSpec := { _root_.Go.OpenSpec.ofChange s with cond := some uptoSmall }

/-- 'laws.FnExactShownBy', WHERE WHAT IT READS IS OF BULK AT MOST 1048576: true; the input reads as it did. -/
def fnExactShownByUptoRow : OpenClaim := { program := "ytiaanelimbmniaagreat", sum := "4b882b0df2a299883b5ff6410a8f9c7198f00cd96159b43479689fe22b7f3561", func := "loop.example/g00895/laws.FnExactShownBy", spec := "fnExactShownBy", unfollowed := true, recurses := true, apart := false, narrowed := true }
def FnExactShownByUptoSaid : Prop := fnExactShownByUptoRow.holds Tryz.pinned (OpenSpec.upto fnExactShownBySpec)

/-- 'laws.FnExactLoopProof', WHERE WHAT IT READS IS OF BULK AT MOST 1048576: true; the input reads as it did. -/
def fnExactLoopProofUptoRow : OpenClaim := { program := "ytiaanelimbmniaagreat", sum := "4b882b0df2a299883b5ff6410a8f9c7198f00cd96159b43479689fe22b7f3561", func := "loop.example/g00895/laws.FnExactLoopProof", spec := "fnExactLoopProof", unfollowed := true, recurses := true, apart := false, narrowed := true }
def FnExactLoopProofUptoSaid : Prop := fnExactLoopProofUptoRow.holds Tryz.pinned (OpenSpec.upto fnExactLoopProofSpec)

/-- 'laws.FnExactLoopFrom', WHERE WHAT IT READS IS OF BULK AT MOST 1048576: true; the input reads as it did. -/
def fnExactLoopFromUptoRow : OpenClaim := { program := "ytiaanelimbmniaagreat", sum := "4b882b0df2a299883b5ff6410a8f9c7198f00cd96159b43479689fe22b7f3561", func := "loop.example/g00895/laws.FnExactLoopFrom", spec := "fnExactLoopFrom", unfollowed := true, recurses := true, apart := false, narrowed := true }
def FnExactLoopFromUptoSaid : Prop := fnExactLoopFromUptoRow.holds Tryz.pinned (OpenSpec.upto fnExactLoopFromSpec)

/-- 'laws.FnExactFirstLoop', WHERE WHAT IT READS IS OF BULK AT MOST 1048576: true; the input reads as it did. -/
def fnExactFirstLoopUptoRow : OpenClaim := { program := "ytiaanelimbmniaagreat", sum := "4b882b0df2a299883b5ff6410a8f9c7198f00cd96159b43479689fe22b7f3561", func := "loop.example/g00895/laws.FnExactFirstLoop", spec := "fnExactFirstLoop", unfollowed := true, recurses := true, apart := false, narrowed := true }
def FnExactFirstLoopUptoSaid : Prop := fnExactFirstLoopUptoRow.holds Tryz.pinned (OpenSpec.upto fnExactFirstLoopSpec)

/-- 'laws.FnExactJoinedPeak', WHERE WHAT IT READS IS OF BULK AT MOST 1048576: true; the input reads as it did. -/
def fnExactJoinedPeakUptoRow : OpenClaim := { program := "ytiaanelimbmniaagreat", sum := "4b882b0df2a299883b5ff6410a8f9c7198f00cd96159b43479689fe22b7f3561", func := "loop.example/g00895/laws.FnExactJoinedPeak", spec := "fnExactJoinedPeak", unfollowed := true, recurses := true, apart := false, narrowed := true }
def FnExactJoinedPeakUptoSaid : Prop := fnExactJoinedPeakUptoRow.holds Tryz.pinned (OpenSpec.upto fnExactJoinedPeakSpec)

end Rows
end Go.Proofs.YtiaanelimbmniaaGreat
