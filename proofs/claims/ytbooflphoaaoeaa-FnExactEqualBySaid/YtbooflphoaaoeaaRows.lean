/-
  No cell of these rows narrows 'for every input' (looked for: loops, veiled, ifaces, maps, wideKeys, modest, calm, conditions, laid).
  DERIVED. THE GIVEN ROWS OF THIS SEAT. 5 by the template 'for every input the law returns true; each argument reads behind the call as it read before'; 0 by the template 'total and deterministic' (their statements: YtbooflphoaaoeaaTotals.lean).
  GIVEN WITH THE SEED: the statements are not yours to turn. If you find one false, say at which input.
  Laid BY PROGRAM, IN A SANDBOX (cutbox-rows.mjs): the forced cells as the released guide's own fill.sh prints them over the translation b02abe2eec7ba417… (all of the seat's roots in one cut). By AI agents, Wed Nov 11 2026. No macro, syntax, notation, axiom, sorry.
-/
import Derived.Test.YtbooflphoaaoeaaChecked
import GoSem.Claim
import GoSem.ClaimJoined
import GoSem.ClaimMapViews
import Derived.JoinedTies
import Derived.KernelRfl
namespace Go.Proofs.Ytbooflphoaaoeaa
/- THE CELL 'sum', in the pinned program and in every row, IS THE sha256 OF THE DUMP (.gsa) THAT YtbooflphoaaoeaaProg.lean LOADS. Nothing in Lean hashes anything: it is a label: what it is worth is what the hold of that sum in a sandbox is worth. -/
noncomputable def Try.pinned : Pinned := { name := "ytbooflphoaaoeaa", sum := "b02abe2eec7ba417e1b4df524aed0c5e94d8613d010e7475a8c7783cab785300", checked := Try.checked }
namespace Rows
def none {H : Type} : Left H := { results := [], args := [] }

/-- 'laws.FnExactWalkFrom': WHATEVER THE INPUT: true; the input reads as it did. -/
def fnExactWalkFromSpec : ChangeSpec := { name := "fnExactWalkFrom", fn := fun _ => fun
  | [d1, d2, d3] => { results := [.lit (.bool true)], args := [d1, d2, d3] }
  | _ => none }
def fnExactWalkFromRow : OpenClaim := { program := "ytbooflphoaaoeaa", sum := "b02abe2eec7ba417e1b4df524aed0c5e94d8613d010e7475a8c7783cab785300", func := "loop.example/g00895/laws.FnExactWalkFrom", spec := "fnExactWalkFrom", unfollowed := true, recurses := true, apart := false }
def FnExactWalkFromSaid : Prop := fnExactWalkFromRow.holds Try.pinned (OpenSpec.ofChange fnExactWalkFromSpec)

/-- ITS FALSE NEIGHBOUR: 'it returns false'. Refute it at one input. -/
def fnExactWalkFromWrong : ChangeSpec := { name := "fnExactWalkFrom", fn := fun _ => fun
  | [d1, d2, d3] => { results := [.lit (.bool false)], args := [d1, d2, d3] }
  | _ => none }
def FnExactWalkFromWrongFalsely : Prop := fnExactWalkFromRow.holds Try.pinned (OpenSpec.ofChange fnExactWalkFromWrong)

/-- 'laws.FnExactEqualBy': WHATEVER THE INPUT: true; the input reads as it did. -/
def fnExactEqualBySpec : ChangeSpec := { name := "fnExactEqualBy", fn := fun _ => fun
  | [d1, d2, d3, d4] => { results := [.lit (.bool true)], args := [d1, d2, d3, d4] }
  | _ => none }
def fnExactEqualByRow : OpenClaim := { program := "ytbooflphoaaoeaa", sum := "b02abe2eec7ba417e1b4df524aed0c5e94d8613d010e7475a8c7783cab785300", func := "loop.example/g00895/laws.FnExactEqualBy", spec := "fnExactEqualBy", unfollowed := true, recurses := true, apart := false }
def FnExactEqualBySaid : Prop := fnExactEqualByRow.holds Try.pinned (OpenSpec.ofChange fnExactEqualBySpec)

/-- ITS FALSE NEIGHBOUR: 'it returns false'. Refute it at one input. -/
def fnExactEqualByWrong : ChangeSpec := { name := "fnExactEqualBy", fn := fun _ => fun
  | [d1, d2, d3, d4] => { results := [.lit (.bool false)], args := [d1, d2, d3, d4] }
  | _ => none }
def FnExactEqualByWrongFalsely : Prop := fnExactEqualByRow.holds Try.pinned (OpenSpec.ofChange fnExactEqualByWrong)

/-- 'laws.FnExactLoopOk': WHATEVER THE INPUT: true; the input reads as it did. -/
def fnExactLoopOkSpec : ChangeSpec := { name := "fnExactLoopOk", fn := fun _ => fun
  | [d1, d2] => { results := [.lit (.bool true)], args := [d1, d2] }
  | _ => none }
def fnExactLoopOkRow : OpenClaim := { program := "ytbooflphoaaoeaa", sum := "b02abe2eec7ba417e1b4df524aed0c5e94d8613d010e7475a8c7783cab785300", func := "loop.example/g00895/laws.FnExactLoopOk", spec := "fnExactLoopOk", unfollowed := true, recurses := true, apart := false }
def FnExactLoopOkSaid : Prop := fnExactLoopOkRow.holds Try.pinned (OpenSpec.ofChange fnExactLoopOkSpec)

/-- ITS FALSE NEIGHBOUR: 'it returns false'. Refute it at one input. -/
def fnExactLoopOkWrong : ChangeSpec := { name := "fnExactLoopOk", fn := fun _ => fun
  | [d1, d2] => { results := [.lit (.bool false)], args := [d1, d2] }
  | _ => none }
def FnExactLoopOkWrongFalsely : Prop := fnExactLoopOkRow.holds Try.pinned (OpenSpec.ofChange fnExactLoopOkWrong)

/-- 'laws.FnExactCycleIn': WHATEVER THE INPUT: true; the input reads as it did. -/
def fnExactCycleInSpec : ChangeSpec := { name := "fnExactCycleIn", fn := fun _ => fun
  | [d1, d2] => { results := [.lit (.bool true)], args := [d1, d2] }
  | _ => none }
def fnExactCycleInRow : OpenClaim := { program := "ytbooflphoaaoeaa", sum := "b02abe2eec7ba417e1b4df524aed0c5e94d8613d010e7475a8c7783cab785300", func := "loop.example/g00895/laws.FnExactCycleIn", spec := "fnExactCycleIn", unfollowed := true, recurses := true, apart := false }
def FnExactCycleInSaid : Prop := fnExactCycleInRow.holds Try.pinned (OpenSpec.ofChange fnExactCycleInSpec)

/-- ITS FALSE NEIGHBOUR: 'it returns false'. Refute it at one input. -/
def fnExactCycleInWrong : ChangeSpec := { name := "fnExactCycleIn", fn := fun _ => fun
  | [d1, d2] => { results := [.lit (.bool false)], args := [d1, d2] }
  | _ => none }
def FnExactCycleInWrongFalsely : Prop := fnExactCycleInRow.holds Try.pinned (OpenSpec.ofChange fnExactCycleInWrong)

/-- 'laws.FnExactChainOfWalk': WHATEVER THE INPUT: true; the input reads as it did. -/
def fnExactChainOfWalkSpec : ChangeSpec := { name := "fnExactChainOfWalk", fn := fun _ => fun
  | [d1, d2] => { results := [.lit (.bool true)], args := [d1, d2] }
  | _ => none }
def fnExactChainOfWalkRow : OpenClaim := { program := "ytbooflphoaaoeaa", sum := "b02abe2eec7ba417e1b4df524aed0c5e94d8613d010e7475a8c7783cab785300", func := "loop.example/g00895/laws.FnExactChainOfWalk", spec := "fnExactChainOfWalk", unfollowed := true, recurses := true, apart := false }
def FnExactChainOfWalkSaid : Prop := fnExactChainOfWalkRow.holds Try.pinned (OpenSpec.ofChange fnExactChainOfWalkSpec)

/-- ITS FALSE NEIGHBOUR: 'it returns false'. Refute it at one input. -/
def fnExactChainOfWalkWrong : ChangeSpec := { name := "fnExactChainOfWalk", fn := fun _ => fun
  | [d1, d2] => { results := [.lit (.bool false)], args := [d1, d2] }
  | _ => none }
def FnExactChainOfWalkWrongFalsely : Prop := fnExactChainOfWalkRow.holds Try.pinned (OpenSpec.ofChange fnExactChainOfWalkWrong)

/- THE SECOND FORM. 'bulk': how many values and letters a reading holds, each counted each time it is reached (what is shared counts as often as it is met; a slice's spare places count too). A statement '..UptoSaid' is the law's where the arguments, and the package variables that the reading takes, are together of bulk at most 1048576: NARROWER than '..Said'. Prove '..Said' where nothing that the law and all that it calls make is longer than what came in: it says more and counts as full. Else prove '..UptoSaid'. A law counts once. -/
mutual
def uptoBulk {H : Type} : DataW H → Nat
  | .lit (.string bytes) => bytes.length + 1
  | .lit _ => 1
  | .nil => 1
  | .ptr d => uptoBulk d + 1
  | .slice elems spare => uptoBulkAll elems + uptoBulkAll spare + 1
  | .agg parts => uptoBulkAll parts + 1
  | .iface _ d => uptoBulk d + 1
  | .map entries => uptoBulkEntries entries + 1
  | .held _ => 1
def uptoBulkAll {H : Type} : List (DataW H) → Nat
  | [] => 0
  | d :: r => uptoBulk d + uptoBulkAll r
def uptoBulkEntries {H : Type} : List (Lit × DataW H) → Nat
  | [] => 0
  | x :: r => uptoBulkEntry x + uptoBulkEntries r
def uptoBulkEntry {H : Type} : Lit × DataW H → Nat
  | (.string bytes, d) => bytes.length + uptoBulk d + 1
  | (_, d) => uptoBulk d + 1
 end
def uptoSmall : (H : Type) → List (DataW H) → Bool := fun _ ds => decide (uptoBulkAll ds ≤ 1048576)
def OpenSpec.upto (s : _root_.Go.ChangeSpec) : _root_.Go.OpenSpec := { _root_.Go.OpenSpec.ofChange s with cond := some uptoSmall }

/-- 'laws.FnExactWalkFrom', WHERE WHAT IT READS IS OF BULK AT MOST 1048576: true; the input reads as it did. -/
def fnExactWalkFromUptoRow : OpenClaim := { program := "ytbooflphoaaoeaa", sum := "b02abe2eec7ba417e1b4df524aed0c5e94d8613d010e7475a8c7783cab785300", func := "loop.example/g00895/laws.FnExactWalkFrom", spec := "fnExactWalkFrom", unfollowed := true, recurses := true, apart := false, narrowed := true }
def FnExactWalkFromUptoSaid : Prop := fnExactWalkFromUptoRow.holds Try.pinned (OpenSpec.upto fnExactWalkFromSpec)

/-- 'laws.FnExactEqualBy', WHERE WHAT IT READS IS OF BULK AT MOST 1048576: true; the input reads as it did. -/
def fnExactEqualByUptoRow : OpenClaim := { program := "ytbooflphoaaoeaa", sum := "b02abe2eec7ba417e1b4df524aed0c5e94d8613d010e7475a8c7783cab785300", func := "loop.example/g00895/laws.FnExactEqualBy", spec := "fnExactEqualBy", unfollowed := true, recurses := true, apart := false, narrowed := true }
def FnExactEqualByUptoSaid : Prop := fnExactEqualByUptoRow.holds Try.pinned (OpenSpec.upto fnExactEqualBySpec)

/-- 'laws.FnExactLoopOk', WHERE WHAT IT READS IS OF BULK AT MOST 1048576: true; the input reads as it did. -/
def fnExactLoopOkUptoRow : OpenClaim := { program := "ytbooflphoaaoeaa", sum := "b02abe2eec7ba417e1b4df524aed0c5e94d8613d010e7475a8c7783cab785300", func := "loop.example/g00895/laws.FnExactLoopOk", spec := "fnExactLoopOk", unfollowed := true, recurses := true, apart := false, narrowed := true }
def FnExactLoopOkUptoSaid : Prop := fnExactLoopOkUptoRow.holds Try.pinned (OpenSpec.upto fnExactLoopOkSpec)

/-- 'laws.FnExactCycleIn', WHERE WHAT IT READS IS OF BULK AT MOST 1048576: true; the input reads as it did. -/
def fnExactCycleInUptoRow : OpenClaim := { program := "ytbooflphoaaoeaa", sum := "b02abe2eec7ba417e1b4df524aed0c5e94d8613d010e7475a8c7783cab785300", func := "loop.example/g00895/laws.FnExactCycleIn", spec := "fnExactCycleIn", unfollowed := true, recurses := true, apart := false, narrowed := true }
def FnExactCycleInUptoSaid : Prop := fnExactCycleInUptoRow.holds Try.pinned (OpenSpec.upto fnExactCycleInSpec)

/-- 'laws.FnExactChainOfWalk', WHERE WHAT IT READS IS OF BULK AT MOST 1048576: true; the input reads as it did. -/
def fnExactChainOfWalkUptoRow : OpenClaim := { program := "ytbooflphoaaoeaa", sum := "b02abe2eec7ba417e1b4df524aed0c5e94d8613d010e7475a8c7783cab785300", func := "loop.example/g00895/laws.FnExactChainOfWalk", spec := "fnExactChainOfWalk", unfollowed := true, recurses := true, apart := false, narrowed := true }
def FnExactChainOfWalkUptoSaid : Prop := fnExactChainOfWalkUptoRow.holds Try.pinned (OpenSpec.upto fnExactChainOfWalkSpec)

end Rows
end Go.Proofs.Ytbooflphoaaoeaa
