/-
  No cell of these rows narrows 'for every input' (looked for: loops, veiled, ifaces, maps, wideKeys, modest, calm, conditions, laid).
  DERIVED. THE GIVEN ROWS OF THIS SEAT. 7 by the template 'for every input the law returns true; each argument reads behind the call as it read before'; 0 by the template 'total and deterministic' (their statements: YtbooflphoaaoeaaGreatTotals.lean).
  GIVEN WITH THE SEED: the statements are not yours to turn. If you find one false, say at which input.
  Laid BY PROGRAM, IN A SANDBOX (cutbox-rows.mjs): the forced cells as the released guide's own fill.sh prints them over the translation e631b75ade62515e… (all of the seat's roots in one cut). By AI agents, Wed Nov 11 2026. No macro, syntax, notation, axiom, sorry.
-/
import Derived.Test.YtbooflphoaaoeaaGreatChecked
import GoSem.Claim
import GoSem.ClaimJoined
import GoSem.ClaimMapViews
import Derived.JoinedTies
import Derived.KernelRfl
namespace Go.Proofs.YtbooflphoaaoeaaGreat
/- THE CELL 'sum', in the pinned program and in every row, IS THE sha256 OF THE DUMP (.gsa) THAT YtbooflphoaaoeaaGreatProg.lean LOADS. Nothing in Lean hashes anything: it is a label: what it is worth is what the hold of that sum in a sandbox is worth. -/
noncomputable def Tryz.pinned : Pinned := { name := "ytbooflphoaaoeaagreat", sum := "e631b75ade62515ed28bb26fdced13a8539761c6efbf41b2ea0bc7e3ab955db4", checked := Tryz.checked }
namespace Rows
def none {H : Type} : Left H := { results := [], args := [] }

/-- 'laws.FnExactShownBy': WHATEVER THE INPUT: true; the input reads as it did. -/
def fnExactShownBySpec : ChangeSpec := { name := "fnExactShownBy", fn := fun _ => fun
  | [d1, d2, d3, d4] => { results := [.lit (.bool true)], args := [d1, d2, d3, d4] }
  | _ => none }
def fnExactShownByRow : OpenClaim := { program := "ytbooflphoaaoeaagreat", sum := "e631b75ade62515ed28bb26fdced13a8539761c6efbf41b2ea0bc7e3ab955db4", func := "loop.example/g00895/laws.FnExactShownBy", spec := "fnExactShownBy", unfollowed := true, recurses := true, apart := false }
def FnExactShownBySaid : Prop := fnExactShownByRow.holds Tryz.pinned (OpenSpec.ofChange fnExactShownBySpec)

/-- ITS FALSE NEIGHBOUR: 'it returns false'. Refute it at one input. -/
def fnExactShownByWrong : ChangeSpec := { name := "fnExactShownBy", fn := fun _ => fun
  | [d1, d2, d3, d4] => { results := [.lit (.bool false)], args := [d1, d2, d3, d4] }
  | _ => none }
def FnExactShownByWrongFalsely : Prop := fnExactShownByRow.holds Tryz.pinned (OpenSpec.ofChange fnExactShownByWrong)

/-- 'laws.FnExactKeepsEqs': WHATEVER THE INPUT: true; the input reads as it did. -/
def fnExactKeepsEqsSpec : ChangeSpec := { name := "fnExactKeepsEqs", fn := fun _ => fun
  | [d1, d2] => { results := [.lit (.bool true)], args := [d1, d2] }
  | _ => none }
def fnExactKeepsEqsRow : OpenClaim := { program := "ytbooflphoaaoeaagreat", sum := "e631b75ade62515ed28bb26fdced13a8539761c6efbf41b2ea0bc7e3ab955db4", func := "loop.example/g00895/laws.FnExactKeepsEqs", spec := "fnExactKeepsEqs", unfollowed := true, recurses := true, apart := false }
def FnExactKeepsEqsSaid : Prop := fnExactKeepsEqsRow.holds Tryz.pinned (OpenSpec.ofChange fnExactKeepsEqsSpec)

/-- ITS FALSE NEIGHBOUR: 'it returns false'. Refute it at one input. -/
def fnExactKeepsEqsWrong : ChangeSpec := { name := "fnExactKeepsEqs", fn := fun _ => fun
  | [d1, d2] => { results := [.lit (.bool false)], args := [d1, d2] }
  | _ => none }
def FnExactKeepsEqsWrongFalsely : Prop := fnExactKeepsEqsRow.holds Tryz.pinned (OpenSpec.ofChange fnExactKeepsEqsWrong)

/-- 'laws.FnExactClassesBy': WHATEVER THE INPUT: true; the input reads as it did. -/
def fnExactClassesBySpec : ChangeSpec := { name := "fnExactClassesBy", fn := fun _ => fun
  | [d1, d2, d3] => { results := [.lit (.bool true)], args := [d1, d2, d3] }
  | _ => none }
def fnExactClassesByRow : OpenClaim := { program := "ytbooflphoaaoeaagreat", sum := "e631b75ade62515ed28bb26fdced13a8539761c6efbf41b2ea0bc7e3ab955db4", func := "loop.example/g00895/laws.FnExactClassesBy", spec := "fnExactClassesBy", unfollowed := true, recurses := true, apart := false }
def FnExactClassesBySaid : Prop := fnExactClassesByRow.holds Tryz.pinned (OpenSpec.ofChange fnExactClassesBySpec)

/-- ITS FALSE NEIGHBOUR: 'it returns false'. Refute it at one input. -/
def fnExactClassesByWrong : ChangeSpec := { name := "fnExactClassesBy", fn := fun _ => fun
  | [d1, d2, d3] => { results := [.lit (.bool false)], args := [d1, d2, d3] }
  | _ => none }
def FnExactClassesByWrongFalsely : Prop := fnExactClassesByRow.holds Tryz.pinned (OpenSpec.ofChange fnExactClassesByWrong)

/-- 'laws.FnExactHoldAll': WHATEVER THE INPUT: true; the input reads as it did. -/
def fnExactHoldAllSpec : ChangeSpec := { name := "fnExactHoldAll", fn := fun _ => fun
  | [d1, d2, d3] => { results := [.lit (.bool true)], args := [d1, d2, d3] }
  | _ => none }
def fnExactHoldAllRow : OpenClaim := { program := "ytbooflphoaaoeaagreat", sum := "e631b75ade62515ed28bb26fdced13a8539761c6efbf41b2ea0bc7e3ab955db4", func := "loop.example/g00895/laws.FnExactHoldAll", spec := "fnExactHoldAll", unfollowed := true, recurses := true, apart := false }
def FnExactHoldAllSaid : Prop := fnExactHoldAllRow.holds Tryz.pinned (OpenSpec.ofChange fnExactHoldAllSpec)

/-- ITS FALSE NEIGHBOUR: 'it returns false'. Refute it at one input. -/
def fnExactHoldAllWrong : ChangeSpec := { name := "fnExactHoldAll", fn := fun _ => fun
  | [d1, d2, d3] => { results := [.lit (.bool false)], args := [d1, d2, d3] }
  | _ => none }
def FnExactHoldAllWrongFalsely : Prop := fnExactHoldAllRow.holds Tryz.pinned (OpenSpec.ofChange fnExactHoldAllWrong)

/-- 'laws.FnExactSolutionsBy': WHATEVER THE INPUT: true; the input reads as it did. -/
def fnExactSolutionsBySpec : ChangeSpec := { name := "fnExactSolutionsBy", fn := fun _ => fun
  | [d1, d2, d3, d4, d5] => { results := [.lit (.bool true)], args := [d1, d2, d3, d4, d5] }
  | _ => none }
def fnExactSolutionsByRow : OpenClaim := { program := "ytbooflphoaaoeaagreat", sum := "e631b75ade62515ed28bb26fdced13a8539761c6efbf41b2ea0bc7e3ab955db4", func := "loop.example/g00895/laws.FnExactSolutionsBy", spec := "fnExactSolutionsBy", unfollowed := true, recurses := true, apart := false }
def FnExactSolutionsBySaid : Prop := fnExactSolutionsByRow.holds Tryz.pinned (OpenSpec.ofChange fnExactSolutionsBySpec)

/-- ITS FALSE NEIGHBOUR: 'it returns false'. Refute it at one input. -/
def fnExactSolutionsByWrong : ChangeSpec := { name := "fnExactSolutionsBy", fn := fun _ => fun
  | [d1, d2, d3, d4, d5] => { results := [.lit (.bool false)], args := [d1, d2, d3, d4, d5] }
  | _ => none }
def FnExactSolutionsByWrongFalsely : Prop := fnExactSolutionsByRow.holds Tryz.pinned (OpenSpec.ofChange fnExactSolutionsByWrong)

/-- 'laws.FnExactRefutedBy': WHATEVER THE INPUT: true; the input reads as it did. -/
def fnExactRefutedBySpec : ChangeSpec := { name := "fnExactRefutedBy", fn := fun _ => fun
  | [d1, d2, d3, d4] => { results := [.lit (.bool true)], args := [d1, d2, d3, d4] }
  | _ => none }
def fnExactRefutedByRow : OpenClaim := { program := "ytbooflphoaaoeaagreat", sum := "e631b75ade62515ed28bb26fdced13a8539761c6efbf41b2ea0bc7e3ab955db4", func := "loop.example/g00895/laws.FnExactRefutedBy", spec := "fnExactRefutedBy", unfollowed := true, recurses := true, apart := false }
def FnExactRefutedBySaid : Prop := fnExactRefutedByRow.holds Tryz.pinned (OpenSpec.ofChange fnExactRefutedBySpec)

/-- ITS FALSE NEIGHBOUR: 'it returns false'. Refute it at one input. -/
def fnExactRefutedByWrong : ChangeSpec := { name := "fnExactRefutedBy", fn := fun _ => fun
  | [d1, d2, d3, d4] => { results := [.lit (.bool false)], args := [d1, d2, d3, d4] }
  | _ => none }
def FnExactRefutedByWrongFalsely : Prop := fnExactRefutedByRow.holds Tryz.pinned (OpenSpec.ofChange fnExactRefutedByWrong)

/-- 'laws.FnExactChainOfJoin': WHATEVER THE INPUT: true; the input reads as it did. -/
def fnExactChainOfJoinSpec : ChangeSpec := { name := "fnExactChainOfJoin", fn := fun _ => fun
  | [d1, d2, d3] => { results := [.lit (.bool true)], args := [d1, d2, d3] }
  | _ => none }
def fnExactChainOfJoinRow : OpenClaim := { program := "ytbooflphoaaoeaagreat", sum := "e631b75ade62515ed28bb26fdced13a8539761c6efbf41b2ea0bc7e3ab955db4", func := "loop.example/g00895/laws.FnExactChainOfJoin", spec := "fnExactChainOfJoin", unfollowed := true, recurses := true, apart := false }
def FnExactChainOfJoinSaid : Prop := fnExactChainOfJoinRow.holds Tryz.pinned (OpenSpec.ofChange fnExactChainOfJoinSpec)

/-- ITS FALSE NEIGHBOUR: 'it returns false'. Refute it at one input. -/
def fnExactChainOfJoinWrong : ChangeSpec := { name := "fnExactChainOfJoin", fn := fun _ => fun
  | [d1, d2, d3] => { results := [.lit (.bool false)], args := [d1, d2, d3] }
  | _ => none }
def FnExactChainOfJoinWrongFalsely : Prop := fnExactChainOfJoinRow.holds Tryz.pinned (OpenSpec.ofChange fnExactChainOfJoinWrong)

/- THE SECOND FORM. 'bulk': how many values and letters a reading holds, each counted each time it is reached (what is shared counts as often as it is met; a slice's spare places count too). A statement '..UptoSaid' is the law's where the arguments, and the package variables that the reading takes, are together of bulk at most 1048576: NARROWER than '..Said'. Prove '..Said' where nothing that the law and all that it calls make is longer than what came in: it says more and counts as full. Else prove '..UptoSaid'. A law counts once. -/
mutual
def uptoBulk {H : Type} : DataW H → Nat
  | .lit (.string bytes) => bytes.length + 1
  | .lit _ => 1
  | .nil => 1
  | .ptr d => uptoBulk d + 1
  | .slice elems spare => uptoBulkAll elems + uptoBulkAll spare + 1
  | .agg parts => uptoBulkAll parts + 1
  | .iface _ d => uptoBulk d + 1
  | .map entries => uptoBulkEntries entries + 1
  | .held _ => 1
def uptoBulkAll {H : Type} : List (DataW H) → Nat
  | [] => 0
  | d :: r => uptoBulk d + uptoBulkAll r
def uptoBulkEntries {H : Type} : List (Lit × DataW H) → Nat
  | [] => 0
  | x :: r => uptoBulkEntry x + uptoBulkEntries r
def uptoBulkEntry {H : Type} : Lit × DataW H → Nat
  | (.string bytes, d) => bytes.length + uptoBulk d + 1
  | (_, d) => uptoBulk d + 1
 end
def uptoSmall : (H : Type) → List (DataW H) → Bool := fun _ ds => decide (uptoBulkAll ds ≤ 1048576)
def OpenSpec.upto (s : _root_.Go.ChangeSpec) : _root_.Go.OpenSpec := { _root_.Go.OpenSpec.ofChange s with cond := some uptoSmall }

/-- 'laws.FnExactShownBy', WHERE WHAT IT READS IS OF BULK AT MOST 1048576: true; the input reads as it did. -/
def fnExactShownByUptoRow : OpenClaim := { program := "ytbooflphoaaoeaagreat", sum := "e631b75ade62515ed28bb26fdced13a8539761c6efbf41b2ea0bc7e3ab955db4", func := "loop.example/g00895/laws.FnExactShownBy", spec := "fnExactShownBy", unfollowed := true, recurses := true, apart := false, narrowed := true }
def FnExactShownByUptoSaid : Prop := fnExactShownByUptoRow.holds Tryz.pinned (OpenSpec.upto fnExactShownBySpec)

/-- 'laws.FnExactKeepsEqs', WHERE WHAT IT READS IS OF BULK AT MOST 1048576: true; the input reads as it did. -/
def fnExactKeepsEqsUptoRow : OpenClaim := { program := "ytbooflphoaaoeaagreat", sum := "e631b75ade62515ed28bb26fdced13a8539761c6efbf41b2ea0bc7e3ab955db4", func := "loop.example/g00895/laws.FnExactKeepsEqs", spec := "fnExactKeepsEqs", unfollowed := true, recurses := true, apart := false, narrowed := true }
def FnExactKeepsEqsUptoSaid : Prop := fnExactKeepsEqsUptoRow.holds Tryz.pinned (OpenSpec.upto fnExactKeepsEqsSpec)

/-- 'laws.FnExactClassesBy', WHERE WHAT IT READS IS OF BULK AT MOST 1048576: true; the input reads as it did. -/
def fnExactClassesByUptoRow : OpenClaim := { program := "ytbooflphoaaoeaagreat", sum := "e631b75ade62515ed28bb26fdced13a8539761c6efbf41b2ea0bc7e3ab955db4", func := "loop.example/g00895/laws.FnExactClassesBy", spec := "fnExactClassesBy", unfollowed := true, recurses := true, apart := false, narrowed := true }
def FnExactClassesByUptoSaid : Prop := fnExactClassesByUptoRow.holds Tryz.pinned (OpenSpec.upto fnExactClassesBySpec)

/-- 'laws.FnExactHoldAll', WHERE WHAT IT READS IS OF BULK AT MOST 1048576: true; the input reads as it did. -/
def fnExactHoldAllUptoRow : OpenClaim := { program := "ytbooflphoaaoeaagreat", sum := "e631b75ade62515ed28bb26fdced13a8539761c6efbf41b2ea0bc7e3ab955db4", func := "loop.example/g00895/laws.FnExactHoldAll", spec := "fnExactHoldAll", unfollowed := true, recurses := true, apart := false, narrowed := true }
def FnExactHoldAllUptoSaid : Prop := fnExactHoldAllUptoRow.holds Tryz.pinned (OpenSpec.upto fnExactHoldAllSpec)

/-- 'laws.FnExactSolutionsBy', WHERE WHAT IT READS IS OF BULK AT MOST 1048576: true; the input reads as it did. -/
def fnExactSolutionsByUptoRow : OpenClaim := { program := "ytbooflphoaaoeaagreat", sum := "e631b75ade62515ed28bb26fdced13a8539761c6efbf41b2ea0bc7e3ab955db4", func := "loop.example/g00895/laws.FnExactSolutionsBy", spec := "fnExactSolutionsBy", unfollowed := true, recurses := true, apart := false, narrowed := true }
def FnExactSolutionsByUptoSaid : Prop := fnExactSolutionsByUptoRow.holds Tryz.pinned (OpenSpec.upto fnExactSolutionsBySpec)

/-- 'laws.FnExactRefutedBy', WHERE WHAT IT READS IS OF BULK AT MOST 1048576: true; the input reads as it did. -/
def fnExactRefutedByUptoRow : OpenClaim := { program := "ytbooflphoaaoeaagreat", sum := "e631b75ade62515ed28bb26fdced13a8539761c6efbf41b2ea0bc7e3ab955db4", func := "loop.example/g00895/laws.FnExactRefutedBy", spec := "fnExactRefutedBy", unfollowed := true, recurses := true, apart := false, narrowed := true }
def FnExactRefutedByUptoSaid : Prop := fnExactRefutedByUptoRow.holds Tryz.pinned (OpenSpec.upto fnExactRefutedBySpec)

/-- 'laws.FnExactChainOfJoin', WHERE WHAT IT READS IS OF BULK AT MOST 1048576: true; the input reads as it did. -/
def fnExactChainOfJoinUptoRow : OpenClaim := { program := "ytbooflphoaaoeaagreat", sum := "e631b75ade62515ed28bb26fdced13a8539761c6efbf41b2ea0bc7e3ab955db4", func := "loop.example/g00895/laws.FnExactChainOfJoin", spec := "fnExactChainOfJoin", unfollowed := true, recurses := true, apart := false, narrowed := true }
def FnExactChainOfJoinUptoSaid : Prop := fnExactChainOfJoinUptoRow.holds Tryz.pinned (OpenSpec.upto fnExactChainOfJoinSpec)

end Rows
end Go.Proofs.YtbooflphoaaoeaaGreat
