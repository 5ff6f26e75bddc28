/-
  No cell of these rows narrows 'for every input' (looked for: loops, veiled, ifaces, maps, wideKeys, modest, calm, conditions, laid).
  DERIVED. THE GIVEN ROWS OF THIS SEAT. 7 by the template 'for every input the law returns true; each argument reads behind the call as it read before'; 0 by the template 'total and deterministic' (their statements: YtiaanelimbmniaaTotals.lean).
  GIVEN WITH THE SEED: the statements are not yours to turn. If you find one false, say at which input.
  Laid BY PROGRAM, IN A SANDBOX (cutbox-rows.mjs): the forced cells as the released guide's own fill.sh prints them over the translation b95dc3233c0dc9f4… (all of the seat's roots in one cut). By AI agents, Wed Nov 11 2026. No macro, syntax, notation, axiom, sorry.
-/
import Derived.Test.YtiaanelimbmniaaChecked
import GoSem.Claim
import GoSem.ClaimJoined
import GoSem.ClaimMapViews
import Derived.JoinedTies
import Derived.KernelRfl
namespace Go.Proofs.Ytiaanelimbmniaa
/- THE CELL 'sum', in the pinned program and in every row, IS THE sha256 OF THE DUMP (.gsa) THAT YtiaanelimbmniaaProg.lean LOADS. Nothing in Lean hashes anything: it is a label: what it is worth is what the hold of that sum in a sandbox is worth. -/
noncomputable def Try.pinned : Pinned := { name := "ytiaanelimbmniaa", sum := "b95dc3233c0dc9f49b77a64a3e3a12c6a05547c9b48d8a9551fdf941043d847a", checked := Try.checked }
namespace Rows
def none {H : Type} : Left H := { results := [], args := [] }

/-- 'laws.FnExactGrowthOf': WHATEVER THE INPUT: true; the input reads as it did. -/
def fnExactGrowthOfSpec : ChangeSpec := { name := "fnExactGrowthOf", fn := fun _ => fun
  | [d1, d2, d3] => { results := [.lit (.bool true)], args := [d1, d2, d3] }
  | _ => none }
def fnExactGrowthOfRow : OpenClaim := { program := "ytiaanelimbmniaa", sum := "b95dc3233c0dc9f49b77a64a3e3a12c6a05547c9b48d8a9551fdf941043d847a", func := "loop.example/g00895/laws.FnExactGrowthOf", spec := "fnExactGrowthOf", unfollowed := true, recurses := true, apart := false }
def FnExactGrowthOfSaid : Prop := fnExactGrowthOfRow.holds Try.pinned (OpenSpec.ofChange fnExactGrowthOfSpec)

/-- ITS FALSE NEIGHBOUR: 'it returns false'. Refute it at one input. -/
def fnExactGrowthOfWrong : ChangeSpec := { name := "fnExactGrowthOf", fn := fun _ => fun
  | [d1, d2, d3] => { results := [.lit (.bool false)], args := [d1, d2, d3] }
  | _ => none }
def FnExactGrowthOfWrongFalsely : Prop := fnExactGrowthOfRow.holds Try.pinned (OpenSpec.ofChange fnExactGrowthOfWrong)

/-- 'laws.FnExactLongestOf': WHATEVER THE INPUT: true; the input reads as it did. -/
def fnExactLongestOfSpec : ChangeSpec := { name := "fnExactLongestOf", fn := fun _ => fun
  | [d1, d2, d3] => { results := [.lit (.bool true)], args := [d1, d2, d3] }
  | _ => none }
def fnExactLongestOfRow : OpenClaim := { program := "ytiaanelimbmniaa", sum := "b95dc3233c0dc9f49b77a64a3e3a12c6a05547c9b48d8a9551fdf941043d847a", func := "loop.example/g00895/laws.FnExactLongestOf", spec := "fnExactLongestOf", inPlace := ["internal/abi.NoEscape"], unfollowed := true, recurses := true, apart := false }
def FnExactLongestOfSaid : Prop := fnExactLongestOfRow.holds Try.pinned (OpenSpec.ofChange fnExactLongestOfSpec)

/-- ITS FALSE NEIGHBOUR: 'it returns false'. Refute it at one input. -/
def fnExactLongestOfWrong : ChangeSpec := { name := "fnExactLongestOf", fn := fun _ => fun
  | [d1, d2, d3] => { results := [.lit (.bool false)], args := [d1, d2, d3] }
  | _ => none }
def FnExactLongestOfWrongFalsely : Prop := fnExactLongestOfRow.holds Try.pinned (OpenSpec.ofChange fnExactLongestOfWrong)

/-- 'laws.FnExactWalkFrom': WHATEVER THE INPUT: true; the input reads as it did. -/
def fnExactWalkFromSpec : ChangeSpec := { name := "fnExactWalkFrom", fn := fun _ => fun
  | [d1, d2, d3] => { results := [.lit (.bool true)], args := [d1, d2, d3] }
  | _ => none }
def fnExactWalkFromRow : OpenClaim := { program := "ytiaanelimbmniaa", sum := "b95dc3233c0dc9f49b77a64a3e3a12c6a05547c9b48d8a9551fdf941043d847a", func := "loop.example/g00895/laws.FnExactWalkFrom", spec := "fnExactWalkFrom", unfollowed := true, recurses := true, apart := false }
def FnExactWalkFromSaid : Prop := fnExactWalkFromRow.holds Try.pinned (OpenSpec.ofChange fnExactWalkFromSpec)

/-- ITS FALSE NEIGHBOUR: 'it returns false'. Refute it at one input. -/
def fnExactWalkFromWrong : ChangeSpec := { name := "fnExactWalkFrom", fn := fun _ => fun
  | [d1, d2, d3] => { results := [.lit (.bool false)], args := [d1, d2, d3] }
  | _ => none }
def FnExactWalkFromWrongFalsely : Prop := fnExactWalkFromRow.holds Try.pinned (OpenSpec.ofChange fnExactWalkFromWrong)

/-- 'laws.FnExactNormalsOf': WHATEVER THE INPUT: true; the input reads as it did. -/
def fnExactNormalsOfSpec : ChangeSpec := { name := "fnExactNormalsOf", fn := fun _ => fun
  | [d1, d2, d3] => { results := [.lit (.bool true)], args := [d1, d2, d3] }
  | _ => none }
def fnExactNormalsOfRow : OpenClaim := { program := "ytiaanelimbmniaa", sum := "b95dc3233c0dc9f49b77a64a3e3a12c6a05547c9b48d8a9551fdf941043d847a", func := "loop.example/g00895/laws.FnExactNormalsOf", spec := "fnExactNormalsOf", unfollowed := true, recurses := true, apart := false }
def FnExactNormalsOfSaid : Prop := fnExactNormalsOfRow.holds Try.pinned (OpenSpec.ofChange fnExactNormalsOfSpec)

/-- ITS FALSE NEIGHBOUR: 'it returns false'. Refute it at one input. -/
def fnExactNormalsOfWrong : ChangeSpec := { name := "fnExactNormalsOf", fn := fun _ => fun
  | [d1, d2, d3] => { results := [.lit (.bool false)], args := [d1, d2, d3] }
  | _ => none }
def FnExactNormalsOfWrongFalsely : Prop := fnExactNormalsOfRow.holds Try.pinned (OpenSpec.ofChange fnExactNormalsOfWrong)

/-- 'laws.FnExactWalkTo': WHATEVER THE INPUT: true; the input reads as it did. -/
def fnExactWalkToSpec : ChangeSpec := { name := "fnExactWalkTo", fn := fun _ => fun
  | [d1, d2, d3, d4] => { results := [.lit (.bool true)], args := [d1, d2, d3, d4] }
  | _ => none }
def fnExactWalkToRow : OpenClaim := { program := "ytiaanelimbmniaa", sum := "b95dc3233c0dc9f49b77a64a3e3a12c6a05547c9b48d8a9551fdf941043d847a", func := "loop.example/g00895/laws.FnExactWalkTo", spec := "fnExactWalkTo", unfollowed := true, recurses := true, apart := false }
def FnExactWalkToSaid : Prop := fnExactWalkToRow.holds Try.pinned (OpenSpec.ofChange fnExactWalkToSpec)

/-- ITS FALSE NEIGHBOUR: 'it returns false'. Refute it at one input. -/
def fnExactWalkToWrong : ChangeSpec := { name := "fnExactWalkTo", fn := fun _ => fun
  | [d1, d2, d3, d4] => { results := [.lit (.bool false)], args := [d1, d2, d3, d4] }
  | _ => none }
def FnExactWalkToWrongFalsely : Prop := fnExactWalkToRow.holds Try.pinned (OpenSpec.ofChange fnExactWalkToWrong)

/-- 'laws.FnExactJoinOf': WHATEVER THE INPUT: true; the input reads as it did. -/
def fnExactJoinOfSpec : ChangeSpec := { name := "fnExactJoinOf", fn := fun _ => fun
  | [d1, d2, d3, d4] => { results := [.lit (.bool true)], args := [d1, d2, d3, d4] }
  | _ => none }
def fnExactJoinOfRow : OpenClaim := { program := "ytiaanelimbmniaa", sum := "b95dc3233c0dc9f49b77a64a3e3a12c6a05547c9b48d8a9551fdf941043d847a", func := "loop.example/g00895/laws.FnExactJoinOf", spec := "fnExactJoinOf", unfollowed := true, recurses := true, apart := false }
def FnExactJoinOfSaid : Prop := fnExactJoinOfRow.holds Try.pinned (OpenSpec.ofChange fnExactJoinOfSpec)

/-- ITS FALSE NEIGHBOUR: 'it returns false'. Refute it at one input. -/
def fnExactJoinOfWrong : ChangeSpec := { name := "fnExactJoinOf", fn := fun _ => fun
  | [d1, d2, d3, d4] => { results := [.lit (.bool false)], args := [d1, d2, d3, d4] }
  | _ => none }
def FnExactJoinOfWrongFalsely : Prop := fnExactJoinOfRow.holds Try.pinned (OpenSpec.ofChange fnExactJoinOfWrong)

/-- 'laws.FnExactLoopWithin': WHATEVER THE INPUT: true; the input reads as it did. -/
def fnExactLoopWithinSpec : ChangeSpec := { name := "fnExactLoopWithin", fn := fun _ => fun
  | [d1, d2] => { results := [.lit (.bool true)], args := [d1, d2] }
  | _ => none }
def fnExactLoopWithinRow : OpenClaim := { program := "ytiaanelimbmniaa", sum := "b95dc3233c0dc9f49b77a64a3e3a12c6a05547c9b48d8a9551fdf941043d847a", func := "loop.example/g00895/laws.FnExactLoopWithin", spec := "fnExactLoopWithin", unfollowed := true, recurses := true, apart := false }
def FnExactLoopWithinSaid : Prop := fnExactLoopWithinRow.holds Try.pinned (OpenSpec.ofChange fnExactLoopWithinSpec)

/-- ITS FALSE NEIGHBOUR: 'it returns false'. Refute it at one input. -/
def fnExactLoopWithinWrong : ChangeSpec := { name := "fnExactLoopWithin", fn := fun _ => fun
  | [d1, d2] => { results := [.lit (.bool false)], args := [d1, d2] }
  | _ => none }
def FnExactLoopWithinWrongFalsely : Prop := fnExactLoopWithinRow.holds Try.pinned (OpenSpec.ofChange fnExactLoopWithinWrong)

/- THE SECOND FORM. 'bulk': how many values and letters a reading holds, each counted each time it is reached (what is shared counts as often as it is met; a slice's spare places count too). A statement '..UptoSaid' is the law's where the arguments, and the package variables that the reading takes, are together of bulk at most 1048576: NARROWER than '..Said'. Prove '..Said' where nothing that the law and all that it calls make is longer than what came in: it says more and counts as full. Else prove '..UptoSaid'. A law counts once. -/
mutual
def uptoBulk {H : Type} : DataW H → Nat
  | .lit (.string bytes) => bytes.length + 1
  | .lit _ => 1
  | .nil => 1
  | .ptr d => uptoBulk d + 1
  | .slice elems spare => uptoBulkAll elems + uptoBulkAll spare + 1
  | .agg parts => uptoBulkAll parts + 1
  | .iface _ d => uptoBulk d + 1
  | .map entries => uptoBulkEntries entries + 1
  | .held _ => 1
def uptoBulkAll {H : Type} : List (DataW H) → Nat
  | [] => 0
  | d :: r => uptoBulk d + uptoBulkAll r
def uptoBulkEntries {H : Type} : List (Lit × DataW H) → Nat
  | [] => 0
  | x :: r => uptoBulkEntry x + uptoBulkEntries r
def uptoBulkEntry {H : Type} : Lit × DataW H → Nat
  | (.string bytes, d) => bytes.length + uptoBulk d + 1
  | (_, d) => uptoBulk d + 1
 end
def uptoSmall : (H : Type) → List (DataW H) → Bool := fun _ ds => decide (uptoBulkAll ds ≤ 1048576)
def OpenSpec.upto (s : _root_.Go.ChangeSpec) : _root_.Go.OpenSpec := { _root_.Go.OpenSpec.ofChange s with cond := some uptoSmall }

/-- 'laws.FnExactGrowthOf', WHERE WHAT IT READS IS OF BULK AT MOST 1048576: true; the input reads as it did. -/
def fnExactGrowthOfUptoRow : OpenClaim := { program := "ytiaanelimbmniaa", sum := "b95dc3233c0dc9f49b77a64a3e3a12c6a05547c9b48d8a9551fdf941043d847a", func := "loop.example/g00895/laws.FnExactGrowthOf", spec := "fnExactGrowthOf", unfollowed := true, recurses := true, apart := false, narrowed := true }
def FnExactGrowthOfUptoSaid : Prop := fnExactGrowthOfUptoRow.holds Try.pinned (OpenSpec.upto fnExactGrowthOfSpec)

/-- 'laws.FnExactLongestOf', WHERE WHAT IT READS IS OF BULK AT MOST 1048576: true; the input reads as it did. -/
def fnExactLongestOfUptoRow : OpenClaim := { program := "ytiaanelimbmniaa", sum := "b95dc3233c0dc9f49b77a64a3e3a12c6a05547c9b48d8a9551fdf941043d847a", func := "loop.example/g00895/laws.FnExactLongestOf", spec := "fnExactLongestOf", inPlace := ["internal/abi.NoEscape"], unfollowed := true, recurses := true, apart := false, narrowed := true }
def FnExactLongestOfUptoSaid : Prop := fnExactLongestOfUptoRow.holds Try.pinned (OpenSpec.upto fnExactLongestOfSpec)

/-- 'laws.FnExactWalkFrom', WHERE WHAT IT READS IS OF BULK AT MOST 1048576: true; the input reads as it did. -/
def fnExactWalkFromUptoRow : OpenClaim := { program := "ytiaanelimbmniaa", sum := "b95dc3233c0dc9f49b77a64a3e3a12c6a05547c9b48d8a9551fdf941043d847a", func := "loop.example/g00895/laws.FnExactWalkFrom", spec := "fnExactWalkFrom", unfollowed := true, recurses := true, apart := false, narrowed := true }
def FnExactWalkFromUptoSaid : Prop := fnExactWalkFromUptoRow.holds Try.pinned (OpenSpec.upto fnExactWalkFromSpec)

/-- 'laws.FnExactNormalsOf', WHERE WHAT IT READS IS OF BULK AT MOST 1048576: true; the input reads as it did. -/
def fnExactNormalsOfUptoRow : OpenClaim := { program := "ytiaanelimbmniaa", sum := "b95dc3233c0dc9f49b77a64a3e3a12c6a05547c9b48d8a9551fdf941043d847a", func := "loop.example/g00895/laws.FnExactNormalsOf", spec := "fnExactNormalsOf", unfollowed := true, recurses := true, apart := false, narrowed := true }
def FnExactNormalsOfUptoSaid : Prop := fnExactNormalsOfUptoRow.holds Try.pinned (OpenSpec.upto fnExactNormalsOfSpec)

/-- 'laws.FnExactWalkTo', WHERE WHAT IT READS IS OF BULK AT MOST 1048576: true; the input reads as it did. -/
def fnExactWalkToUptoRow : OpenClaim := { program := "ytiaanelimbmniaa", sum := "b95dc3233c0dc9f49b77a64a3e3a12c6a05547c9b48d8a9551fdf941043d847a", func := "loop.example/g00895/laws.FnExactWalkTo", spec := "fnExactWalkTo", unfollowed := true, recurses := true, apart := false, narrowed := true }
def FnExactWalkToUptoSaid : Prop := fnExactWalkToUptoRow.holds Try.pinned (OpenSpec.upto fnExactWalkToSpec)

/-- 'laws.FnExactJoinOf', WHERE WHAT IT READS IS OF BULK AT MOST 1048576: true; the input reads as it did. -/
def fnExactJoinOfUptoRow : OpenClaim := { program := "ytiaanelimbmniaa", sum := "b95dc3233c0dc9f49b77a64a3e3a12c6a05547c9b48d8a9551fdf941043d847a", func := "loop.example/g00895/laws.FnExactJoinOf", spec := "fnExactJoinOf", unfollowed := true, recurses := true, apart := false, narrowed := true }
def FnExactJoinOfUptoSaid : Prop := fnExactJoinOfUptoRow.holds Try.pinned (OpenSpec.upto fnExactJoinOfSpec)

/-- 'laws.FnExactLoopWithin', WHERE WHAT IT READS IS OF BULK AT MOST 1048576: true; the input reads as it did. -/
def fnExactLoopWithinUptoRow : OpenClaim := { program := "ytiaanelimbmniaa", sum := "b95dc3233c0dc9f49b77a64a3e3a12c6a05547c9b48d8a9551fdf941043d847a", func := "loop.example/g00895/laws.FnExactLoopWithin", spec := "fnExactLoopWithin", unfollowed := true, recurses := true, apart := false, narrowed := true }
def FnExactLoopWithinUptoSaid : Prop := fnExactLoopWithinUptoRow.holds Try.pinned (OpenSpec.upto fnExactLoopWithinSpec)

end Rows
end Go.Proofs.Ytiaanelimbmniaa
