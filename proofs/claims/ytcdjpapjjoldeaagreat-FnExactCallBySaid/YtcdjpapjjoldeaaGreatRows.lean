/-
  No cell of these rows narrows 'for every input' (looked for: loops, veiled, ifaces, maps, wideKeys, modest, calm, conditions, laid).
  DERIVED. THE GIVEN ROWS OF THIS SEAT. 4 by the template 'for every input the law returns true; each argument reads behind the call as it read before'; 0 by the template 'total and deterministic' (their statements: YtcdjpapjjoldeaaGreatTotals.lean).
  GIVEN WITH THE SEED: the statements are not yours to turn. If you find one false, say at which input.
  Laid BY PROGRAM, IN A SANDBOX (cutbox-rows.mjs): the forced cells as the released guide's own fill.sh prints them over the translation 7e9ae942ed3b357b… (all of the seat's roots in one cut). By AI agents, Wed Nov 11 2026. No macro, syntax, notation, axiom, sorry.
-/
import Derived.Test.YtcdjpapjjoldeaaGreatChecked
import GoSem.Claim
import GoSem.ClaimJoined
import GoSem.ClaimMapViews
import Derived.JoinedTies
import Derived.KernelRfl
namespace Go.Proofs.YtcdjpapjjoldeaaGreat
/- THE CELL 'sum', in the pinned program and in every row, IS THE sha256 OF THE DUMP (.gsa) THAT YtcdjpapjjoldeaaGreatProg.lean LOADS. Nothing in Lean hashes anything: it is a label: what it is worth is what the hold of that sum in a sandbox is worth. -/
noncomputable def Tryz.pinned : Pinned := { name := "ytcdjpapjjoldeaagreat", sum := "7e9ae942ed3b357b007994d97dff660d73141b81e9fdf381284f451bdaac4726", checked := Tryz.checked }
namespace Rows
def none {H : Type} : Left H := { results := [], args := [] }

/-- 'laws.FnExactCallBy': WHATEVER THE INPUT: true; the input reads as it did. -/
def fnExactCallBySpec : ChangeSpec := { name := "fnExactCallBy", fn := fun _ => fun
  | [d1, d2, d3] => { results := [.lit (.bool true)], args := [d1, d2, d3] }
  | _ => none }
def fnExactCallByRow : OpenClaim := { program := "ytcdjpapjjoldeaagreat", sum := "7e9ae942ed3b357b007994d97dff660d73141b81e9fdf381284f451bdaac4726", func := "loop.example/g00895/laws.FnExactCallBy", spec := "fnExactCallBy", unfollowed := true, recurses := true, apart := false }
def FnExactCallBySaid : Prop := fnExactCallByRow.holds Tryz.pinned (OpenSpec.ofChange fnExactCallBySpec)

/-- ITS FALSE NEIGHBOUR: 'it returns false'. Refute it at one input. -/
def fnExactCallByWrong : ChangeSpec := { name := "fnExactCallBy", fn := fun _ => fun
  | [d1, d2, d3] => { results := [.lit (.bool false)], args := [d1, d2, d3] }
  | _ => none }
def FnExactCallByWrongFalsely : Prop := fnExactCallByRow.holds Tryz.pinned (OpenSpec.ofChange fnExactCallByWrong)

/-- 'laws.FnWorkParts': WHATEVER THE INPUT: true; the input reads as it did. -/
def fnWorkPartsSpec : ChangeSpec := { name := "fnWorkParts", fn := fun _ => fun
  | [d] => { results := [.lit (.bool true)], args := [d] }
  | _ => none }
def fnWorkPartsRow : OpenClaim := { program := "ytcdjpapjjoldeaagreat", sum := "7e9ae942ed3b357b007994d97dff660d73141b81e9fdf381284f451bdaac4726", func := "loop.example/g00895/laws.FnWorkParts", spec := "fnWorkParts", unfollowed := true, recurses := true, apart := false }
def FnWorkPartsSaid : Prop := fnWorkPartsRow.holds Tryz.pinned (OpenSpec.ofChange fnWorkPartsSpec)

/-- ITS FALSE NEIGHBOUR: 'it returns false'. Refute it at one input. -/
def fnWorkPartsWrong : ChangeSpec := { name := "fnWorkParts", fn := fun _ => fun
  | [d] => { results := [.lit (.bool false)], args := [d] }
  | _ => none }
def FnWorkPartsWrongFalsely : Prop := fnWorkPartsRow.holds Tryz.pinned (OpenSpec.ofChange fnWorkPartsWrong)

/-- 'laws.FnExactClosedIn': WHATEVER THE INPUT: true; the input reads as it did. -/
def fnExactClosedInSpec : ChangeSpec := { name := "fnExactClosedIn", fn := fun _ => fun
  | [d] => { results := [.lit (.bool true)], args := [d] }
  | _ => none }
def fnExactClosedInRow : OpenClaim := { program := "ytcdjpapjjoldeaagreat", sum := "7e9ae942ed3b357b007994d97dff660d73141b81e9fdf381284f451bdaac4726", func := "loop.example/g00895/laws.FnExactClosedIn", spec := "fnExactClosedIn", unfollowed := true, recurses := true, apart := false }
def FnExactClosedInSaid : Prop := fnExactClosedInRow.holds Tryz.pinned (OpenSpec.ofChange fnExactClosedInSpec)

/-- ITS FALSE NEIGHBOUR: 'it returns false'. Refute it at one input. -/
def fnExactClosedInWrong : ChangeSpec := { name := "fnExactClosedIn", fn := fun _ => fun
  | [d] => { results := [.lit (.bool false)], args := [d] }
  | _ => none }
def FnExactClosedInWrongFalsely : Prop := fnExactClosedInRow.holds Tryz.pinned (OpenSpec.ofChange fnExactClosedInWrong)

/-- 'laws.FnCalls': WHATEVER THE INPUT: true; the input reads as it did. -/
def fnCallsSpec : ChangeSpec := { name := "fnCalls", fn := fun _ => fun
  | [d] => { results := [.lit (.bool true)], args := [d] }
  | _ => none }
def fnCallsRow : OpenClaim := { program := "ytcdjpapjjoldeaagreat", sum := "7e9ae942ed3b357b007994d97dff660d73141b81e9fdf381284f451bdaac4726", func := "loop.example/g00895/laws.FnCalls", spec := "fnCalls", unfollowed := true, recurses := true, apart := false }
def FnCallsSaid : Prop := fnCallsRow.holds Tryz.pinned (OpenSpec.ofChange fnCallsSpec)

/-- ITS FALSE NEIGHBOUR: 'it returns false'. Refute it at one input. -/
def fnCallsWrong : ChangeSpec := { name := "fnCalls", fn := fun _ => fun
  | [d] => { results := [.lit (.bool false)], args := [d] }
  | _ => none }
def FnCallsWrongFalsely : Prop := fnCallsRow.holds Tryz.pinned (OpenSpec.ofChange fnCallsWrong)

/- THE SECOND FORM. 'bulk': how many values and letters a reading holds, each counted each time it is reached (what is shared counts as often as it is met; a slice's spare places count too). A statement '..UptoSaid' is the law's where the arguments, and the package variables that the reading takes, are together of bulk at most 1048576: NARROWER than '..Said'. Prove '..Said' where nothing that the law and all that it calls make is longer than what came in: it says more and counts as full. Else prove '..UptoSaid'. A law counts once. -/
mutual
def uptoBulk {H : Type} : DataW H → Nat
  | .lit (.string bytes) => bytes.length + 1
  | .lit _ => 1
  | .nil => 1
  | .ptr d => uptoBulk d + 1
  | .slice elems spare => uptoBulkAll elems + uptoBulkAll spare + 1
  | .agg parts => uptoBulkAll parts + 1
  | .iface _ d => uptoBulk d + 1
  | .map entries => uptoBulkEntries entries + 1
  | .held _ => 1
def uptoBulkAll {H : Type} : List (DataW H) → Nat
  | [] => 0
  | d :: r => uptoBulk d + uptoBulkAll r
def uptoBulkEntries {H : Type} : List (Lit × DataW H) → Nat
  | [] => 0
  | x :: r => uptoBulkEntry x + uptoBulkEntries r
def uptoBulkEntry {H : Type} : Lit × DataW H → Nat
  | (.string bytes, d) => bytes.length + uptoBulk d + 1
  | (_, d) => uptoBulk d + 1
 end
def uptoSmall : (H : Type) → List (DataW H) → Bool := fun _ ds => decide (uptoBulkAll ds ≤ 1048576)
def OpenSpec.upto (s : _root_.Go.ChangeSpec) : _root_.Go.OpenSpec := { _root_.Go.OpenSpec.ofChange s with cond := some uptoSmall }

/-- 'laws.FnExactCallBy', WHERE WHAT IT READS IS OF BULK AT MOST 1048576: true; the input reads as it did. -/
def fnExactCallByUptoRow : OpenClaim := { program := "ytcdjpapjjoldeaagreat", sum := "7e9ae942ed3b357b007994d97dff660d73141b81e9fdf381284f451bdaac4726", func := "loop.example/g00895/laws.FnExactCallBy", spec := "fnExactCallBy", unfollowed := true, recurses := true, apart := false, narrowed := true }
def FnExactCallByUptoSaid : Prop := fnExactCallByUptoRow.holds Tryz.pinned (OpenSpec.upto fnExactCallBySpec)

/-- 'laws.FnWorkParts', WHERE WHAT IT READS IS OF BULK AT MOST 1048576: true; the input reads as it did. -/
def fnWorkPartsUptoRow : OpenClaim := { program := "ytcdjpapjjoldeaagreat", sum := "7e9ae942ed3b357b007994d97dff660d73141b81e9fdf381284f451bdaac4726", func := "loop.example/g00895/laws.FnWorkParts", spec := "fnWorkParts", unfollowed := true, recurses := true, apart := false, narrowed := true }
def FnWorkPartsUptoSaid : Prop := fnWorkPartsUptoRow.holds Tryz.pinned (OpenSpec.upto fnWorkPartsSpec)

/-- 'laws.FnExactClosedIn', WHERE WHAT IT READS IS OF BULK AT MOST 1048576: true; the input reads as it did. -/
def fnExactClosedInUptoRow : OpenClaim := { program := "ytcdjpapjjoldeaagreat", sum := "7e9ae942ed3b357b007994d97dff660d73141b81e9fdf381284f451bdaac4726", func := "loop.example/g00895/laws.FnExactClosedIn", spec := "fnExactClosedIn", unfollowed := true, recurses := true, apart := false, narrowed := true }
def FnExactClosedInUptoSaid : Prop := fnExactClosedInUptoRow.holds Tryz.pinned (OpenSpec.upto fnExactClosedInSpec)

/-- 'laws.FnCalls', WHERE WHAT IT READS IS OF BULK AT MOST 1048576: true; the input reads as it did. -/
def fnCallsUptoRow : OpenClaim := { program := "ytcdjpapjjoldeaagreat", sum := "7e9ae942ed3b357b007994d97dff660d73141b81e9fdf381284f451bdaac4726", func := "loop.example/g00895/laws.FnCalls", spec := "fnCalls", unfollowed := true, recurses := true, apart := false, narrowed := true }
def FnCallsUptoSaid : Prop := fnCallsUptoRow.holds Tryz.pinned (OpenSpec.upto fnCallsSpec)

end Rows
end Go.Proofs.YtcdjpapjjoldeaaGreat
