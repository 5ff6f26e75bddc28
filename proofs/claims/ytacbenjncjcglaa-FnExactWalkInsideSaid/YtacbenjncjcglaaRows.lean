/-
  No cell of these rows narrows 'for every input' (looked for: loops, veiled, ifaces, maps, wideKeys, modest, calm, conditions, laid).
  DERIVED. THE GIVEN ROWS OF THIS SEAT. 10 by the template 'for every input the law returns true; each argument reads behind the call as it read before'; 0 by the template 'total and deterministic' (their statements: YtacbenjncjcglaaTotals.lean).
  GIVEN WITH THE SEED: the statements are not yours to turn. If you find one false, say at which input.
  Laid BY PROGRAM, IN A SANDBOX (cutbox-rows.mjs): the forced cells as the released guide's own fill.sh prints them over the translation 31ac8fdb510bfaf7… (all of the seat's roots in one cut). By AI agents, Wed Nov 11 2026. No macro, syntax, notation, axiom, sorry.
-/
import Derived.Test.YtacbenjncjcglaaChecked
import GoSem.Claim
import GoSem.ClaimJoined
import GoSem.ClaimMapViews
import Derived.JoinedTies
import Derived.KernelRfl
namespace Go.Proofs.Ytacbenjncjcglaa
/- THE CELL 'sum', in the pinned program and in every row, IS THE sha256 OF THE DUMP (.gsa) THAT YtacbenjncjcglaaProg.lean LOADS. Nothing in Lean hashes anything: it is a label: what it is worth is what the hold of that sum in a sandbox is worth. -/
noncomputable def Try.pinned : Pinned := { name := "ytacbenjncjcglaa", sum := "31ac8fdb510bfaf7f9c9be5a20aa7f011dbfe99fd2cb3f8dd9d4cf8ea3dc2b7a", checked := Try.checked }
namespace Rows
def none {H : Type} : Left H := { results := [], args := [] }

/-- 'laws.FnRedexes': WHATEVER THE INPUT: true; the input reads as it did. -/
def fnRedexesSpec : ChangeSpec := { name := "fnRedexes", fn := fun _ => fun
  | [d] => { results := [.lit (.bool true)], args := [d] }
  | _ => none }
def fnRedexesRow : OpenClaim := { program := "ytacbenjncjcglaa", sum := "31ac8fdb510bfaf7f9c9be5a20aa7f011dbfe99fd2cb3f8dd9d4cf8ea3dc2b7a", func := "loop.example/g00895/laws.FnRedexes", spec := "fnRedexes", unfollowed := true, recurses := true, apart := false }
def FnRedexesSaid : Prop := fnRedexesRow.holds Try.pinned (OpenSpec.ofChange fnRedexesSpec)

/-- ITS FALSE NEIGHBOUR: 'it returns false'. Refute it at one input. -/
def fnRedexesWrong : ChangeSpec := { name := "fnRedexes", fn := fun _ => fun
  | [d] => { results := [.lit (.bool false)], args := [d] }
  | _ => none }
def FnRedexesWrongFalsely : Prop := fnRedexesRow.holds Try.pinned (OpenSpec.ofChange fnRedexesWrong)

/-- 'laws.FnExactCountBy': WHATEVER THE INPUT: true; the input reads as it did. -/
def fnExactCountBySpec : ChangeSpec := { name := "fnExactCountBy", fn := fun _ => fun
  | [d1, d2, d3, d4] => { results := [.lit (.bool true)], args := [d1, d2, d3, d4] }
  | _ => none }
def fnExactCountByRow : OpenClaim := { program := "ytacbenjncjcglaa", sum := "31ac8fdb510bfaf7f9c9be5a20aa7f011dbfe99fd2cb3f8dd9d4cf8ea3dc2b7a", func := "loop.example/g00895/laws.FnExactCountBy", spec := "fnExactCountBy", unfollowed := true, recurses := true, apart := false }
def FnExactCountBySaid : Prop := fnExactCountByRow.holds Try.pinned (OpenSpec.ofChange fnExactCountBySpec)

/-- ITS FALSE NEIGHBOUR: 'it returns false'. Refute it at one input. -/
def fnExactCountByWrong : ChangeSpec := { name := "fnExactCountBy", fn := fun _ => fun
  | [d1, d2, d3, d4] => { results := [.lit (.bool false)], args := [d1, d2, d3, d4] }
  | _ => none }
def FnExactCountByWrongFalsely : Prop := fnExactCountByRow.holds Try.pinned (OpenSpec.ofChange fnExactCountByWrong)

/-- 'laws.FnExactReachOf': WHATEVER THE INPUT: true; the input reads as it did. -/
def fnExactReachOfSpec : ChangeSpec := { name := "fnExactReachOf", fn := fun _ => fun
  | [d1, d2, d3] => { results := [.lit (.bool true)], args := [d1, d2, d3] }
  | _ => none }
def fnExactReachOfRow : OpenClaim := { program := "ytacbenjncjcglaa", sum := "31ac8fdb510bfaf7f9c9be5a20aa7f011dbfe99fd2cb3f8dd9d4cf8ea3dc2b7a", func := "loop.example/g00895/laws.FnExactReachOf", spec := "fnExactReachOf", unfollowed := true, recurses := true, apart := false }
def FnExactReachOfSaid : Prop := fnExactReachOfRow.holds Try.pinned (OpenSpec.ofChange fnExactReachOfSpec)

/-- ITS FALSE NEIGHBOUR: 'it returns false'. Refute it at one input. -/
def fnExactReachOfWrong : ChangeSpec := { name := "fnExactReachOf", fn := fun _ => fun
  | [d1, d2, d3] => { results := [.lit (.bool false)], args := [d1, d2, d3] }
  | _ => none }
def FnExactReachOfWrongFalsely : Prop := fnExactReachOfRow.holds Try.pinned (OpenSpec.ofChange fnExactReachOfWrong)

/-- 'laws.FnExactEndTerm': WHATEVER THE INPUT: true; the input reads as it did. -/
def fnExactEndTermSpec : ChangeSpec := { name := "fnExactEndTerm", fn := fun _ => fun
  | [d1, d2] => { results := [.lit (.bool true)], args := [d1, d2] }
  | _ => none }
def fnExactEndTermRow : OpenClaim := { program := "ytacbenjncjcglaa", sum := "31ac8fdb510bfaf7f9c9be5a20aa7f011dbfe99fd2cb3f8dd9d4cf8ea3dc2b7a", func := "loop.example/g00895/laws.FnExactEndTerm", spec := "fnExactEndTerm", unfollowed := true, recurses := true, apart := false }
def FnExactEndTermSaid : Prop := fnExactEndTermRow.holds Try.pinned (OpenSpec.ofChange fnExactEndTermSpec)

/-- ITS FALSE NEIGHBOUR: 'it returns false'. Refute it at one input. -/
def fnExactEndTermWrong : ChangeSpec := { name := "fnExactEndTerm", fn := fun _ => fun
  | [d1, d2] => { results := [.lit (.bool false)], args := [d1, d2] }
  | _ => none }
def FnExactEndTermWrongFalsely : Prop := fnExactEndTermRow.holds Try.pinned (OpenSpec.ofChange fnExactEndTermWrong)

/-- 'laws.FnSteps': WHATEVER THE INPUT: true; the input reads as it did. -/
def fnStepsSpec : ChangeSpec := { name := "fnSteps", fn := fun _ => fun
  | [d] => { results := [.lit (.bool true)], args := [d] }
  | _ => none }
def fnStepsRow : OpenClaim := { program := "ytacbenjncjcglaa", sum := "31ac8fdb510bfaf7f9c9be5a20aa7f011dbfe99fd2cb3f8dd9d4cf8ea3dc2b7a", func := "loop.example/g00895/laws.FnSteps", spec := "fnSteps", unfollowed := true, recurses := true, apart := false }
def FnStepsSaid : Prop := fnStepsRow.holds Try.pinned (OpenSpec.ofChange fnStepsSpec)

/-- ITS FALSE NEIGHBOUR: 'it returns false'. Refute it at one input. -/
def fnStepsWrong : ChangeSpec := { name := "fnSteps", fn := fun _ => fun
  | [d] => { results := [.lit (.bool false)], args := [d] }
  | _ => none }
def FnStepsWrongFalsely : Prop := fnStepsRow.holds Try.pinned (OpenSpec.ofChange fnStepsWrong)

/-- 'laws.FnExactNormalBy': WHATEVER THE INPUT: true; the input reads as it did. -/
def fnExactNormalBySpec : ChangeSpec := { name := "fnExactNormalBy", fn := fun _ => fun
  | [d1, d2, d3, d4] => { results := [.lit (.bool true)], args := [d1, d2, d3, d4] }
  | _ => none }
def fnExactNormalByRow : OpenClaim := { program := "ytacbenjncjcglaa", sum := "31ac8fdb510bfaf7f9c9be5a20aa7f011dbfe99fd2cb3f8dd9d4cf8ea3dc2b7a", func := "loop.example/g00895/laws.FnExactNormalBy", spec := "fnExactNormalBy", unfollowed := true, recurses := true, apart := false }
def FnExactNormalBySaid : Prop := fnExactNormalByRow.holds Try.pinned (OpenSpec.ofChange fnExactNormalBySpec)

/-- ITS FALSE NEIGHBOUR: 'it returns false'. Refute it at one input. -/
def fnExactNormalByWrong : ChangeSpec := { name := "fnExactNormalBy", fn := fun _ => fun
  | [d1, d2, d3, d4] => { results := [.lit (.bool false)], args := [d1, d2, d3, d4] }
  | _ => none }
def FnExactNormalByWrongFalsely : Prop := fnExactNormalByRow.holds Try.pinned (OpenSpec.ofChange fnExactNormalByWrong)

/-- 'laws.FnExactWalkInside': WHATEVER THE INPUT: true; the input reads as it did. -/
def fnExactWalkInsideSpec : ChangeSpec := { name := "fnExactWalkInside", fn := fun _ => fun
  | [d1, d2, d3, d4] => { results := [.lit (.bool true)], args := [d1, d2, d3, d4] }
  | _ => none }
def fnExactWalkInsideRow : OpenClaim := { program := "ytacbenjncjcglaa", sum := "31ac8fdb510bfaf7f9c9be5a20aa7f011dbfe99fd2cb3f8dd9d4cf8ea3dc2b7a", func := "loop.example/g00895/laws.FnExactWalkInside", spec := "fnExactWalkInside", unfollowed := true, recurses := true, apart := false }
def FnExactWalkInsideSaid : Prop := fnExactWalkInsideRow.holds Try.pinned (OpenSpec.ofChange fnExactWalkInsideSpec)

/-- ITS FALSE NEIGHBOUR: 'it returns false'. Refute it at one input. -/
def fnExactWalkInsideWrong : ChangeSpec := { name := "fnExactWalkInside", fn := fun _ => fun
  | [d1, d2, d3, d4] => { results := [.lit (.bool false)], args := [d1, d2, d3, d4] }
  | _ => none }
def FnExactWalkInsideWrongFalsely : Prop := fnExactWalkInsideRow.holds Try.pinned (OpenSpec.ofChange fnExactWalkInsideWrong)

/-- 'laws.FnExactJoinedWalk': WHATEVER THE INPUT: true; the input reads as it did. -/
def fnExactJoinedWalkSpec : ChangeSpec := { name := "fnExactJoinedWalk", fn := fun _ => fun
  | [d1, d2, d3] => { results := [.lit (.bool true)], args := [d1, d2, d3] }
  | _ => none }
def fnExactJoinedWalkRow : OpenClaim := { program := "ytacbenjncjcglaa", sum := "31ac8fdb510bfaf7f9c9be5a20aa7f011dbfe99fd2cb3f8dd9d4cf8ea3dc2b7a", func := "loop.example/g00895/laws.FnExactJoinedWalk", spec := "fnExactJoinedWalk", unfollowed := true, recurses := true, apart := false }
def FnExactJoinedWalkSaid : Prop := fnExactJoinedWalkRow.holds Try.pinned (OpenSpec.ofChange fnExactJoinedWalkSpec)

/-- ITS FALSE NEIGHBOUR: 'it returns false'. Refute it at one input. -/
def fnExactJoinedWalkWrong : ChangeSpec := { name := "fnExactJoinedWalk", fn := fun _ => fun
  | [d1, d2, d3] => { results := [.lit (.bool false)], args := [d1, d2, d3] }
  | _ => none }
def FnExactJoinedWalkWrongFalsely : Prop := fnExactJoinedWalkRow.holds Try.pinned (OpenSpec.ofChange fnExactJoinedWalkWrong)

/-- 'laws.FnExactWalkBy': WHATEVER THE INPUT: true; the input reads as it did. -/
def fnExactWalkBySpec : ChangeSpec := { name := "fnExactWalkBy", fn := fun _ => fun
  | [d1, d2, d3, d4] => { results := [.lit (.bool true)], args := [d1, d2, d3, d4] }
  | _ => none }
def fnExactWalkByRow : OpenClaim := { program := "ytacbenjncjcglaa", sum := "31ac8fdb510bfaf7f9c9be5a20aa7f011dbfe99fd2cb3f8dd9d4cf8ea3dc2b7a", func := "loop.example/g00895/laws.FnExactWalkBy", spec := "fnExactWalkBy", unfollowed := true, recurses := true, apart := false }
def FnExactWalkBySaid : Prop := fnExactWalkByRow.holds Try.pinned (OpenSpec.ofChange fnExactWalkBySpec)

/-- ITS FALSE NEIGHBOUR: 'it returns false'. Refute it at one input. -/
def fnExactWalkByWrong : ChangeSpec := { name := "fnExactWalkBy", fn := fun _ => fun
  | [d1, d2, d3, d4] => { results := [.lit (.bool false)], args := [d1, d2, d3, d4] }
  | _ => none }
def FnExactWalkByWrongFalsely : Prop := fnExactWalkByRow.holds Try.pinned (OpenSpec.ofChange fnExactWalkByWrong)

/-- 'laws.FnWalksGoOn': WHATEVER THE INPUT: true; the input reads as it did. -/
def fnWalksGoOnSpec : ChangeSpec := { name := "fnWalksGoOn", fn := fun _ => fun
  | [d] => { results := [.lit (.bool true)], args := [d] }
  | _ => none }
def fnWalksGoOnRow : OpenClaim := { program := "ytacbenjncjcglaa", sum := "31ac8fdb510bfaf7f9c9be5a20aa7f011dbfe99fd2cb3f8dd9d4cf8ea3dc2b7a", func := "loop.example/g00895/laws.FnWalksGoOn", spec := "fnWalksGoOn", unfollowed := true, recurses := true, apart := false }
def FnWalksGoOnSaid : Prop := fnWalksGoOnRow.holds Try.pinned (OpenSpec.ofChange fnWalksGoOnSpec)

/-- ITS FALSE NEIGHBOUR: 'it returns false'. Refute it at one input. -/
def fnWalksGoOnWrong : ChangeSpec := { name := "fnWalksGoOn", fn := fun _ => fun
  | [d] => { results := [.lit (.bool false)], args := [d] }
  | _ => none }
def FnWalksGoOnWrongFalsely : Prop := fnWalksGoOnRow.holds Try.pinned (OpenSpec.ofChange fnWalksGoOnWrong)

/- THE SECOND FORM. 'bulk': how many values and letters a reading holds, each counted each time it is reached (what is shared counts as often as it is met; a slice's spare places count too). A statement '..UptoSaid' is the law's where the arguments, and the package variables that the reading takes, are together of bulk at most 1048576: NARROWER than '..Said'. Prove '..Said' where nothing that the law and all that it calls make is longer than what came in: it says more and counts as full. Else prove '..UptoSaid'. A law counts once. -/
mutual
def uptoBulk {H : Type} : DataW H → Nat
  | .lit (.string bytes) => bytes.length + 1
  | .lit _ => 1
  | .nil => 1
  | .ptr d => uptoBulk d + 1
  | .slice elems spare => uptoBulkAll elems + uptoBulkAll spare + 1
  | .agg parts => uptoBulkAll parts + 1
  | .iface _ d => uptoBulk d + 1
  | .map entries => uptoBulkEntries entries + 1
  | .held _ => 1
def uptoBulkAll {H : Type} : List (DataW H) → Nat
  | [] => 0
  | d :: r => uptoBulk d + uptoBulkAll r
def uptoBulkEntries {H : Type} : List (Lit × DataW H) → Nat
  | [] => 0
  | x :: r => uptoBulkEntry x + uptoBulkEntries r
def uptoBulkEntry {H : Type} : Lit × DataW H → Nat
  | (.string bytes, d) => bytes.length + uptoBulk d + 1
  | (_, d) => uptoBulk d + 1
 end
def uptoSmall : (H : Type) → List (DataW H) → Bool := fun _ ds => decide (uptoBulkAll ds ≤ 1048576)
def OpenSpec.upto (s : _root_.Go.ChangeSpec) : _root_.Go.OpenSpec := { _root_.Go.OpenSpec.ofChange s with cond := some uptoSmall }

/-- 'laws.FnRedexes', WHERE WHAT IT READS IS OF BULK AT MOST 1048576: true; the input reads as it did. -/
def fnRedexesUptoRow : OpenClaim := { program := "ytacbenjncjcglaa", sum := "31ac8fdb510bfaf7f9c9be5a20aa7f011dbfe99fd2cb3f8dd9d4cf8ea3dc2b7a", func := "loop.example/g00895/laws.FnRedexes", spec := "fnRedexes", unfollowed := true, recurses := true, apart := false, narrowed := true }
def FnRedexesUptoSaid : Prop := fnRedexesUptoRow.holds Try.pinned (OpenSpec.upto fnRedexesSpec)

/-- 'laws.FnExactCountBy', WHERE WHAT IT READS IS OF BULK AT MOST 1048576: true; the input reads as it did. -/
def fnExactCountByUptoRow : OpenClaim := { program := "ytacbenjncjcglaa", sum := "31ac8fdb510bfaf7f9c9be5a20aa7f011dbfe99fd2cb3f8dd9d4cf8ea3dc2b7a", func := "loop.example/g00895/laws.FnExactCountBy", spec := "fnExactCountBy", unfollowed := true, recurses := true, apart := false, narrowed := true }
def FnExactCountByUptoSaid : Prop := fnExactCountByUptoRow.holds Try.pinned (OpenSpec.upto fnExactCountBySpec)

/-- 'laws.FnExactReachOf', WHERE WHAT IT READS IS OF BULK AT MOST 1048576: true; the input reads as it did. -/
def fnExactReachOfUptoRow : OpenClaim := { program := "ytacbenjncjcglaa", sum := "31ac8fdb510bfaf7f9c9be5a20aa7f011dbfe99fd2cb3f8dd9d4cf8ea3dc2b7a", func := "loop.example/g00895/laws.FnExactReachOf", spec := "fnExactReachOf", unfollowed := true, recurses := true, apart := false, narrowed := true }
def FnExactReachOfUptoSaid : Prop := fnExactReachOfUptoRow.holds Try.pinned (OpenSpec.upto fnExactReachOfSpec)

/-- 'laws.FnExactEndTerm', WHERE WHAT IT READS IS OF BULK AT MOST 1048576: true; the input reads as it did. -/
def fnExactEndTermUptoRow : OpenClaim := { program := "ytacbenjncjcglaa", sum := "31ac8fdb510bfaf7f9c9be5a20aa7f011dbfe99fd2cb3f8dd9d4cf8ea3dc2b7a", func := "loop.example/g00895/laws.FnExactEndTerm", spec := "fnExactEndTerm", unfollowed := true, recurses := true, apart := false, narrowed := true }
def FnExactEndTermUptoSaid : Prop := fnExactEndTermUptoRow.holds Try.pinned (OpenSpec.upto fnExactEndTermSpec)

/-- 'laws.FnSteps', WHERE WHAT IT READS IS OF BULK AT MOST 1048576: true; the input reads as it did. -/
def fnStepsUptoRow : OpenClaim := { program := "ytacbenjncjcglaa", sum := "31ac8fdb510bfaf7f9c9be5a20aa7f011dbfe99fd2cb3f8dd9d4cf8ea3dc2b7a", func := "loop.example/g00895/laws.FnSteps", spec := "fnSteps", unfollowed := true, recurses := true, apart := false, narrowed := true }
def FnStepsUptoSaid : Prop := fnStepsUptoRow.holds Try.pinned (OpenSpec.upto fnStepsSpec)

/-- 'laws.FnExactNormalBy', WHERE WHAT IT READS IS OF BULK AT MOST 1048576: true; the input reads as it did. -/
def fnExactNormalByUptoRow : OpenClaim := { program := "ytacbenjncjcglaa", sum := "31ac8fdb510bfaf7f9c9be5a20aa7f011dbfe99fd2cb3f8dd9d4cf8ea3dc2b7a", func := "loop.example/g00895/laws.FnExactNormalBy", spec := "fnExactNormalBy", unfollowed := true, recurses := true, apart := false, narrowed := true }
def FnExactNormalByUptoSaid : Prop := fnExactNormalByUptoRow.holds Try.pinned (OpenSpec.upto fnExactNormalBySpec)

/-- 'laws.FnExactWalkInside', WHERE WHAT IT READS IS OF BULK AT MOST 1048576: true; the input reads as it did. -/
def fnExactWalkInsideUptoRow : OpenClaim := { program := "ytacbenjncjcglaa", sum := "31ac8fdb510bfaf7f9c9be5a20aa7f011dbfe99fd2cb3f8dd9d4cf8ea3dc2b7a", func := "loop.example/g00895/laws.FnExactWalkInside", spec := "fnExactWalkInside", unfollowed := true, recurses := true, apart := false, narrowed := true }
def FnExactWalkInsideUptoSaid : Prop := fnExactWalkInsideUptoRow.holds Try.pinned (OpenSpec.upto fnExactWalkInsideSpec)

/-- 'laws.FnExactJoinedWalk', WHERE WHAT IT READS IS OF BULK AT MOST 1048576: true; the input reads as it did. -/
def fnExactJoinedWalkUptoRow : OpenClaim := { program := "ytacbenjncjcglaa", sum := "31ac8fdb510bfaf7f9c9be5a20aa7f011dbfe99fd2cb3f8dd9d4cf8ea3dc2b7a", func := "loop.example/g00895/laws.FnExactJoinedWalk", spec := "fnExactJoinedWalk", unfollowed := true, recurses := true, apart := false, narrowed := true }
def FnExactJoinedWalkUptoSaid : Prop := fnExactJoinedWalkUptoRow.holds Try.pinned (OpenSpec.upto fnExactJoinedWalkSpec)

/-- 'laws.FnExactWalkBy', WHERE WHAT IT READS IS OF BULK AT MOST 1048576: true; the input reads as it did. -/
def fnExactWalkByUptoRow : OpenClaim := { program := "ytacbenjncjcglaa", sum := "31ac8fdb510bfaf7f9c9be5a20aa7f011dbfe99fd2cb3f8dd9d4cf8ea3dc2b7a", func := "loop.example/g00895/laws.FnExactWalkBy", spec := "fnExactWalkBy", unfollowed := true, recurses := true, apart := false, narrowed := true }
def FnExactWalkByUptoSaid : Prop := fnExactWalkByUptoRow.holds Try.pinned (OpenSpec.upto fnExactWalkBySpec)

/-- 'laws.FnWalksGoOn', WHERE WHAT IT READS IS OF BULK AT MOST 1048576: true; the input reads as it did. -/
def fnWalksGoOnUptoRow : OpenClaim := { program := "ytacbenjncjcglaa", sum := "31ac8fdb510bfaf7f9c9be5a20aa7f011dbfe99fd2cb3f8dd9d4cf8ea3dc2b7a", func := "loop.example/g00895/laws.FnWalksGoOn", spec := "fnWalksGoOn", unfollowed := true, recurses := true, apart := false, narrowed := true }
def FnWalksGoOnUptoSaid : Prop := fnWalksGoOnUptoRow.holds Try.pinned (OpenSpec.upto fnWalksGoOnSpec)

end Rows
end Go.Proofs.Ytacbenjncjcglaa
