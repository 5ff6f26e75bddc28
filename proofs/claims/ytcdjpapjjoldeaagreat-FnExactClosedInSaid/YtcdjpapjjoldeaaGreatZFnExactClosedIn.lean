/-
  FOR EVERY INPUT laws.FnExactClosedIn RETURNS TRUE, AND ITS ARGUMENTS READ AS BEFORE. Conditions: none beyond the statement's own.
-/
import Derived.Test.YtcdjpapjjoldeaaGreatRows
import Derived.Test.YtcdjpapjjoldeaaGreatQTL2
import Derived.Test.YtcdjpapjjoldeaaGreatQTB3
set_option linter.unusedSimpArgs false
set_option linter.unusedVariables false
namespace Go.Proofs.YtcdjpapjjoldeaaGreat.fnExactClosedIn
open Go X Go.ChangeShapes Go.WideShapes Go.ChangeAt Go.RowKit

theorem own : ownKnob Tryz.prog.godebug = none := by kernel_rfl
theorem laid : laidOutB Tryz.prog = true := by kernel_rfl

theorem cells190 : Tryz.prog.cellsOf 190 = 2 := by kernel_rfl
theorem cells62 : Tryz.prog.cellsOf 62 = 2 := by kernel_rfl
theorem cells60 : Tryz.prog.cellsOf 60 = 1 := by kernel_rfl
theorem cells24 : Tryz.prog.cellsOf 24 = 1 := by kernel_rfl
theorem cells22 : Tryz.prog.cellsOf 22 = 1 := by kernel_rfl
theorem cells2 : Tryz.prog.cellsOf 2 = 1 := by kernel_rfl
set_option maxRecDepth 100000 in
theorem contract (H : Type) (enc : TypeId × Value → H) (W : World) (base : Nat) (args : Array Value) (ds gs : List (DataW H)) (before : List MemPlace)
    (hval : ∀ (j : Nat) t v, Tryz.f5.params[j]? = some t → args[j]? = some v → Value.okWide Tryz.prog W .any base t v)
    (hW : DataW.Whole enc Tryz.prog Tryz.f5.params.toList Rows.fnExactClosedInSpec.vars false W args.toList ds gs before) :
    Calls Tryz.prog 5 args W fun e W' => ∃ v, e = .returned v ∧ Rows.fnExactClosedInSpec.post enc Tryz.prog Tryz.f5 false true false false W args v W' := by
  have hW' := hW
  obtain ⟨p, q, hA0, hV, rfl, hfz, hnd⟩ := hW
  have hA : DataW.TrodAll enc Tryz.prog W 0 (fun _ => true) true Tryz.f5.params.toList args.toList ds p := hA0
  rw [Tryz.params5] at hA hval
  obtain ⟨vq0, vs0, d0, ds0, p0, q0, hargs, rfl, rfl, t0, r0⟩ := trodAll_cons hA
  obtain ⟨rfl, rfl, rfl⟩ := trodAll_nil r0
  obtain ⟨args⟩ := args
  obtain rfl : args = [vq0] := hargs
  obtain ⟨rfl, rfl⟩ := trodVars_none hV
  have hv0 := hval 0 62 vq0 rfl rfl
  have o0 := opens_s2 Tryz.underlying62 rfl rfl rfl rfl cells24 cells60 cells62 rfl (opens_s1 Tryz.underlying24 rfl rfl cells22 cells24 (opens_ints Tryz.underlying22 Tryz.underlying2 cells2)) (opens_ps Tryz.underlying60 Tryz.underlying190 rfl rfl rfl rfl cells190 cells22 cells22 Tryz.underlying22 Tryz.underlying22 Tryz.underlying2 Tryz.underlying2 cells2 cells2)
  obtain ⟨_, rfl, ⟨x2, x7⟩, ⟨_, _, rfl, ⟨v1, rfl, h3⟩, ⟨v6, rfl, h8⟩⟩, ⟨b4, ⟨b9, c10⟩⟩⟩ := o0.agg Tryz.underlying62 hv0 t0
  refine (Does.atTop ((FnExactClosedIn_does h3 h8 (by first | assumption | omega | exact b4 | exact fun i hi => (b4 i hi).1) (by first | assumption | omega | exact b9 | exact fun i hi => (b9 i hi).1) (by first | assumption | omega | exact c10 | exact fun i hi => (c10 i hi).1)).mono ?_)).mono ?_
  · rintro v F' L' _ ⟨rfl, _, _⟩; rfl
  · rintro e W' ⟨rfl, hb⟩
    exact ⟨_, rfl, post_of_law rfl rfl laid (by kernel_rfl) (by kernel_rfl) Tryz.underlying4 hW' hb⟩

set_option maxRecDepth 100000 in
theorem lifted (os : Os) (started : os.Started) (H : Type) (enc : TypeId × Value → H) :
    ReturnsInHanded {} Tryz.checked os 5 .any (Rows.fnExactClosedInSpec.pre6 enc Tryz.prog Tryz.f5 Rows.fnExactClosedInRow.domain false) (Rows.fnExactClosedInSpec.post enc Tryz.prog Tryz.f5 false true false false) := by
  refine returnsInHanded_of_change (C := Tryz.checked) own started (by kernel_rfl) Tryz.func5
    (ChangeSpec.witness6 (enc := enc) (C := Tryz.checked) false ⟨#[], #[.agg #[.slice none 0 0, .slice none 0 0]], []⟩ 8 (by kernel_rfl) (by kernel_rfl) (by kernel_rfl) (by kernel_rfl)) ?_
  intro W base args ds gs before hval hW _ _
  exact contract H enc W base args ds gs before hval hW

theorem over : Rows.fnExactClosedInRow.holds Tryz.pinned (OpenSpec.ofChange Rows.fnExactClosedInSpec) :=
  OpenClaim.holds_of_wide 5 Tryz.f5 rfl rfl rfl rfl rfl rfl rfl ⟨rfl, rfl, rfl, rfl, rfl⟩ rfl rfl rfl rfl rfl (by kernel_rfl) Tryz.func5 (by kernel_rfl)
    (of_decide_eq_true (by kernel_rfl)) (by unfold Func.isWrapper; first | (rw [if_pos (by decide +kernel)]; kernel_rfl) | (rw [if_neg (by decide +kernel)]; exact ⟨rfl, rfl⟩))
    (fun os started H enc _ => lifted os started H enc)

theorem fnExactClosedIn_holds : Rows.FnExactClosedInSaid := over

end Go.Proofs.YtcdjpapjjoldeaaGreat.fnExactClosedIn
