/-
  FOR EVERY INPUT laws.FnExactRootPeaks RETURNS TRUE, AND ITS ARGUMENTS READ AS BEFORE. Conditions: none beyond the statement's own.
-/
import Derived.Test.YtcdjpapjjoldeaaRows
import Derived.Test.YtcdjpapjjoldeaaQUL1
import Derived.Test.YtcdjpapjjoldeaaQUB3
set_option linter.unusedSimpArgs false
set_option linter.unusedVariables false
namespace Go.Proofs.Ytcdjpapjjoldeaa.fnExactRootPeaks
open Go X Go.ChangeShapes Go.WideShapes Go.ChangeAt Go.RowKit

theorem own : ownKnob Try.prog.godebug = none := by kernel_rfl
theorem laid : laidOutB Try.prog = true := by kernel_rfl

theorem cells161 : Try.prog.cellsOf 161 = 2 := by kernel_rfl
theorem cells58 : Try.prog.cellsOf 58 = 2 := by kernel_rfl
theorem cells56 : Try.prog.cellsOf 56 = 1 := by kernel_rfl
theorem cells55 : Try.prog.cellsOf 55 = 1 := by kernel_rfl
theorem cells27 : Try.prog.cellsOf 27 = 1 := by kernel_rfl
theorem cells2 : Try.prog.cellsOf 2 = 1 := by kernel_rfl
set_option maxRecDepth 100000 in
theorem contract (H : Type) (enc : TypeId × Value → H) (W : World) (base : Nat) (args : Array Value) (ds gs : List (DataW H)) (before : List MemPlace)
    (hval : ∀ (j : Nat) t v, Try.f8.params[j]? = some t → args[j]? = some v → Value.okWide Try.prog W .any base t v)
    (hW : DataW.Whole enc Try.prog Try.f8.params.toList Rows.fnExactRootPeaksSpec.vars false W args.toList ds gs before) :
    Calls Try.prog 8 args W fun e W' => ∃ v, e = .returned v ∧ Rows.fnExactRootPeaksSpec.post enc Try.prog Try.f8 false true false false W args v W' := by
  have hW' := hW
  obtain ⟨p, q, hA0, hV, rfl, hfz, hnd⟩ := hW
  have hA : DataW.TrodAll enc Try.prog W 0 (fun _ => true) true Try.f8.params.toList args.toList ds p := hA0
  rw [Try.params8] at hA hval
  obtain ⟨vq0, vs0, d0, ds0, p0, q0, hargs, rfl, rfl, t0, r0⟩ := trodAll_cons hA
  obtain ⟨rfl, rfl, rfl⟩ := trodAll_nil r0
  obtain ⟨args⟩ := args
  obtain rfl : args = [vq0] := hargs
  obtain ⟨rfl, rfl⟩ := trodVars_none hV
  have hv0 := hval 0 58 vq0 rfl rfl
  have o0 := opens_s2 Try.underlying58 rfl rfl rfl rfl cells55 cells56 cells58 rfl (opens_s1 Try.underlying55 rfl rfl cells27 cells55 (opens_ints Try.underlying27 Try.underlying2 cells2)) (opens_ps Try.underlying56 Try.underlying161 rfl rfl rfl rfl cells161 cells27 cells27 Try.underlying27 Try.underlying27 Try.underlying2 Try.underlying2 cells2 cells2)
  obtain ⟨_, rfl, ⟨x2, x7⟩, ⟨_, _, rfl, ⟨v1, rfl, h3⟩, ⟨v6, rfl, h8⟩⟩, ⟨b4, ⟨b9, c10⟩⟩⟩ := o0.agg Try.underlying58 hv0 t0
  refine (Does.atTop ((FnExactRootPeaks_does h3 h8 (by first | assumption | omega | exact b4 | exact fun i hi => (b4 i hi).1) (by first | assumption | omega | exact b9 | exact fun i hi => (b9 i hi).1) (by first | assumption | omega | exact c10 | exact fun i hi => (c10 i hi).1)).mono ?_)).mono ?_
  · rintro v F' L' _ ⟨rfl, _, _⟩; rfl
  · rintro e W' ⟨rfl, hb⟩
    exact ⟨_, rfl, post_of_law rfl rfl laid (by kernel_rfl) (by kernel_rfl) Try.underlying4 hW' hb⟩

set_option maxRecDepth 100000 in
theorem lifted (os : Os) (started : os.Started) (H : Type) (enc : TypeId × Value → H) :
    ReturnsInHanded {} Try.checked os 8 .any (Rows.fnExactRootPeaksSpec.pre6 enc Try.prog Try.f8 Rows.fnExactRootPeaksRow.domain false) (Rows.fnExactRootPeaksSpec.post enc Try.prog Try.f8 false true false false) := by
  refine returnsInHanded_of_change (C := Try.checked) own started (by kernel_rfl) Try.func8
    (ChangeSpec.witness6 (enc := enc) (C := Try.checked) false ⟨#[], #[.agg #[.slice none 0 0, .slice none 0 0]], []⟩ 8 (by kernel_rfl) (by kernel_rfl) (by kernel_rfl) (by kernel_rfl)) ?_
  intro W base args ds gs before hval hW _ _
  exact contract H enc W base args ds gs before hval hW

theorem over : Rows.fnExactRootPeaksRow.holds Try.pinned (OpenSpec.ofChange Rows.fnExactRootPeaksSpec) :=
  OpenClaim.holds_of_wide 8 Try.f8 rfl rfl rfl rfl rfl rfl rfl ⟨rfl, rfl, rfl, rfl, rfl⟩ rfl rfl rfl rfl rfl (by kernel_rfl) Try.func8 (by kernel_rfl)
    (of_decide_eq_true (by kernel_rfl)) (by unfold Func.isWrapper; first | (rw [if_pos (by decide +kernel)]; kernel_rfl) | (rw [if_neg (by decide +kernel)]; exact ⟨rfl, rfl⟩))
    (fun os started H enc _ => lifted os started H enc)

theorem fnExactRootPeaks_holds : Rows.FnExactRootPeaksSaid := over

end Go.Proofs.Ytcdjpapjjoldeaa.fnExactRootPeaks
