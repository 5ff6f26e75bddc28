/-
  FOR EVERY INPUT laws.FnExactJoinedPeak RETURNS TRUE, AND ITS ARGUMENTS READ AS BEFORE. Conditions: none beyond the statement's own.
-/
import Derived.Test.YtiaanelimbmniaaGreatRows
import Derived.Test.YtiaanelimbmniaaGreatQxL1
import Derived.Test.YtiaanelimbmniaaGreatQxB4
set_option linter.unusedSimpArgs false
set_option linter.unusedVariables false
namespace Go.Proofs.YtiaanelimbmniaaGreat.fnExactJoinedPeak
open Go X Go.ChangeShapes Go.WideShapes Go.ChangeAt Go.RowKit

theorem own : ownKnob Tryz.prog.godebug = none := by kernel_rfl
theorem laid : laidOutB Tryz.prog = true := by kernel_rfl

theorem cells127 : Tryz.prog.cellsOf 127 = 2 := by kernel_rfl
theorem cells70 : Tryz.prog.cellsOf 70 = 6 := by kernel_rfl
theorem cells27 : Tryz.prog.cellsOf 27 = 2 := by kernel_rfl
theorem cells25 : Tryz.prog.cellsOf 25 = 1 := by kernel_rfl
theorem cells24 : Tryz.prog.cellsOf 24 = 1 := by kernel_rfl
theorem cells22 : Tryz.prog.cellsOf 22 = 1 := by kernel_rfl
theorem cells2 : Tryz.prog.cellsOf 2 = 1 := by kernel_rfl
set_option maxRecDepth 100000 in
theorem contract (H : Type) (enc : TypeId × Value → H) (W : World) (base : Nat) (args : Array Value) (ds gs : List (DataW H)) (before : List MemPlace)
    (hval : ∀ (j : Nat) t v, Tryz.f7.params[j]? = some t → args[j]? = some v → Value.okWide Tryz.prog W .any base t v)
    (hW : DataW.Whole enc Tryz.prog Tryz.f7.params.toList Rows.fnExactJoinedPeakSpec.vars false W args.toList ds gs before) :
    Calls Tryz.prog 7 args W fun e W' => ∃ v, e = .returned v ∧ Rows.fnExactJoinedPeakSpec.post enc Tryz.prog Tryz.f7 false true false false W args v W' := by
  have hW' := hW
  obtain ⟨p, q, hA0, hV, rfl, hfz, hnd⟩ := hW
  have hA : DataW.TrodAll enc Tryz.prog W 0 (fun _ => true) true Tryz.f7.params.toList args.toList ds p := hA0
  rw [Tryz.params7] at hA hval
  obtain ⟨vq0, vs0, d0, ds0, p0, q0, hargs, rfl, rfl, t0, r0⟩ := trodAll_cons hA
  obtain ⟨vq1, vs1, d1, ds1, p1, q1, rfl, rfl, rfl, t1, r1⟩ := trodAll_cons r0
  obtain ⟨vq2, vs2, d2, ds2, p2, q2, rfl, rfl, rfl, t2, r2⟩ := trodAll_cons r1
  obtain ⟨rfl, rfl, rfl⟩ := trodAll_nil r2
  obtain ⟨args⟩ := args
  obtain rfl : args = [vq0, vq1, vq2] := hargs
  obtain ⟨rfl, rfl⟩ := trodVars_none hV
  have hv0 := hval 0 27 vq0 rfl rfl
  have o0 := opens_s2 Tryz.underlying27 rfl rfl rfl rfl cells24 cells25 cells27 rfl (opens_s1 Tryz.underlying24 rfl rfl cells22 cells24 (opens_ints Tryz.underlying22 Tryz.underlying2 cells2)) (opens_ps Tryz.underlying25 Tryz.underlying127 rfl rfl rfl rfl cells127 cells22 cells22 Tryz.underlying22 Tryz.underlying22 Tryz.underlying2 Tryz.underlying2 cells2 cells2)
  obtain ⟨_, rfl, ⟨x2, x7⟩, ⟨_, _, rfl, ⟨v1, rfl, h3⟩, ⟨v6, rfl, h8⟩⟩, ⟨b4, ⟨b9, c10⟩⟩⟩ := o0.agg Tryz.underlying27 hv0 t0
  have hv1 := hval 1 70 vq1 rfl rfl
  have o1 := opens_s6 Tryz.underlying70 rfl rfl rfl rfl rfl rfl rfl rfl rfl rfl rfl rfl cells22 cells22 cells22 cells2 cells2 cells2 cells70 rfl (opens_ints Tryz.underlying22 Tryz.underlying2 cells2) (opens_ints Tryz.underlying22 Tryz.underlying2 cells2) (opens_ints Tryz.underlying22 Tryz.underlying2 cells2) (opens_int Tryz.underlying2) (opens_int Tryz.underlying2) (opens_int Tryz.underlying2)
  obtain ⟨_, rfl, ⟨x12, x17, x22, x26, x28, x30⟩, ⟨_, _, _, _, _, _, rfl, ⟨v11, rfl, h13⟩, ⟨v16, rfl, h18⟩, ⟨v21, rfl, h23⟩, rfl, rfl, rfl⟩, ⟨b14, b19, b24, b27, b29, b31⟩⟩ := o1.agg Tryz.underlying70 hv1 t1
  have hv2 := hval 2 2 vq2 rfl rfl
  obtain ⟨x32, rfl, b33⟩ := Opens.int Tryz.underlying2 hv2 t2
  replace b33 := b33
  refine (Does.atTop ((FnExactJoinedPeak_does h3 h8 h13 h18 h23 (by first | assumption | omega | exact b4 | exact fun i hi => (b4 i hi).1) (by first | assumption | omega | exact b9 | exact fun i hi => (b9 i hi).1) (by first | assumption | omega | exact c10 | exact fun i hi => (c10 i hi).1) (by first | assumption | omega | exact b14 | exact fun i hi => (b14 i hi).1) (by first | assumption | omega | exact b19 | exact fun i hi => (b19 i hi).1) (by first | assumption | omega | exact b24 | exact fun i hi => (b24 i hi).1)).mono ?_)).mono ?_
  · rintro v F' L' _ ⟨rfl, _, _⟩; rfl
  · rintro e W' ⟨rfl, hb⟩
    exact ⟨_, rfl, post_of_law rfl rfl laid (by kernel_rfl) (by kernel_rfl) Tryz.underlying4 hW' hb⟩

set_option maxRecDepth 100000 in
theorem lifted (os : Os) (started : os.Started) (H : Type) (enc : TypeId × Value → H) :
    ReturnsInHanded {} Tryz.checked os 7 .any (Rows.fnExactJoinedPeakSpec.pre6 enc Tryz.prog Tryz.f7 Rows.fnExactJoinedPeakRow.domain false) (Rows.fnExactJoinedPeakSpec.post enc Tryz.prog Tryz.f7 false true false false) := by
  refine returnsInHanded_of_change (C := Tryz.checked) own started (by kernel_rfl) Tryz.func7
    (ChangeSpec.witness6 (enc := enc) (C := Tryz.checked) false ⟨#[], #[.agg #[.slice none 0 0, .slice none 0 0], .agg #[.slice none 0 0, .slice none 0 0, .slice none 0 0, .int .i64 0, .int .i64 0, .int .i64 0], .int .i64 0], []⟩ 8 (by kernel_rfl) (by kernel_rfl) (by kernel_rfl) (by kernel_rfl)) ?_
  intro W base args ds gs before hval hW _ _
  exact contract H enc W base args ds gs before hval hW

theorem over : Rows.fnExactJoinedPeakRow.holds Tryz.pinned (OpenSpec.ofChange Rows.fnExactJoinedPeakSpec) :=
  OpenClaim.holds_of_wide 7 Tryz.f7 rfl rfl rfl rfl rfl rfl rfl ⟨rfl, rfl, rfl, rfl, rfl⟩ rfl rfl rfl rfl rfl (by kernel_rfl) Tryz.func7 (by kernel_rfl)
    (of_decide_eq_true (by kernel_rfl)) (by unfold Func.isWrapper; first | (rw [if_pos (by decide +kernel)]; kernel_rfl) | (rw [if_neg (by decide +kernel)]; exact ⟨rfl, rfl⟩))
    (fun os started H enc _ => lifted os started H enc)

theorem fnExactJoinedPeak_holds : Rows.FnExactJoinedPeakSaid := over

end Go.Proofs.YtiaanelimbmniaaGreat.fnExactJoinedPeak
