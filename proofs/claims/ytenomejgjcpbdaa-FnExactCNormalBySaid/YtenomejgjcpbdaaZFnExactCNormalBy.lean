/-
  FOR EVERY INPUT laws.FnExactCNormalBy RETURNS TRUE, AND ITS ARGUMENTS READ AS BEFORE. Conditions: none beyond the statement's own.
-/
import Derived.Test.YtenomejgjcpbdaaRows
import Derived.Test.YtenomejgjcpbdaaQNL1
import Derived.Test.YtenomejgjcpbdaaQNB2
set_option linter.unusedSimpArgs false
set_option linter.unusedVariables false
namespace Go.Proofs.Ytenomejgjcpbdaa.fnExactCNormalBy
open Go X Go.ChangeShapes Go.WideShapes Go.ChangeAt Go.RowKit

theorem own : ownKnob Try.prog.godebug = none := by kernel_rfl
theorem laid : laidOutB Try.prog = true := by kernel_rfl

theorem cells167 : Try.prog.cellsOf 167 = 2 := by kernel_rfl
theorem cells105 : Try.prog.cellsOf 105 = 3 := by kernel_rfl
theorem cells103 : Try.prog.cellsOf 103 = 1 := by kernel_rfl
theorem cells42 : Try.prog.cellsOf 42 = 2 := by kernel_rfl
theorem cells40 : Try.prog.cellsOf 40 = 1 := by kernel_rfl
theorem cells24 : Try.prog.cellsOf 24 = 1 := by kernel_rfl
theorem cells22 : Try.prog.cellsOf 22 = 1 := by kernel_rfl
theorem cells2 : Try.prog.cellsOf 2 = 1 := by kernel_rfl
set_option maxRecDepth 100000 in
theorem contract (H : Type) (enc : TypeId × Value → H) (W : World) (base : Nat) (args : Array Value) (ds gs : List (DataW H)) (before : List MemPlace)
    (hval : ∀ (j : Nat) t v, Try.f7.params[j]? = some t → args[j]? = some v → Value.okWide Try.prog W .any base t v)
    (hW : DataW.Whole enc Try.prog Try.f7.params.toList Rows.fnExactCNormalBySpec.vars false W args.toList ds gs before) :
    Calls Try.prog 7 args W fun e W' => ∃ v, e = .returned v ∧ Rows.fnExactCNormalBySpec.post enc Try.prog Try.f7 false true false false W args v W' := by
  have hW' := hW
  obtain ⟨p, q, hA0, hV, rfl, hfz, hnd⟩ := hW
  have hA : DataW.TrodAll enc Try.prog W 0 (fun _ => true) true Try.f7.params.toList args.toList ds p := hA0
  rw [Try.params7] at hA hval
  obtain ⟨vq0, vs0, d0, ds0, p0, q0, hargs, rfl, rfl, t0, r0⟩ := trodAll_cons hA
  obtain ⟨vq1, vs1, d1, ds1, p1, q1, rfl, rfl, rfl, t1, r1⟩ := trodAll_cons r0
  obtain ⟨vq2, vs2, d2, ds2, p2, q2, rfl, rfl, rfl, t2, r2⟩ := trodAll_cons r1
  obtain ⟨rfl, rfl, rfl⟩ := trodAll_nil r2
  obtain ⟨args⟩ := args
  obtain rfl : args = [vq0, vq1, vq2] := hargs
  obtain ⟨rfl, rfl⟩ := trodVars_none hV
  have hv0 := hval 0 42 vq0 rfl rfl
  have o0 := opens_s2 Try.underlying42 rfl rfl rfl rfl cells24 cells40 cells42 rfl (opens_s1 Try.underlying24 rfl rfl cells22 cells24 (opens_ints Try.underlying22 Try.underlying2 cells2)) (opens_crs Try.underlying40 Try.underlying105 rfl rfl rfl rfl rfl rfl cells105 cells22 cells22 cells103 Try.underlying22 Try.underlying22 Try.underlying2 Try.underlying2 cells2 cells2 (opens_ps Try.underlying103 Try.underlying167 rfl rfl rfl rfl cells167 cells22 cells22 Try.underlying22 Try.underlying22 Try.underlying2 Try.underlying2 cells2 cells2))
  obtain ⟨_, rfl, ⟨x2, x7⟩, ⟨_, _, rfl, ⟨v1, rfl, h3⟩, ⟨v6, rfl, h8⟩⟩, ⟨b4, ⟨b9, c10⟩⟩⟩ := o0.agg Try.underlying42 hv0 t0
  have hv1 := hval 1 22 vq1 rfl rfl
  have o1 := opens_ints Try.underlying22 Try.underlying2 cells2
  obtain ⟨x17, ⟨v16, eq1, h18⟩, b19⟩ := o1.slv Try.underlying22 hv1 t1
  obtain rfl : v16 = vq1 := (List.cons.inj eq1).1.symm
  have hv2 := hval 2 2 vq2 rfl rfl
  obtain ⟨x21, rfl, b22⟩ := Opens.int Try.underlying2 hv2 t2
  replace b22 := b22
  refine (Does.atTop ((FnExactCNormalBy_does h3 h8 h18 (by first | assumption | omega | exact b4 | exact fun i hi => (b4 i hi).1) (by first | assumption | omega | exact b9 | exact fun i hi => (b9 i hi).1) (by first | assumption | omega | exact c10 | exact fun i hi => (c10 i hi).1) (by first | assumption | omega | exact b19 | exact fun i hi => (b19 i hi).1)).mono ?_)).mono ?_
  · rintro v F' L' _ ⟨rfl, _, _⟩; rfl
  · rintro e W' ⟨rfl, hb⟩
    exact ⟨_, rfl, post_of_law rfl rfl laid (by kernel_rfl) (by kernel_rfl) Try.underlying4 hW' hb⟩

set_option maxRecDepth 100000 in
theorem lifted (os : Os) (started : os.Started) (H : Type) (enc : TypeId × Value → H) :
    ReturnsInHanded {} Try.checked os 7 .any (Rows.fnExactCNormalBySpec.pre6 enc Try.prog Try.f7 Rows.fnExactCNormalByRow.domain false) (Rows.fnExactCNormalBySpec.post enc Try.prog Try.f7 false true false false) := by
  refine returnsInHanded_of_change (C := Try.checked) own started (by kernel_rfl) Try.func7
    (ChangeSpec.witness6 (enc := enc) (C := Try.checked) false ⟨#[], #[.agg #[.slice none 0 0, .slice none 0 0], .slice none 0 0, .int .i64 0], []⟩ 8 (by kernel_rfl) (by kernel_rfl) (by kernel_rfl) (by kernel_rfl)) ?_
  intro W base args ds gs before hval hW _ _
  exact contract H enc W base args ds gs before hval hW

theorem over : Rows.fnExactCNormalByRow.holds Try.pinned (OpenSpec.ofChange Rows.fnExactCNormalBySpec) :=
  OpenClaim.holds_of_wide 7 Try.f7 rfl rfl rfl rfl rfl rfl rfl ⟨rfl, rfl, rfl, rfl, rfl⟩ rfl rfl rfl rfl rfl (by kernel_rfl) Try.func7 (by kernel_rfl)
    (of_decide_eq_true (by kernel_rfl)) (by unfold Func.isWrapper; first | (rw [if_pos (by decide +kernel)]; kernel_rfl) | (rw [if_neg (by decide +kernel)]; exact ⟨rfl, rfl⟩))
    (fun os started H enc _ => lifted os started H enc)

theorem fnExactCNormalBy_holds : Rows.FnExactCNormalBySaid := over

end Go.Proofs.Ytenomejgjcpbdaa.fnExactCNormalBy
