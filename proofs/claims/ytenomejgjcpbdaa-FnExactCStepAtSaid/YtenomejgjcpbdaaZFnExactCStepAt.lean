/-
  FOR EVERY INPUT laws.FnExactCStepAt RETURNS TRUE, AND ITS ARGUMENTS READ AS BEFORE. Conditions: none beyond the statement's own.
-/
import Derived.Test.YtenomejgjcpbdaaRows
import Derived.Test.YtenomejgjcpbdaaQML1
import Derived.Test.YtenomejgjcpbdaaQMB2
set_option linter.unusedSimpArgs false
set_option linter.unusedVariables false
namespace Go.Proofs.Ytenomejgjcpbdaa.fnExactCStepAt
open Go X Go.ChangeShapes Go.WideShapes Go.ChangeAt Go.RowKit

theorem own : ownKnob Try.prog.godebug = none := by kernel_rfl
theorem laid : laidOutB Try.prog = true := by kernel_rfl

theorem cells167 : Try.prog.cellsOf 167 = 2 := by kernel_rfl
theorem cells105 : Try.prog.cellsOf 105 = 3 := by kernel_rfl
theorem cells103 : Try.prog.cellsOf 103 = 1 := by kernel_rfl
theorem cells42 : Try.prog.cellsOf 42 = 2 := by kernel_rfl
theorem cells40 : Try.prog.cellsOf 40 = 1 := by kernel_rfl
theorem cells24 : Try.prog.cellsOf 24 = 1 := by kernel_rfl
theorem cells22 : Try.prog.cellsOf 22 = 1 := by kernel_rfl
theorem cells2 : Try.prog.cellsOf 2 = 1 := by kernel_rfl
set_option maxRecDepth 100000 in
theorem contract (H : Type) (enc : TypeId × Value → H) (W : World) (base : Nat) (args : Array Value) (ds gs : List (DataW H)) (before : List MemPlace)
    (hval : ∀ (j : Nat) t v, Try.f6.params[j]? = some t → args[j]? = some v → Value.okWide Try.prog W .any base t v)
    (hW : DataW.Whole enc Try.prog Try.f6.params.toList Rows.fnExactCStepAtSpec.vars false W args.toList ds gs before) :
    Calls Try.prog 6 args W fun e W' => ∃ v, e = .returned v ∧ Rows.fnExactCStepAtSpec.post enc Try.prog Try.f6 false true false false W args v W' := by
  have hW' := hW
  obtain ⟨p, q, hA0, hV, rfl, hfz, hnd⟩ := hW
  have hA : DataW.TrodAll enc Try.prog W 0 (fun _ => true) true Try.f6.params.toList args.toList ds p := hA0
  rw [Try.params6] at hA hval
  obtain ⟨vq0, vs0, d0, ds0, p0, q0, hargs, rfl, rfl, t0, r0⟩ := trodAll_cons hA
  obtain ⟨vq1, vs1, d1, ds1, p1, q1, rfl, rfl, rfl, t1, r1⟩ := trodAll_cons r0
  obtain ⟨vq2, vs2, d2, ds2, p2, q2, rfl, rfl, rfl, t2, r2⟩ := trodAll_cons r1
  obtain ⟨vq3, vs3, d3, ds3, p3, q3, rfl, rfl, rfl, t3, r3⟩ := trodAll_cons r2
  obtain ⟨vq4, vs4, d4, ds4, p4, q4, rfl, rfl, rfl, t4, r4⟩ := trodAll_cons r3
  obtain ⟨rfl, rfl, rfl⟩ := trodAll_nil r4
  obtain ⟨args⟩ := args
  obtain rfl : args = [vq0, vq1, vq2, vq3, vq4] := hargs
  obtain ⟨rfl, rfl⟩ := trodVars_none hV
  have hv0 := hval 0 42 vq0 rfl rfl
  have o0 := opens_s2 Try.underlying42 rfl rfl rfl rfl cells24 cells40 cells42 rfl (opens_s1 Try.underlying24 rfl rfl cells22 cells24 (opens_ints Try.underlying22 Try.underlying2 cells2)) (opens_crs Try.underlying40 Try.underlying105 rfl rfl rfl rfl rfl rfl cells105 cells22 cells22 cells103 Try.underlying22 Try.underlying22 Try.underlying2 Try.underlying2 cells2 cells2 (opens_ps Try.underlying103 Try.underlying167 rfl rfl rfl rfl cells167 cells22 cells22 Try.underlying22 Try.underlying22 Try.underlying2 Try.underlying2 cells2 cells2))
  obtain ⟨_, rfl, ⟨x2, x7⟩, ⟨_, _, rfl, ⟨v1, rfl, h3⟩, ⟨v6, rfl, h8⟩⟩, ⟨b4, ⟨b9, c10⟩⟩⟩ := o0.agg Try.underlying42 hv0 t0
  have hv1 := hval 1 22 vq1 rfl rfl
  have o1 := opens_ints Try.underlying22 Try.underlying2 cells2
  obtain ⟨x17, ⟨v16, eq1, h18⟩, b19⟩ := o1.slv Try.underlying22 hv1 t1
  obtain rfl : v16 = vq1 := (List.cons.inj eq1).1.symm
  have hv2 := hval 2 2 vq2 rfl rfl
  obtain ⟨x21, rfl, b22⟩ := Opens.int Try.underlying2 hv2 t2
  have hv3 := hval 3 2 vq3 rfl rfl
  obtain ⟨x23, rfl, b24⟩ := Opens.int Try.underlying2 hv3 t3
  have hv4 := hval 4 2 vq4 rfl rfl
  obtain ⟨x25, rfl, b26⟩ := Opens.int Try.underlying2 hv4 t4
  replace b22 := b22
  replace b24 := b24
  replace b26 := b26
  refine (Does.atTop ((FnExactCStepAt_does h3 h8 h18 (by first | assumption | omega | exact b4 | exact fun i hi => (b4 i hi).1) (by first | assumption | omega | exact b9 | exact fun i hi => (b9 i hi).1) (by first | assumption | omega | exact c10 | exact fun i hi => (c10 i hi).1) (by first | assumption | omega | exact b19 | exact fun i hi => (b19 i hi).1)).mono ?_)).mono ?_
  · rintro v F' L' _ ⟨rfl, _, _⟩; rfl
  · rintro e W' ⟨rfl, hb⟩
    exact ⟨_, rfl, post_of_law rfl rfl laid (by kernel_rfl) (by kernel_rfl) Try.underlying4 hW' hb⟩

set_option maxRecDepth 100000 in
theorem lifted (os : Os) (started : os.Started) (H : Type) (enc : TypeId × Value → H) :
    ReturnsInHanded {} Try.checked os 6 .any (Rows.fnExactCStepAtSpec.pre6 enc Try.prog Try.f6 Rows.fnExactCStepAtRow.domain false) (Rows.fnExactCStepAtSpec.post enc Try.prog Try.f6 false true false false) := by
  refine returnsInHanded_of_change (C := Try.checked) own started (by kernel_rfl) Try.func6
    (ChangeSpec.witness6 (enc := enc) (C := Try.checked) false ⟨#[], #[.agg #[.slice none 0 0, .slice none 0 0], .slice none 0 0, .int .i64 0, .int .i64 0, .int .i64 0], []⟩ 8 (by kernel_rfl) (by kernel_rfl) (by kernel_rfl) (by kernel_rfl)) ?_
  intro W base args ds gs before hval hW _ _
  exact contract H enc W base args ds gs before hval hW

theorem over : Rows.fnExactCStepAtRow.holds Try.pinned (OpenSpec.ofChange Rows.fnExactCStepAtSpec) :=
  OpenClaim.holds_of_wide 6 Try.f6 rfl rfl rfl rfl rfl rfl rfl ⟨rfl, rfl, rfl, rfl, rfl⟩ rfl rfl rfl rfl rfl (by kernel_rfl) Try.func6 (by kernel_rfl)
    (of_decide_eq_true (by kernel_rfl)) (by unfold Func.isWrapper; first | (rw [if_pos (by decide +kernel)]; kernel_rfl) | (rw [if_neg (by decide +kernel)]; exact ⟨rfl, rfl⟩))
    (fun os started H enc _ => lifted os started H enc)

theorem fnExactCStepAt_holds : Rows.FnExactCStepAtSaid := over

end Go.Proofs.Ytenomejgjcpbdaa.fnExactCStepAt
