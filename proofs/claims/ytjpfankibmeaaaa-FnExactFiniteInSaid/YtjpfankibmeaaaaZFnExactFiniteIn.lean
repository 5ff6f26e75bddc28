/-
  FOR EVERY INPUT laws.FnExactFiniteIn RETURNS TRUE, AND ITS ARGUMENTS READ AS BEFORE. Conditions: none beyond the statement's own.
-/
import Derived.Test.YtjpfankibmeaaaaRows
import Derived.Test.YtjpfankibmeaaaaQZL1
import Derived.Test.YtjpfankibmeaaaaQZB2
set_option linter.unusedSimpArgs false
set_option linter.unusedVariables false
namespace Go.Proofs.Ytjpfankibmeaaaa.fnExactFiniteIn
open Go X Go.ChangeShapes Go.WideShapes Go.ChangeAt Go.RowKit

theorem own : ownKnob Try.prog.godebug = none := by kernel_rfl
theorem laid : laidOutB Try.prog = true := by kernel_rfl

theorem cells106 : Try.prog.cellsOf 106 = 2 := by kernel_rfl
theorem cells27 : Try.prog.cellsOf 27 = 2 := by kernel_rfl
theorem cells25 : Try.prog.cellsOf 25 = 1 := by kernel_rfl
theorem cells24 : Try.prog.cellsOf 24 = 1 := by kernel_rfl
theorem cells22 : Try.prog.cellsOf 22 = 1 := by kernel_rfl
theorem cells2 : Try.prog.cellsOf 2 = 1 := by kernel_rfl
set_option maxRecDepth 100000 in
theorem contract (H : Type) (enc : TypeId × Value → H) (W : World) (base : Nat) (args : Array Value) (ds gs : List (DataW H)) (before : List MemPlace)
    (hval : ∀ (j : Nat) t v, Try.f4.params[j]? = some t → args[j]? = some v → Value.okWide Try.prog W .any base t v)
    (hW : DataW.Whole enc Try.prog Try.f4.params.toList Rows.fnExactFiniteInSpec.vars false W args.toList ds gs before) :
    Calls Try.prog 4 args W fun e W' => ∃ v, e = .returned v ∧ Rows.fnExactFiniteInSpec.post enc Try.prog Try.f4 false true false false W args v W' := by
  have hW' := hW
  obtain ⟨p, q, hA0, hV, rfl, hfz, hnd⟩ := hW
  have hA : DataW.TrodAll enc Try.prog W 0 (fun _ => true) true Try.f4.params.toList args.toList ds p := hA0
  rw [Try.params4] at hA hval
  obtain ⟨vq0, vs0, d0, ds0, p0, q0, hargs, rfl, rfl, t0, r0⟩ := trodAll_cons hA
  obtain ⟨vq1, vs1, d1, ds1, p1, q1, rfl, rfl, rfl, t1, r1⟩ := trodAll_cons r0
  obtain ⟨vq2, vs2, d2, ds2, p2, q2, rfl, rfl, rfl, t2, r2⟩ := trodAll_cons r1
  obtain ⟨rfl, rfl, rfl⟩ := trodAll_nil r2
  obtain ⟨args⟩ := args
  obtain rfl : args = [vq0, vq1, vq2] := hargs
  obtain ⟨rfl, rfl⟩ := trodVars_none hV
  have hv0 := hval 0 27 vq0 rfl rfl
  have o0 := opens_s2 Try.underlying27 rfl rfl rfl rfl cells24 cells25 cells27 rfl (opens_s1 Try.underlying24 rfl rfl cells22 cells24 (opens_ints Try.underlying22 Try.underlying2 cells2)) (opens_ps Try.underlying25 Try.underlying106 rfl rfl rfl rfl cells106 cells22 cells22 Try.underlying22 Try.underlying22 Try.underlying2 Try.underlying2 cells2 cells2)
  obtain ⟨_, rfl, ⟨x2, x7⟩, ⟨_, _, rfl, ⟨v1, rfl, h3⟩, ⟨v6, rfl, h8⟩⟩, ⟨b4, ⟨b9, c10⟩⟩⟩ := o0.agg Try.underlying27 hv0 t0
  have hv1 := hval 1 22 vq1 rfl rfl
  have o1 := opens_ints Try.underlying22 Try.underlying2 cells2
  obtain ⟨x12, ⟨v11, eq1, h13⟩, b14⟩ := o1.slv Try.underlying22 hv1 t1
  obtain rfl : v11 = vq1 := (List.cons.inj eq1).1.symm
  have hv2 := hval 2 2 vq2 rfl rfl
  obtain ⟨x16, rfl, b17⟩ := Opens.int Try.underlying2 hv2 t2
  replace b17 := b17
  refine (Does.atTop ((FnExactFiniteIn_does h3 h8 h13 (by first | assumption | omega | exact b4 | exact fun i hi => (b4 i hi).1) (by first | assumption | omega | exact b9 | exact fun i hi => (b9 i hi).1) (by first | assumption | omega | exact c10 | exact fun i hi => (c10 i hi).1) (by first | assumption | omega | exact b14 | exact fun i hi => (b14 i hi).1)).mono ?_)).mono ?_
  · rintro v F' L' _ ⟨rfl, _, _⟩; rfl
  · rintro e W' ⟨rfl, hb⟩
    exact ⟨_, rfl, post_of_law rfl rfl laid (by kernel_rfl) (by kernel_rfl) Try.underlying4 hW' hb⟩

set_option maxRecDepth 100000 in
theorem lifted (os : Os) (started : os.Started) (H : Type) (enc : TypeId × Value → H) :
    ReturnsInHanded {} Try.checked os 4 .any (Rows.fnExactFiniteInSpec.pre6 enc Try.prog Try.f4 Rows.fnExactFiniteInRow.domain false) (Rows.fnExactFiniteInSpec.post enc Try.prog Try.f4 false true false false) := by
  refine returnsInHanded_of_change (C := Try.checked) own started (by kernel_rfl) Try.func4
    (ChangeSpec.witness6 (enc := enc) (C := Try.checked) false ⟨#[], #[.agg #[.slice none 0 0, .slice none 0 0], .slice none 0 0, .int .i64 0], []⟩ 8 (by kernel_rfl) (by kernel_rfl) (by kernel_rfl) (by kernel_rfl)) ?_
  intro W base args ds gs before hval hW _ _
  exact contract H enc W base args ds gs before hval hW

theorem over : Rows.fnExactFiniteInRow.holds Try.pinned (OpenSpec.ofChange Rows.fnExactFiniteInSpec) :=
  OpenClaim.holds_of_wide 4 Try.f4 rfl rfl rfl rfl rfl rfl rfl ⟨rfl, rfl, rfl, rfl, rfl⟩ rfl rfl rfl rfl rfl (by kernel_rfl) Try.func4 (by kernel_rfl)
    (of_decide_eq_true (by kernel_rfl)) (by unfold Func.isWrapper; first | (rw [if_pos (by decide +kernel)]; kernel_rfl) | (rw [if_neg (by decide +kernel)]; exact ⟨rfl, rfl⟩))
    (fun os started H enc _ => lifted os started H enc)

theorem fnExactFiniteIn_holds : Rows.FnExactFiniteInSaid := over

end Go.Proofs.Ytjpfankibmeaaaa.fnExactFiniteIn
