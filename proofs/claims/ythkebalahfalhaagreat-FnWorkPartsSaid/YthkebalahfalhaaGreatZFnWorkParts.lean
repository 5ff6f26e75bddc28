/-
  FOR EVERY INPUT laws.FnWorkParts RETURNS TRUE, AND ITS ARGUMENTS READ AS BEFORE. Conditions: none beyond the statement's own.
-/
import Derived.Test.YthkebalahfalhaaGreatRows
import Derived.Test.YthkebalahfalhaaGreatQAFL1
import Derived.Test.YthkebalahfalhaaGreatQAFB4
set_option linter.unusedSimpArgs false
set_option linter.unusedVariables false
namespace Go.Proofs.YthkebalahfalhaaGreat.fnWorkParts
open Go X Go.ChangeShapes Go.WideShapes Go.ChangeAt Go.RowKit

theorem own : ownKnob Tryz.prog.godebug = none := by kernel_rfl
theorem laid : laidOutB Tryz.prog = true := by kernel_rfl

theorem cells5 : Tryz.prog.cellsOf 5 = 1 := by kernel_rfl
set_option maxRecDepth 100000 in
theorem contract (H : Type) (enc : TypeId × Value → H) (W : World) (base : Nat) (args : Array Value) (ds gs : List (DataW H)) (before : List MemPlace)
    (hval : ∀ (j : Nat) t v, Tryz.f3.params[j]? = some t → args[j]? = some v → Value.okWide Tryz.prog W .any base t v)
    (hW : DataW.Whole enc Tryz.prog Tryz.f3.params.toList Rows.fnWorkPartsSpec.vars false W args.toList ds gs before) :
    Calls Tryz.prog 3 args W fun e W' => ∃ v, e = .returned v ∧ Rows.fnWorkPartsSpec.post enc Tryz.prog Tryz.f3 false true false false W args v W' := by
  have hW' := hW
  obtain ⟨p, q, hA0, hV, rfl, hfz, hnd⟩ := hW
  have hA : DataW.TrodAll enc Tryz.prog W 0 (fun _ => true) true Tryz.f3.params.toList args.toList ds p := hA0
  rw [Tryz.params3] at hA hval
  obtain ⟨vq0, vs0, d0, ds0, p0, q0, hargs, rfl, rfl, t0, r0⟩ := trodAll_cons hA
  obtain ⟨rfl, rfl, rfl⟩ := trodAll_nil r0
  obtain ⟨args⟩ := args
  obtain rfl : args = [vq0] := hargs
  obtain ⟨rfl, rfl⟩ := trodVars_none hV
  have hv0 := hval 0 22 vq0 rfl rfl
  have o0 := opens_bytes Tryz.underlying22 Tryz.underlying5 cells5
  obtain ⟨x2, ⟨v1, eq0, h3⟩, b4⟩ := o0.slv Tryz.underlying22 hv0 t0
  obtain rfl : v1 = vq0 := (List.cons.inj eq0).1.symm
  refine (Does.atTop ((FnWorkParts_does h3 (by first | assumption | omega | exact b4 | exact fun i hi => (b4 i hi).1)).mono ?_)).mono ?_
  · rintro v F' L' _ ⟨rfl, _, _⟩; rfl
  · rintro e W' ⟨rfl, hb⟩
    exact ⟨_, rfl, post_of_law rfl rfl laid (by kernel_rfl) (by kernel_rfl) Tryz.underlying4 hW' hb⟩

set_option maxRecDepth 100000 in
theorem lifted (os : Os) (started : os.Started) (H : Type) (enc : TypeId × Value → H) :
    ReturnsInHanded {} Tryz.checked os 3 .any (Rows.fnWorkPartsSpec.pre6 enc Tryz.prog Tryz.f3 Rows.fnWorkPartsRow.domain false) (Rows.fnWorkPartsSpec.post enc Tryz.prog Tryz.f3 false true false false) := by
  refine returnsInHanded_of_change (C := Tryz.checked) own started (by kernel_rfl) Tryz.func3
    (ChangeSpec.witness6 (enc := enc) (C := Tryz.checked) false ⟨#[], #[.slice none 0 0], []⟩ 8 (by kernel_rfl) (by kernel_rfl) (by kernel_rfl) (by kernel_rfl)) ?_
  intro W base args ds gs before hval hW _ _
  exact contract H enc W base args ds gs before hval hW

set_option maxHeartbeats 16000000 in
theorem joined : joinedFacts Tryz.prog 3 Tryz.f3 Rows.fnWorkPartsSpec Rows.fnWorkPartsRow = true := by
  simp only [joinedFacts, Bool.and_eq_true]
  and_intros
  all_goals (as_aux_lemma => kernel_rfl)

theorem over : Rows.fnWorkPartsRow.holds Tryz.pinned (OpenSpec.ofChange Rows.fnWorkPartsSpec) :=
  OpenClaim.holds_of_wide 3 Tryz.f3 rfl rfl rfl rfl rfl rfl rfl ⟨rfl, rfl, rfl, rfl, rfl⟩ rfl rfl rfl rfl rfl (by kernel_rfl) Tryz.func3 joined
    (of_decide_eq_true (by kernel_rfl)) (by unfold Func.isWrapper; first | (rw [if_pos (by decide +kernel)]; kernel_rfl) | (rw [if_neg (by decide +kernel)]; exact ⟨rfl, rfl⟩))
    (fun os started H enc _ => lifted os started H enc)

theorem fnWorkParts_holds : Rows.FnWorkPartsSaid := over

end Go.Proofs.YthkebalahfalhaaGreat.fnWorkParts
