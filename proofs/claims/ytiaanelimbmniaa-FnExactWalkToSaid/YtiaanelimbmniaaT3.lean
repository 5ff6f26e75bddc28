/-
  The top of a statement: structs of four and more fields.
-/
import Derived.Test.YtiaanelimbmniaaT2
set_option linter.unusedSimpArgs false
set_option linter.unusedVariables false
namespace Go.Proofs.Ytiaanelimbmniaa.X
open Go Go.WideShapes Go.ChangeShapes Go.RowKit
variable {P : Program} {t e : TypeId}

theorem drop_take_app {α : Type} (l : List α) (a b : Nat) : (l.drop a).take b ++ l.drop (a + b) = l.drop a := by
  rw [← List.drop_drop, List.take_append_drop]
theorem opens_s4 {t0 t1 t2 t3 : TypeId} {n0 n1 n2 n3 n : Nat} {α0 : Type} {R0 : FH → List Value → α0 → Prop} {B0 : α0 → Prop} {α1 : Type} {R1 : FH → List Value → α1 → Prop} {B1 : α1 → Prop} {α2 : Type} {R2 : FH → List Value → α2 → Prop} {B2 : α2 → Prop} {α3 : Type} {R3 : FH → List Value → α3 → Prop} {B3 : α3 → Prop} {f0 f1 f2 f3 : Field} (ht : P.underlying t = some (.struct #[f0, f1, f2, f3])) (e0 : f0.type = t0) (e1 : f1.type = t1) (e2 : f2.type = t2) (e3 : f3.type = t3) (o0 : f0.offset = 0) (o1 : f1.offset = n0) (o2 : f2.offset = n0 + n1) (o3 : f3.offset = n0 + n1 + n2) (c0 : P.cellsOf t0 = n0) (c1 : P.cellsOf t1 = n1) (c2 : P.cellsOf t2 = n2) (c3 : P.cellsOf t3 = n3) (ct : P.cellsOf t = n) (hn : n0 + n1 + n2 + n3 = n) (h0 : Opens P t0 R0 B0) (h1 : Opens P t1 R1 B1) (h2 : Opens P t2 R2 B2) (h3 : Opens P t3 R3 B3) :
    Opens P t (fun F cs (x : α0 × α1 × α2 × α3) => ∃ a0 a1 a2 a3, cs = a0 ++ (a1 ++ (a2 ++ a3)) ∧ R0 F a0 x.1 ∧ R1 F a1 x.2.1 ∧ R2 F a2 x.2.2.1 ∧ R3 F a3 x.2.2.2) (fun x => B0 x.1 ∧ B1 x.2.1 ∧ B2 x.2.2.1 ∧ B3 x.2.2.2) := by
  subst e0 e1 e2 e3
  intro H enc w base spare held fuel cs x h
  obtain ⟨xs, n', _, _, hl, hlen, hf⟩ := DataW.trod_struct ht h
  match xs, hlen with
  | [y0, y1, y2, y3], _ =>
    have g0 := hf 0 f0 rfl
    have g1 := hf 1 f1 rfl
    have g2 := hf 2 f2 rfl
    have g3 := hf 3 f3 rfl
    rw [o0, List.drop_zero] at g0
    rw [o1] at g1
    rw [o2] at g2
    rw [o3] at g3
    rw [c0] at g0
    obtain ⟨z0, hz0, bz0⟩ := h0 H enc w base spare held n' _ _ g0
    rw [c1] at g1
    obtain ⟨z1, hz1, bz1⟩ := h1 H enc w base spare held n' _ _ g1
    rw [c2] at g2
    obtain ⟨z2, hz2, bz2⟩ := h2 H enc w base spare held n' _ _ g2
    rw [c3] at g3
    obtain ⟨z3, hz3, bz3⟩ := h3 H enc w base spare held n' _ _ g3
    refine ⟨(z0, z1, z2, z3), ⟨_, _, _, _, ?_, hz0, hz1, hz2, hz3⟩, bz0, bz1, bz2, bz3⟩
    rw [List.take_of_length_le (l := cs.drop (n0 + n1 + n2)) (by rw [List.length_drop]; omega)]
    rw [drop_take_app cs (n0 + n1) n2]
    rw [drop_take_app cs (n0) n1]
    rw [List.take_append_drop]
theorem opens_s5 {t0 t1 t2 t3 t4 : TypeId} {n0 n1 n2 n3 n4 n : Nat} {α0 : Type} {R0 : FH → List Value → α0 → Prop} {B0 : α0 → Prop} {α1 : Type} {R1 : FH → List Value → α1 → Prop} {B1 : α1 → Prop} {α2 : Type} {R2 : FH → List Value → α2 → Prop} {B2 : α2 → Prop} {α3 : Type} {R3 : FH → List Value → α3 → Prop} {B3 : α3 → Prop} {α4 : Type} {R4 : FH → List Value → α4 → Prop} {B4 : α4 → Prop} {f0 f1 f2 f3 f4 : Field} (ht : P.underlying t = some (.struct #[f0, f1, f2, f3, f4])) (e0 : f0.type = t0) (e1 : f1.type = t1) (e2 : f2.type = t2) (e3 : f3.type = t3) (e4 : f4.type = t4) (o0 : f0.offset = 0) (o1 : f1.offset = n0) (o2 : f2.offset = n0 + n1) (o3 : f3.offset = n0 + n1 + n2) (o4 : f4.offset = n0 + n1 + n2 + n3) (c0 : P.cellsOf t0 = n0) (c1 : P.cellsOf t1 = n1) (c2 : P.cellsOf t2 = n2) (c3 : P.cellsOf t3 = n3) (c4 : P.cellsOf t4 = n4) (ct : P.cellsOf t = n) (hn : n0 + n1 + n2 + n3 + n4 = n) (h0 : Opens P t0 R0 B0) (h1 : Opens P t1 R1 B1) (h2 : Opens P t2 R2 B2) (h3 : Opens P t3 R3 B3) (h4 : Opens P t4 R4 B4) :
    Opens P t (fun F cs (x : α0 × α1 × α2 × α3 × α4) => ∃ a0 a1 a2 a3 a4, cs = a0 ++ (a1 ++ (a2 ++ (a3 ++ a4))) ∧ R0 F a0 x.1 ∧ R1 F a1 x.2.1 ∧ R2 F a2 x.2.2.1 ∧ R3 F a3 x.2.2.2.1 ∧ R4 F a4 x.2.2.2.2) (fun x => B0 x.1 ∧ B1 x.2.1 ∧ B2 x.2.2.1 ∧ B3 x.2.2.2.1 ∧ B4 x.2.2.2.2) := by
  subst e0 e1 e2 e3 e4
  intro H enc w base spare held fuel cs x h
  obtain ⟨xs, n', _, _, hl, hlen, hf⟩ := DataW.trod_struct ht h
  match xs, hlen with
  | [y0, y1, y2, y3, y4], _ =>
    have g0 := hf 0 f0 rfl
    have g1 := hf 1 f1 rfl
    have g2 := hf 2 f2 rfl
    have g3 := hf 3 f3 rfl
    have g4 := hf 4 f4 rfl
    rw [o0, List.drop_zero] at g0
    rw [o1] at g1
    rw [o2] at g2
    rw [o3] at g3
    rw [o4] at g4
    rw [c0] at g0
    obtain ⟨z0, hz0, bz0⟩ := h0 H enc w base spare held n' _ _ g0
    rw [c1] at g1
    obtain ⟨z1, hz1, bz1⟩ := h1 H enc w base spare held n' _ _ g1
    rw [c2] at g2
    obtain ⟨z2, hz2, bz2⟩ := h2 H enc w base spare held n' _ _ g2
    rw [c3] at g3
    obtain ⟨z3, hz3, bz3⟩ := h3 H enc w base spare held n' _ _ g3
    rw [c4] at g4
    obtain ⟨z4, hz4, bz4⟩ := h4 H enc w base spare held n' _ _ g4
    refine ⟨(z0, z1, z2, z3, z4), ⟨_, _, _, _, _, ?_, hz0, hz1, hz2, hz3, hz4⟩, bz0, bz1, bz2, bz3, bz4⟩
    rw [List.take_of_length_le (l := cs.drop (n0 + n1 + n2 + n3)) (by rw [List.length_drop]; omega)]
    rw [drop_take_app cs (n0 + n1 + n2) n3]
    rw [drop_take_app cs (n0 + n1) n2]
    rw [drop_take_app cs (n0) n1]
    rw [List.take_append_drop]
theorem opens_s6 {t0 t1 t2 t3 t4 t5 : TypeId} {n0 n1 n2 n3 n4 n5 n : Nat} {α0 : Type} {R0 : FH → List Value → α0 → Prop} {B0 : α0 → Prop} {α1 : Type} {R1 : FH → List Value → α1 → Prop} {B1 : α1 → Prop} {α2 : Type} {R2 : FH → List Value → α2 → Prop} {B2 : α2 → Prop} {α3 : Type} {R3 : FH → List Value → α3 → Prop} {B3 : α3 → Prop} {α4 : Type} {R4 : FH → List Value → α4 → Prop} {B4 : α4 → Prop} {α5 : Type} {R5 : FH → List Value → α5 → Prop} {B5 : α5 → Prop} {f0 f1 f2 f3 f4 f5 : Field} (ht : P.underlying t = some (.struct #[f0, f1, f2, f3, f4, f5])) (e0 : f0.type = t0) (e1 : f1.type = t1) (e2 : f2.type = t2) (e3 : f3.type = t3) (e4 : f4.type = t4) (e5 : f5.type = t5) (o0 : f0.offset = 0) (o1 : f1.offset = n0) (o2 : f2.offset = n0 + n1) (o3 : f3.offset = n0 + n1 + n2) (o4 : f4.offset = n0 + n1 + n2 + n3) (o5 : f5.offset = n0 + n1 + n2 + n3 + n4) (c0 : P.cellsOf t0 = n0) (c1 : P.cellsOf t1 = n1) (c2 : P.cellsOf t2 = n2) (c3 : P.cellsOf t3 = n3) (c4 : P.cellsOf t4 = n4) (c5 : P.cellsOf t5 = n5) (ct : P.cellsOf t = n) (hn : n0 + n1 + n2 + n3 + n4 + n5 = n) (h0 : Opens P t0 R0 B0) (h1 : Opens P t1 R1 B1) (h2 : Opens P t2 R2 B2) (h3 : Opens P t3 R3 B3) (h4 : Opens P t4 R4 B4) (h5 : Opens P t5 R5 B5) :
    Opens P t (fun F cs (x : α0 × α1 × α2 × α3 × α4 × α5) => ∃ a0 a1 a2 a3 a4 a5, cs = a0 ++ (a1 ++ (a2 ++ (a3 ++ (a4 ++ a5)))) ∧ R0 F a0 x.1 ∧ R1 F a1 x.2.1 ∧ R2 F a2 x.2.2.1 ∧ R3 F a3 x.2.2.2.1 ∧ R4 F a4 x.2.2.2.2.1 ∧ R5 F a5 x.2.2.2.2.2) (fun x => B0 x.1 ∧ B1 x.2.1 ∧ B2 x.2.2.1 ∧ B3 x.2.2.2.1 ∧ B4 x.2.2.2.2.1 ∧ B5 x.2.2.2.2.2) := by
  subst e0 e1 e2 e3 e4 e5
  intro H enc w base spare held fuel cs x h
  obtain ⟨xs, n', _, _, hl, hlen, hf⟩ := DataW.trod_struct ht h
  match xs, hlen with
  | [y0, y1, y2, y3, y4, y5], _ =>
    have g0 := hf 0 f0 rfl
    have g1 := hf 1 f1 rfl
    have g2 := hf 2 f2 rfl
    have g3 := hf 3 f3 rfl
    have g4 := hf 4 f4 rfl
    have g5 := hf 5 f5 rfl
    rw [o0, List.drop_zero] at g0
    rw [o1] at g1
    rw [o2] at g2
    rw [o3] at g3
    rw [o4] at g4
    rw [o5] at g5
    rw [c0] at g0
    obtain ⟨z0, hz0, bz0⟩ := h0 H enc w base spare held n' _ _ g0
    rw [c1] at g1
    obtain ⟨z1, hz1, bz1⟩ := h1 H enc w base spare held n' _ _ g1
    rw [c2] at g2
    obtain ⟨z2, hz2, bz2⟩ := h2 H enc w base spare held n' _ _ g2
    rw [c3] at g3
    obtain ⟨z3, hz3, bz3⟩ := h3 H enc w base spare held n' _ _ g3
    rw [c4] at g4
    obtain ⟨z4, hz4, bz4⟩ := h4 H enc w base spare held n' _ _ g4
    rw [c5] at g5
    obtain ⟨z5, hz5, bz5⟩ := h5 H enc w base spare held n' _ _ g5
    refine ⟨(z0, z1, z2, z3, z4, z5), ⟨_, _, _, _, _, _, ?_, hz0, hz1, hz2, hz3, hz4, hz5⟩, bz0, bz1, bz2, bz3, bz4, bz5⟩
    rw [List.take_of_length_le (l := cs.drop (n0 + n1 + n2 + n3 + n4)) (by rw [List.length_drop]; omega)]
    rw [drop_take_app cs (n0 + n1 + n2 + n3) n4]
    rw [drop_take_app cs (n0 + n1 + n2) n3]
    rw [drop_take_app cs (n0 + n1) n2]
    rw [drop_take_app cs (n0) n1]
    rw [List.take_append_drop]
end Go.Proofs.Ytiaanelimbmniaa.X
