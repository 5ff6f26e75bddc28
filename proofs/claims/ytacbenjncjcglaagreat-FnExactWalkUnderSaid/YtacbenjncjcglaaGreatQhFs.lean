/-
  Walks: the statements' own helpers for steps; rewrite sequences.
-/
import Derived.Test.YtacbenjncjcglaaGreatQhFr
import Derived.Test.YtacbenjncjcglaaGreatP9
set_option linter.unusedSimpArgs false
set_option linter.unusedVariables false
namespace Go.Proofs.YtacbenjncjcglaaGreat
open Go X M

/- laws.szStep -/
theorem szStep_spec {F : FH} {L : List HP} {i : Int} {j : Int} {lv : Value} {l : List Int} (hl : IntsF F lv l) {z : Int} (hz : 0 ≤ z ∧ z ≤ 4000000) (hll : l.length ≤ 9223372036854775807) :
    Does Tryz.prog 80 [.agg #[.int .i64 (i), .int .i64 (j), lv], .int .i64 (z)] F (L) (fun v F' L' => (.int .i64 (dec z l.length) : Value) = v ∧ F = F' ∧ L = L') := by
  refine Does.of_X Tryz.func80 rfl rfl rfl ?_
  have hdr := dec_range z l.length
  refine X.seq ?_
  refine X.region ?_
  refine XL.cons (XOp.box [.int .i64 (i), .int .i64 (j), lv] rfl rfl ?_)
  intro b1
  refine XL.cons (XOp.assign (.int .i64 (0)) rfl ?_)
  refine XL.nil ?_
  refine X.seq ?_
  refine X.region ?_
  refine XL.cons (XOp.fieldP (b := b1) (2) Tryz.runUnderlying107 rfl Tryz.sizeOf22 (by decide) rfl rfl ?_)
  refine XL.cons (XOp.load1 (v := lv) Tryz.isAgg22 rfl (Rd.own [] rfl rfl) ?_)
  refine XL.cons (XOp.move (.int .i64 (z)) rfl ?_)
  refine XL.cons (XOp.call (args := [lv, .int .i64 (z)]) Tryz.call34 rfl (szInt64S_spec (z := z) hl (hz := (by first | assumption | rfl | omega | (left; simp; done) | (right; simp; done))) (hlx := (by first | assumption | rfl | omega | (left; simp; done) | (right; simp; done)))) ?_)
  rintro _ _ _ _ ⟨rfl, rfl, rfl⟩
  refine XL.cons (XOp.assign (.int .i64 (dec z l.length)) rfl ?_)
  refine XL.nil ?_
  refine X.seq ?_
  refine X.seq ?_
  refine X.region ?_
  refine XL.cons (XOp.move (.int .i64 (dec z l.length)) rfl ?_)
  refine XL.cons (XOp.lss (a := dec z l.length) (b := 0) rfl rfl ?_)
  refine XL.nil ?_
  refine X.condD (p := (dec z l.length : Int) < 0) rfl (fun h1 => ?_) (fun h1 => ?_)
  · refine X.seq ?_
    refine X.region ?_
    refine XL.cons (XOp.assign (.int .i64 (-1)) rfl ?_)
    refine XL.nil ?_
    refine X.ret (thenQ_ret (retEnd (L' := L) [.int .i64 (-1)] (.int .i64 (-1)) (.tmp rfl .nil) rfl (FLe.refl _) (FLe.refl _) (Sub.drop (Sub.refl _)) ?_))
    exact ⟨(congrArg (Value.int .i64) (by omega)), rfl, rfl⟩
  · refine X.skip ?_
    refine X.seq ?_
    refine X.region ?_
    refine XL.cons (XOp.move (.int .i64 (dec z l.length)) rfl ?_)
    refine XL.cons (XOp.assign (.int .i64 (dec z l.length)) rfl ?_)
    refine XL.nil ?_
    refine X.ret (retEnd (L' := L) [.int .i64 (dec z l.length)] (.int .i64 (dec z l.length)) (.tmp rfl .nil) rfl (FLe.refl _) (FLe.refl _) (Sub.drop (Sub.refl _)) ?_)
    exact ⟨rfl, rfl, rfl⟩

/- laws.szStepS -/
theorem szStepS_spec {F : FH} {L : List HP} {rsv : Value} {rs : List StepT} (hrs : StepsF F rsv rs) {z : Int} (hz : 0 ≤ z ∧ z ≤ 4000000) (hrl : rs.length ≤ 9223372036854775807) (hrb : ∀ i, i < rs.length → (rs.getD i (0, 0, [])).2.2.length ≤ 9223372036854775807) :
    Does Tryz.prog 35 [rsv, .int .i64 (z)] F (L) (fun v F' L' => (.int .i64 (dec z (szG lenS rs)) : Value) = v ∧ F = F' ∧ L = L') := by
  refine Does.of_X Tryz.func35 rfl rfl rfl ?_
  refine X.seq ?_
  refine X.region ?_
  refine XL.cons (XOp.assign (.int .i64 (0)) rfl ?_)
  refine XL.nil ?_
  refine X.seq ?_
  refine X.region ?_
  refine XL.cons (XOp.move (.int .i64 (z)) rfl ?_)
  refine XL.cons (XOp.move (rsv) rfl ?_)
  refine XL.cons (XOp.lenS (v := rsv) (n := (rs).length) Tryz.runUnderlying28 rfl hrs.slv ?_)
  refine XL.cons (XOp.subR (a := z) (b := (((rs).length : Nat) : Int)) (z - ((((rs).length : Nat) : Int))) rfl rfl (by omega) (by omega) ?_)
  refine XL.cons (XOp.assign (.int .i64 (z - ((((rs).length : Nat) : Int)))) rfl ?_)
  refine XL.nil ?_
  refine X.seq ?_
  refine X.seq ?_
  refine X.region ?_
  refine XL.cons (XOp.move (.int .i64 (z - ((((rs).length : Nat) : Int)))) rfl ?_)
  refine XL.cons (XOp.lss (a := z - ((((rs).length : Nat) : Int))) (b := 0) rfl rfl ?_)
  refine XL.nil ?_
  refine X.condD (p := (z - ((((rs).length : Nat) : Int)) : Int) < 0) rfl (fun h1 => ?_) (fun h1 => ?_)
  · refine X.seq ?_
    refine X.region ?_
    refine XL.cons (XOp.assign (.int .i64 (-1)) rfl ?_)
    refine XL.nil ?_
    refine X.ret (thenQ_ret (retEnd (L' := L) [.int .i64 (-1)] (.int .i64 (-1)) (.tmp rfl .nil) rfl (FLe.refl _) (FLe.refl _) (Sub.refl _) ?_))
    exact ⟨(congrArg (Value.int .i64) (dec_mono (n := rs.length) (by rw [dec_neg (by omega)]; omega) (by unfold szG; omega))), rfl, rfl⟩
  · refine X.skip ?_
    refine X.seq ?_
    refine X.seq ?_
    refine X.region ?_
    refine XL.cons (XOp.assign (.int .i64 (0)) rfl ?_)
    refine XL.nil ?_
    refine X.block ?_
    refine X.loop (α := Nat) (fun k => [(0, rsv), (1, .int .i64 (dec z (rs.length + gTo lenS rs k))), (5, .int .i64 (((k : Nat) : Int)))]) (fun k => L) (fun k F' => F = F' ∧ (k ≤ rs.length) ∧ (0 ≤ dec z (rs.length + gTo lenS rs k))) (fun k => rs.length - k) 0 ⟨rfl, (congrArg (Value.int .i64) (by show z - rs.length = dec z (rs.length + 0); rw [Nat.add_zero, dec_pos (by omega)])), rfl, trivial⟩ (Sub.refl _) ⟨rfl, (by (try dsimp only) <;> omega), (by show 0 ≤ dec z (rs.length + 0); rw [Nat.add_zero, dec_pos (by omega)]; omega)⟩ ?_
    rintro k rE _ _ ⟨rfl, hk, hnn⟩
    show X _ _ _ _ (envs [(0, rsv), (1, .int .i64 (dec z (rs.length + gTo lenS rs k))), (5, .int .i64 (((k : Nat) : Int)))] rE) _ (L)
    have hdr := dec_range z (rs.length + gTo lenS rs k)
    have hrk := hrb k
    have hgk : lenS (rs.getD k (0, 0, [])) = (rs.getD k (0, 0, [])).2.2.length := rfl
    refine X.seq ?_
    refine X.seq ?_
    refine X.region ?_
    refine XL.cons (XOp.move (.int .i64 (((k : Nat) : Int))) rfl ?_)
    refine XL.cons (XOp.move (rsv) rfl ?_)
    refine XL.cons (XOp.lenS (v := rsv) (n := (rs).length) Tryz.runUnderlying28 rfl hrs.slv ?_)
    refine XL.cons (XOp.lss (a := ((k : Nat) : Int)) (b := (((rs).length : Nat) : Int)) rfl rfl ?_)
    refine XL.nil ?_
    refine X.condD (p := (((k : Nat) : Int) : Int) < (((rs).length : Nat) : Int)) rfl (fun h2 => ?_) (fun h2 => ?_)
    · refine X.skip ?_
      refine X.seq ?_
      refine X.block ?_
      refine X.seq ?_
      refine X.region ?_
      refine XL.cons (XOp.move (rsv) rfl ?_)
      refine XL.cons (XOp.move (.int .i64 (((k : Nat) : Int))) rfl ?_)
      refine XL.cons (XOp.indexS (v := rsv) (i := ((k : Nat) : Int)) (n := (rs).length) k Tryz.runUnderlying28 Tryz.sizeOf107 rfl rfl rfl hrs.slv (by omega) rfl ?_)
      obtain ⟨a1, ha1, hr1, hr2, hr3⟩ := hrs.rd (i := k) (by omega)
      refine XL.cons (XOp.loadN [.int .i64 ((rs.getD k (0, 0, [])).1), .int .i64 ((rs.getD k (0, 0, [])).2.1), a1] Tryz.isAgg107 Tryz.sizeOf107 rfl rfl (Rd.three (hr1 _) (hr2 _) (hr3 _)) ?_)
      refine XL.cons (XOp.move (.int .i64 (dec z (rs.length + gTo lenS rs k))) rfl ?_)
      refine XL.cons (XOp.call (args := [.agg #[.int .i64 ((rs.getD k (0, 0, [])).1), .int .i64 ((rs.getD k (0, 0, [])).2.1), a1], .int .i64 (dec z (rs.length + gTo lenS rs k))]) Tryz.call80 rfl (szStep_spec (z := dec z (rs.length + gTo lenS rs k)) ha1 (hz := (by first | assumption | rfl | omega | (left; simp; done) | (right; simp; done))) (hll := (by first | assumption | rfl | omega | (left; simp; done) | (right; simp; done)))) ?_)
      rintro _ _ _ _ ⟨rfl, rfl, rfl⟩
      refine XL.cons (XOp.assign (.int .i64 (dec (dec z (rs.length + gTo lenS rs k)) ((rs.getD k (0, 0, [])).2.2).length)) rfl ?_)
      refine XL.nil ?_
      refine X.seq ?_
      refine X.region ?_
      refine XL.cons (XOp.move (.int .i64 (dec (dec z (rs.length + gTo lenS rs k)) ((rs.getD k (0, 0, [])).2.2).length)) rfl ?_)
      refine XL.cons (XOp.lss (a := dec (dec z (rs.length + gTo lenS rs k)) ((rs.getD k (0, 0, [])).2.2).length) (b := 0) rfl rfl ?_)
      refine XL.nil ?_
      refine X.condD (p := (dec (dec z (rs.length + gTo lenS rs k)) ((rs.getD k (0, 0, [])).2.2).length : Int) < 0) rfl (fun h3 => ?_) (fun h3 => ?_)
      · refine X.seq ?_
        refine X.region ?_
        refine XL.cons (XOp.assign (.int .i64 (-1)) rfl ?_)
        refine XL.nil ?_
        refine X.ret (blockQ_ret (thenQ_ret (thenQ_ret (blockQ_ret (thenQ_ret (retEnd (L' := L) [.int .i64 (-1)] (.int .i64 (-1)) (.tmp rfl .nil) rfl (FLe.refl _) (FLe.refl _) (Sub.refl _) ?_))))))
        exact ⟨(congrArg (Value.int .i64) (by have h9 := gTo_le (f := lenS) (l := rs) ((0 : Int), (0 : Int), ([] : List Int)) (k + 1) rs.length (by omega) (Nat.le_refl _); refine dec_mono (n := rs.length + gTo lenS rs (k + 1)) ?_ (by unfold szG; omega); rw [← gTo_succ ((0 : Int), (0 : Int), ([] : List Int)) (by omega), ← Nat.add_assoc, ← dec_dec (by omega)]; assumption)), rfl, rfl⟩
      · refine X.skip ?_
        refine X.region ?_
        refine XL.cons (XOp.move (.int .i64 (((k : Nat) : Int))) rfl ?_)
        refine XL.cons (XOp.addR (a := ((k : Nat) : Int)) (b := 1) (((k + 1 : Nat) : Int)) rfl rfl (by omega) (by omega) ?_)
        refine XL.cons (XOp.assign (.int .i64 (((k + 1 : Nat) : Int))) rfl ?_)
        refine XL.nil ?_
        exact ⟨k + 1, _, FLe.refl _, (FLe.refl _), ⟨rfl, (congrArg (Value.int .i64) (by rw [dec_dec (by omega), Nat.add_assoc, ← gTo_succ ((0 : Int), (0 : Int), ([] : List Int)) (by omega)]; rfl)), rfl, trivial⟩, (Sub.refl _), ⟨rfl, (by (try dsimp only) <;> omega), (by (try dsimp only); rw [← gTo_succ ((0 : Int), (0 : Int), ([] : List Int)) (by omega), ← Nat.add_assoc, ← dec_dec (by omega)]; exact Int.not_lt.1 (by assumption))⟩, (by omega)⟩
    · refine X.exit (thenQ_exit (thenQ_exit (blockQ_exit ?_)))
      refine X.seq ?_
      refine X.region ?_
      refine XL.cons (XOp.move (.int .i64 (dec z (rs.length + gTo lenS rs k))) rfl ?_)
      refine XL.cons (XOp.assign (.int .i64 (dec z (rs.length + gTo lenS rs k))) rfl ?_)
      refine XL.nil ?_
      refine X.ret (retEnd (L' := L) [.int .i64 (dec z (rs.length + gTo lenS rs k))] (.int .i64 (dec z (rs.length + gTo lenS rs k))) (.tmp rfl .nil) rfl (FLe.refl _) (FLe.refl _) (Sub.refl _) ?_)
      exact ⟨(congrArg (Value.int .i64) (by rw [szG, show k = rs.length from by omega])), rfl, rfl⟩

/- laws.szInt64SS -/
theorem szInt64SS_spec {F : FH} {L : List HP} {rsv : Value} {rs : List (List Int)} (hrs : RowsF F rsv rs) {z : Int} (hz : 0 ≤ z ∧ z ≤ 4000000) (hrl : rs.length ≤ 9223372036854775807) (hrb : ∀ i, i < rs.length → (rs.getD i []).length ≤ 9223372036854775807) :
    Does Tryz.prog 36 [rsv, .int .i64 (z)] F (L) (fun v F' L' => (.int .i64 (dec z (szG lenR rs)) : Value) = v ∧ F = F' ∧ L = L') := by
  refine Does.of_X Tryz.func36 rfl rfl rfl ?_
  refine X.seq ?_
  refine X.region ?_
  refine XL.cons (XOp.assign (.int .i64 (0)) rfl ?_)
  refine XL.nil ?_
  refine X.seq ?_
  refine X.region ?_
  refine XL.cons (XOp.move (.int .i64 (z)) rfl ?_)
  refine XL.cons (XOp.move (rsv) rfl ?_)
  refine XL.cons (XOp.lenS (v := rsv) (n := (rs).length) Tryz.runUnderlying31 rfl hrs.slv ?_)
  refine XL.cons (XOp.subR (a := z) (b := (((rs).length : Nat) : Int)) (z - ((((rs).length : Nat) : Int))) rfl rfl (by omega) (by omega) ?_)
  refine XL.cons (XOp.assign (.int .i64 (z - ((((rs).length : Nat) : Int)))) rfl ?_)
  refine XL.nil ?_
  refine X.seq ?_
  refine X.seq ?_
  refine X.region ?_
  refine XL.cons (XOp.move (.int .i64 (z - ((((rs).length : Nat) : Int)))) rfl ?_)
  refine XL.cons (XOp.lss (a := z - ((((rs).length : Nat) : Int))) (b := 0) rfl rfl ?_)
  refine XL.nil ?_
  refine X.condD (p := (z - ((((rs).length : Nat) : Int)) : Int) < 0) rfl (fun h1 => ?_) (fun h1 => ?_)
  · refine X.seq ?_
    refine X.region ?_
    refine XL.cons (XOp.assign (.int .i64 (-1)) rfl ?_)
    refine XL.nil ?_
    refine X.ret (thenQ_ret (retEnd (L' := L) [.int .i64 (-1)] (.int .i64 (-1)) (.tmp rfl .nil) rfl (FLe.refl _) (FLe.refl _) (Sub.refl _) ?_))
    exact ⟨(congrArg (Value.int .i64) (dec_mono (n := rs.length) (by rw [dec_neg (by omega)]; omega) (by unfold szG; omega))), rfl, rfl⟩
  · refine X.skip ?_
    refine X.seq ?_
    refine X.seq ?_
    refine X.region ?_
    refine XL.cons (XOp.assign (.int .i64 (0)) rfl ?_)
    refine XL.nil ?_
    refine X.block ?_
    refine X.loop (α := Nat) (fun k => [(0, rsv), (1, .int .i64 (dec z (rs.length + gTo lenR rs k))), (5, .int .i64 (((k : Nat) : Int)))]) (fun k => L) (fun k F' => F = F' ∧ (k ≤ rs.length) ∧ (0 ≤ dec z (rs.length + gTo lenR rs k))) (fun k => rs.length - k) 0 ⟨rfl, (congrArg (Value.int .i64) (by show z - rs.length = dec z (rs.length + 0); rw [Nat.add_zero, dec_pos (by omega)])), rfl, trivial⟩ (Sub.refl _) ⟨rfl, (by (try dsimp only) <;> omega), (by show 0 ≤ dec z (rs.length + 0); rw [Nat.add_zero, dec_pos (by omega)]; omega)⟩ ?_
    rintro k rE _ _ ⟨rfl, hk, hnn⟩
    show X _ _ _ _ (envs [(0, rsv), (1, .int .i64 (dec z (rs.length + gTo lenR rs k))), (5, .int .i64 (((k : Nat) : Int)))] rE) _ (L)
    have hdr := dec_range z (rs.length + gTo lenR rs k)
    have hrk := hrb k
    have hgk : lenR (rs.getD k []) = (rs.getD k []).length := rfl
    refine X.seq ?_
    refine X.seq ?_
    refine X.region ?_
    refine XL.cons (XOp.move (.int .i64 (((k : Nat) : Int))) rfl ?_)
    refine XL.cons (XOp.move (rsv) rfl ?_)
    refine XL.cons (XOp.lenS (v := rsv) (n := (rs).length) Tryz.runUnderlying31 rfl hrs.slv ?_)
    refine XL.cons (XOp.lss (a := ((k : Nat) : Int)) (b := (((rs).length : Nat) : Int)) rfl rfl ?_)
    refine XL.nil ?_
    refine X.condD (p := (((k : Nat) : Int) : Int) < (((rs).length : Nat) : Int)) rfl (fun h2 => ?_) (fun h2 => ?_)
    · refine X.skip ?_
      refine X.seq ?_
      refine X.block ?_
      refine X.seq ?_
      refine X.region ?_
      refine XL.cons (XOp.move (rsv) rfl ?_)
      refine XL.cons (XOp.move (.int .i64 (((k : Nat) : Int))) rfl ?_)
      refine XL.cons (XOp.indexS (v := rsv) (i := ((k : Nat) : Int)) (n := (rs).length) k Tryz.runUnderlying31 Tryz.sizeOf22 rfl rfl rfl hrs.slv (by omega) (Nat.mul_one _) ?_)
      obtain ⟨a1, ha1, hr1⟩ := hrs.rd (i := k) (by omega)
      refine XL.cons (XOp.load1 (v := a1) Tryz.isAgg22 rfl (hr1 _) ?_)
      refine XL.cons (XOp.move (.int .i64 (dec z (rs.length + gTo lenR rs k))) rfl ?_)
      refine XL.cons (XOp.call (args := [a1, .int .i64 (dec z (rs.length + gTo lenR rs k))]) Tryz.call34 rfl (szInt64S_spec (z := dec z (rs.length + gTo lenR rs k)) ha1 (hz := (by first | assumption | rfl | omega | (left; simp; done) | (right; simp; done))) (hlx := (by first | assumption | rfl | omega | (left; simp; done) | (right; simp; done)))) ?_)
      rintro _ _ _ _ ⟨rfl, rfl, rfl⟩
      refine XL.cons (XOp.assign (.int .i64 (dec (dec z (rs.length + gTo lenR rs k)) ((rs.getD k [])).length)) rfl ?_)
      refine XL.nil ?_
      refine X.seq ?_
      refine X.region ?_
      refine XL.cons (XOp.move (.int .i64 (dec (dec z (rs.length + gTo lenR rs k)) ((rs.getD k [])).length)) rfl ?_)
      refine XL.cons (XOp.lss (a := dec (dec z (rs.length + gTo lenR rs k)) ((rs.getD k [])).length) (b := 0) rfl rfl ?_)
      refine XL.nil ?_
      refine X.condD (p := (dec (dec z (rs.length + gTo lenR rs k)) ((rs.getD k [])).length : Int) < 0) rfl (fun h3 => ?_) (fun h3 => ?_)
      · refine X.seq ?_
        refine X.region ?_
        refine XL.cons (XOp.assign (.int .i64 (-1)) rfl ?_)
        refine XL.nil ?_
        refine X.ret (blockQ_ret (thenQ_ret (thenQ_ret (blockQ_ret (thenQ_ret (retEnd (L' := L) [.int .i64 (-1)] (.int .i64 (-1)) (.tmp rfl .nil) rfl (FLe.refl _) (FLe.refl _) (Sub.refl _) ?_))))))
        exact ⟨(congrArg (Value.int .i64) (by have h9 := gTo_le (f := lenR) (l := rs) ([] : List Int) (k + 1) rs.length (by omega) (Nat.le_refl _); refine dec_mono (n := rs.length + gTo lenR rs (k + 1)) ?_ (by unfold szG; omega); rw [← gTo_succ ([] : List Int) (by omega), ← Nat.add_assoc, ← dec_dec (by omega)]; assumption)), rfl, rfl⟩
      · refine X.skip ?_
        refine X.region ?_
        refine XL.cons (XOp.move (.int .i64 (((k : Nat) : Int))) rfl ?_)
        refine XL.cons (XOp.addR (a := ((k : Nat) : Int)) (b := 1) (((k + 1 : Nat) : Int)) rfl rfl (by omega) (by omega) ?_)
        refine XL.cons (XOp.assign (.int .i64 (((k + 1 : Nat) : Int))) rfl ?_)
        refine XL.nil ?_
        exact ⟨k + 1, _, FLe.refl _, (FLe.refl _), ⟨rfl, (congrArg (Value.int .i64) (by rw [dec_dec (by omega), Nat.add_assoc, ← gTo_succ ([] : List Int) (by omega)]; rfl)), rfl, trivial⟩, (Sub.refl _), ⟨rfl, (by (try dsimp only) <;> omega), (by (try dsimp only); rw [← gTo_succ ([] : List Int) (by omega), ← Nat.add_assoc, ← dec_dec (by omega)]; exact Int.not_lt.1 (by assumption))⟩, (by omega)⟩
    · refine X.exit (thenQ_exit (thenQ_exit (blockQ_exit ?_)))
      refine X.seq ?_
      refine X.region ?_
      refine XL.cons (XOp.move (.int .i64 (dec z (rs.length + gTo lenR rs k))) rfl ?_)
      refine XL.cons (XOp.assign (.int .i64 (dec z (rs.length + gTo lenR rs k))) rfl ?_)
      refine XL.nil ?_
      refine X.ret (retEnd (L' := L) [.int .i64 (dec z (rs.length + gTo lenR rs k))] (.int .i64 (dec z (rs.length + gTo lenR rs k))) (.tmp rfl .nil) rfl (FLe.refl _) (FLe.refl _) (Sub.refl _) ?_)
      exact ⟨(congrArg (Value.int .i64) (by rw [szG, show k = rs.length from by omega])), rfl, rfl⟩

/- laws.szWalk -/
theorem szWalk_spec {F : FH} {L : List HP} {fv : Value} {f : List Int} (hf : IntsF F fv f) {rsv : Value} {rs : List StepT} (hrs : StepsF F rsv rs) {z : Int} (hz : 0 ≤ z ∧ z ≤ 4000000) (hal : f.length ≤ 9223372036854775807) (hrl : rs.length ≤ 9223372036854775807) (hrb : ∀ i, i < rs.length → (rs.getD i (0, 0, [])).2.2.length ≤ 9223372036854775807) :
    Does Tryz.prog 6 [.agg #[fv, rsv], .int .i64 (z)] F (L) (fun v F' L' => (.int .i64 (dec z (f.length + szG lenS rs)) : Value) = v ∧ F = F' ∧ L = L') := by
  refine Does.of_X Tryz.func6 rfl rfl rfl ?_
  have hdr := dec_range z f.length
  refine X.seq ?_
  refine X.region ?_
  refine XL.cons (XOp.box [fv, rsv] rfl rfl ?_)
  intro b1
  refine XL.cons (XOp.assign (.int .i64 (0)) rfl ?_)
  refine XL.nil ?_
  refine X.seq ?_
  refine X.region ?_
  refine XL.cons (XOp.fieldP (b := b1) (0) Tryz.runUnderlying30 rfl Tryz.sizeOf22 (by decide) rfl rfl ?_)
  refine XL.cons (XOp.load1 (v := fv) Tryz.isAgg22 rfl (Rd.own [] rfl rfl) ?_)
  refine XL.cons (XOp.move (.int .i64 (z)) rfl ?_)
  refine XL.cons (XOp.call (args := [fv, .int .i64 (z)]) Tryz.call34 rfl (szInt64S_spec (z := z) hf (hz := (by first | assumption | rfl | omega | (left; simp; done) | (right; simp; done))) (hlx := (by first | assumption | rfl | omega | (left; simp; done) | (right; simp; done)))) ?_)
  rintro _ _ _ _ ⟨rfl, rfl, rfl⟩
  refine XL.cons (XOp.assign (.int .i64 (dec z f.length)) rfl ?_)
  refine XL.nil ?_
  refine X.seq ?_
  refine X.seq ?_
  refine X.region ?_
  refine XL.cons (XOp.move (.int .i64 (dec z f.length)) rfl ?_)
  refine XL.cons (XOp.lss (a := dec z f.length) (b := 0) rfl rfl ?_)
  refine XL.nil ?_
  refine X.condD (p := (dec z f.length : Int) < 0) rfl (fun h1 => ?_) (fun h1 => ?_)
  · refine X.seq ?_
    refine X.region ?_
    refine XL.cons (XOp.assign (.int .i64 (-1)) rfl ?_)
    refine XL.nil ?_
    refine X.ret (thenQ_ret (retEnd (L' := L) [.int .i64 (-1)] (.int .i64 (-1)) (.tmp rfl .nil) rfl (FLe.refl _) (FLe.refl _) (Sub.drop (Sub.refl _)) ?_))
    exact ⟨(congrArg (Value.int .i64) (dec_out (by omega))), rfl, rfl⟩
  · refine X.skip ?_
    refine X.seq ?_
    refine X.region ?_
    refine XL.cons (XOp.fieldP (b := b1) (1) Tryz.runUnderlying30 rfl Tryz.sizeOf28 (by decide) rfl rfl ?_)
    refine XL.cons (XOp.load1 (v := rsv) Tryz.isAgg28 rfl (Rd.own [] rfl rfl) ?_)
    refine XL.cons (XOp.move (.int .i64 (dec z f.length)) rfl ?_)
    refine XL.cons (XOp.call (args := [rsv, .int .i64 (dec z f.length)]) Tryz.call35 rfl (szStepS_spec (z := dec z f.length) hrs (hz := (by first | assumption | rfl | omega | (left; simp; done) | (right; simp; done))) (hrl := (by first | assumption | rfl | omega | (left; simp; done) | (right; simp; done))) (hrb := (by first | assumption | rfl | omega | (left; simp; done) | (right; simp; done)))) ?_)
    rintro _ _ _ _ ⟨rfl, rfl, rfl⟩
    refine XL.cons (XOp.assign (.int .i64 (dec (dec z f.length) (szG lenS rs))) rfl ?_)
    refine XL.nil ?_
    refine X.seq ?_
    refine X.seq ?_
    refine X.region ?_
    refine XL.cons (XOp.move (.int .i64 (dec (dec z f.length) (szG lenS rs))) rfl ?_)
    refine XL.cons (XOp.lss (a := dec (dec z f.length) (szG lenS rs)) (b := 0) rfl rfl ?_)
    refine XL.nil ?_
    refine X.condD (p := (dec (dec z f.length) (szG lenS rs) : Int) < 0) rfl (fun h2 => ?_) (fun h2 => ?_)
    · refine X.seq ?_
      refine X.region ?_
      refine XL.cons (XOp.assign (.int .i64 (-1)) rfl ?_)
      refine XL.nil ?_
      refine X.ret (thenQ_ret (retEnd (L' := L) [.int .i64 (-1)] (.int .i64 (-1)) (.tmp rfl .nil) rfl (FLe.refl _) (FLe.refl _) (Sub.drop (Sub.refl _)) ?_))
      exact ⟨(congrArg (Value.int .i64) (by rw [← dec_dec (by omega)]; have := (dec_range (dec z f.length) (szG lenS rs)).1; omega)), rfl, rfl⟩
    · refine X.skip ?_
      refine X.seq ?_
      refine X.region ?_
      refine XL.cons (XOp.move (.int .i64 (dec (dec z f.length) (szG lenS rs))) rfl ?_)
      refine XL.cons (XOp.assign (.int .i64 (dec (dec z f.length) (szG lenS rs))) rfl ?_)
      refine XL.nil ?_
      refine X.ret (retEnd (L' := L) [.int .i64 (dec (dec z f.length) (szG lenS rs))] (.int .i64 (dec (dec z f.length) (szG lenS rs))) (.tmp rfl .nil) rfl (FLe.refl _) (FLe.refl _) (Sub.drop (Sub.refl _)) ?_)
      exact ⟨(congrArg (Value.int .i64) ((dec_dec (by omega)).symm)), rfl, rfl⟩

/- laws.szSubst -/
theorem szSubst_spec {F : FH} {L : List HP} {rsv : Value} {rs : List (List Int)} (hrs : RowsF F rsv rs) {z : Int} (hz : 0 ≤ z ∧ z ≤ 4000000) (hrl : rs.length ≤ 9223372036854775807) (hrb : ∀ i, i < rs.length → (rs.getD i []).length ≤ 9223372036854775807) :
    Does Tryz.prog 7 [.agg #[rsv], .int .i64 (z)] F (L) (fun v F' L' => (.int .i64 (dec z (szG lenR rs)) : Value) = v ∧ F = F' ∧ L = L') := by
  refine Does.of_X Tryz.func7 rfl rfl rfl ?_
  have hdr := dec_range z (szG lenR rs)
  refine X.seq ?_
  refine X.region ?_
  refine XL.cons (XOp.box [rsv] rfl rfl ?_)
  intro b1
  refine XL.cons (XOp.assign (.int .i64 (0)) rfl ?_)
  refine XL.nil ?_
  refine X.seq ?_
  refine X.region ?_
  refine XL.cons (XOp.fieldP (b := b1) (0) Tryz.runUnderlying33 rfl Tryz.sizeOf31 (by decide) rfl rfl ?_)
  refine XL.cons (XOp.load1 (v := rsv) Tryz.isAgg31 rfl (Rd.own [] rfl rfl) ?_)
  refine XL.cons (XOp.move (.int .i64 (z)) rfl ?_)
  refine XL.cons (XOp.call (args := [rsv, .int .i64 (z)]) Tryz.call36 rfl (szInt64SS_spec (z := z) hrs (hz := (by first | assumption | rfl | omega | (left; simp; done) | (right; simp; done))) (hrl := (by first | assumption | rfl | omega | (left; simp; done) | (right; simp; done))) (hrb := (by first | assumption | rfl | omega | (left; simp; done) | (right; simp; done)))) ?_)
  rintro _ _ _ _ ⟨rfl, rfl, rfl⟩
  refine XL.cons (XOp.assign (.int .i64 (dec z (szG lenR rs))) rfl ?_)
  refine XL.nil ?_
  refine X.seq ?_
  refine X.seq ?_
  refine X.region ?_
  refine XL.cons (XOp.move (.int .i64 (dec z (szG lenR rs))) rfl ?_)
  refine XL.cons (XOp.lss (a := dec z (szG lenR rs)) (b := 0) rfl rfl ?_)
  refine XL.nil ?_
  refine X.condD (p := (dec z (szG lenR rs) : Int) < 0) rfl (fun h1 => ?_) (fun h1 => ?_)
  · refine X.seq ?_
    refine X.region ?_
    refine XL.cons (XOp.assign (.int .i64 (-1)) rfl ?_)
    refine XL.nil ?_
    refine X.ret (thenQ_ret (retEnd (L' := L) [.int .i64 (-1)] (.int .i64 (-1)) (.tmp rfl .nil) rfl (FLe.refl _) (FLe.refl _) (Sub.drop (Sub.refl _)) ?_))
    exact ⟨(congrArg (Value.int .i64) (by omega)), rfl, rfl⟩
  · refine X.skip ?_
    refine X.seq ?_
    refine X.region ?_
    refine XL.cons (XOp.move (.int .i64 (dec z (szG lenR rs))) rfl ?_)
    refine XL.cons (XOp.assign (.int .i64 (dec z (szG lenR rs))) rfl ?_)
    refine XL.nil ?_
    refine X.ret (retEnd (L' := L) [.int .i64 (dec z (szG lenR rs))] (.int .i64 (dec z (szG lenR rs))) (.tmp rfl .nil) rfl (FLe.refl _) (FLe.refl _) (Sub.drop (Sub.refl _)) ?_)
    exact ⟨rfl, rfl, rfl⟩

/- laws.eqStep -/
theorem eqStep_spec {F : FH} {L : List HP} {i : Int} {j : Int} {av : Value} {a : List Int} (ha : IntsF F av a) {p : Int} {q : Int} {bv : Value} {b : List Int} (hb : IntsF F bv b) (hbd : a.length ≤ 9223372036854775807 ∨ b.length ≤ 9223372036854775807) :
    Does Tryz.prog 92 [.agg #[.int .i64 (i), .int .i64 (j), av], .agg #[.int .i64 (p), .int .i64 (q), bv]] F (L) (fun v F' L' => (.bool (decide ((i, j, a) = (p, q, b))) : Value) = v ∧ F = F' ∧ L = L') := by
  refine Does.of_X Tryz.func92 rfl rfl rfl ?_
  refine X.seq ?_
  refine X.region ?_
  refine XL.cons (XOp.box [.int .i64 (i), .int .i64 (j), av] rfl rfl ?_)
  intro b1
  refine XL.cons (XOp.box [.int .i64 (p), .int .i64 (q), bv] rfl rfl ?_)
  intro b2
  refine XL.cons (XOp.assign (.bool (false)) rfl ?_)
  refine XL.nil ?_
  refine X.seq ?_
  refine X.seq ?_
  refine X.region ?_
  refine XL.cons (XOp.fieldP (b := b1) (0) Tryz.runUnderlying78 rfl Tryz.sizeOf2 (by decide) rfl rfl ?_)
  refine XL.cons (XOp.load1 (v := .int .i64 (i)) Tryz.isAgg2 rfl (Rd.own [_] rfl rfl) ?_)
  refine XL.cons (XOp.fieldP (b := b2) (0) Tryz.runUnderlying78 rfl Tryz.sizeOf2 (by decide) rfl rfl ?_)
  refine XL.cons (XOp.load1 (v := .int .i64 (p)) Tryz.isAgg2 rfl (Rd.own [] rfl rfl) ?_)
  refine XL.cons (XOp.neq (a := i) (b := p) rfl rfl ?_)
  refine XL.nil ?_
  refine X.condD (p := (i : Int) ≠ p) rfl (fun h1 => ?_) (fun h1 => ?_)
  · refine X.seq ?_
    refine X.region ?_
    refine XL.cons (XOp.assign (.bool (false)) rfl ?_)
    refine XL.nil ?_
    refine X.ret (thenQ_ret (retEnd (L' := L) [.bool (false)] (.bool (false)) (.tmp rfl .nil) rfl (FLe.refl _) (FLe.refl _) (Sub.drop (Sub.drop (Sub.refl _))) ?_))
    exact ⟨(congrArg Value.bool (decide_eq_false (by intro e; simp_all))), rfl, rfl⟩
  · refine X.skip ?_
    refine X.seq ?_
    refine X.seq ?_
    refine X.region ?_
    refine XL.cons (XOp.fieldP (b := b1) (1) Tryz.runUnderlying78 rfl Tryz.sizeOf2 (by decide) rfl rfl ?_)
    refine XL.cons (XOp.load1 (v := .int .i64 (j)) Tryz.isAgg2 rfl (Rd.own [_] rfl rfl) ?_)
    refine XL.cons (XOp.fieldP (b := b2) (1) Tryz.runUnderlying78 rfl Tryz.sizeOf2 (by decide) rfl rfl ?_)
    refine XL.cons (XOp.load1 (v := .int .i64 (q)) Tryz.isAgg2 rfl (Rd.own [] rfl rfl) ?_)
    refine XL.cons (XOp.neq (a := j) (b := q) rfl rfl ?_)
    refine XL.nil ?_
    refine X.condD (p := (j : Int) ≠ q) rfl (fun h2 => ?_) (fun h2 => ?_)
    · refine X.seq ?_
      refine X.region ?_
      refine XL.cons (XOp.assign (.bool (false)) rfl ?_)
      refine XL.nil ?_
      refine X.ret (thenQ_ret (retEnd (L' := L) [.bool (false)] (.bool (false)) (.tmp rfl .nil) rfl (FLe.refl _) (FLe.refl _) (Sub.drop (Sub.drop (Sub.refl _))) ?_))
      exact ⟨(congrArg Value.bool (decide_eq_false (by intro e; simp_all))), rfl, rfl⟩
    · refine X.skip ?_
      refine X.seq ?_
      refine X.seq ?_
      refine X.region ?_
      refine XL.cons (XOp.fieldP (b := b1) (2) Tryz.runUnderlying78 rfl Tryz.sizeOf22 (by decide) rfl rfl ?_)
      refine XL.cons (XOp.load1 (v := av) Tryz.isAgg22 rfl (Rd.own [_] rfl rfl) ?_)
      refine XL.cons (XOp.fieldP (b := b2) (2) Tryz.runUnderlying78 rfl Tryz.sizeOf22 (by decide) rfl rfl ?_)
      refine XL.cons (XOp.load1 (v := bv) Tryz.isAgg22 rfl (Rd.own [] rfl rfl) ?_)
      refine XL.cons (XOp.call (args := [av, bv]) Tryz.call49 rfl (eqInt64S_spec ha hb (hbd := (by first | assumption | rfl | omega | (left; simp; done) | (right; simp; done)))) ?_)
      rintro _ _ _ _ ⟨rfl, rfl, rfl⟩
      refine XL.cons (XOp.notD (p := a = b) rfl ?_)
      refine XL.nil ?_
      refine X.condD (p := ¬(a = b)) rfl (fun h3 => ?_) (fun h3 => ?_)
      · refine X.seq ?_
        refine X.region ?_
        refine XL.cons (XOp.assign (.bool (false)) rfl ?_)
        refine XL.nil ?_
        refine X.ret (thenQ_ret (retEnd (L' := L) [.bool (false)] (.bool (false)) (.tmp rfl .nil) rfl (FLe.refl _) (FLe.refl _) (Sub.drop (Sub.drop (Sub.refl _))) ?_))
        exact ⟨(congrArg Value.bool (decide_eq_false (by intro e; simp_all))), rfl, rfl⟩
      · refine X.skip ?_
        refine X.seq ?_
        refine X.region ?_
        refine XL.cons (XOp.assign (.bool (true)) rfl ?_)
        refine XL.nil ?_
        refine X.ret (retEnd (L' := L) [.bool (true)] (.bool (true)) (.tmp rfl .nil) rfl (FLe.refl _) (FLe.refl _) (Sub.drop (Sub.drop (Sub.refl _))) ?_)
        exact ⟨(congrArg Value.bool (decide_eq_true (by simp_all))), rfl, rfl⟩

/- laws.eqStepS -/
theorem eqStepS_spec {F : FH} {L : List HP} {av : Value} {a : List StepT} (ha : StepsF F av a) {bv : Value} {b : List StepT} (hb : StepsF F bv b) (hal : a.length ≤ 9223372036854775807) (hbd : ∀ i, i < a.length → (a.getD i (0, 0, [])).2.2.length ≤ 9223372036854775807) :
    Does Tryz.prog 50 [av, bv] F (L) (fun v F' L' => (.bool (decide (a = b)) : Value) = v ∧ F = F' ∧ L = L') := by
  refine Does.of_X Tryz.func50 rfl rfl rfl ?_
  refine X.seq ?_
  refine X.region ?_
  refine XL.cons (XOp.assign (.bool (false)) rfl ?_)
  refine XL.nil ?_
  refine X.seq ?_
  refine X.seq ?_
  refine X.region ?_
  refine XL.cons (XOp.move (av) rfl ?_)
  refine XL.cons (XOp.lenS (v := av) (n := (a).length) Tryz.runUnderlying37 rfl ha.slv ?_)
  refine XL.cons (XOp.move (bv) rfl ?_)
  refine XL.cons (XOp.lenS (v := bv) (n := (b).length) Tryz.runUnderlying37 rfl hb.slv ?_)
  refine XL.cons (XOp.neq (a := (((a).length : Nat) : Int)) (b := (((b).length : Nat) : Int)) rfl rfl ?_)
  refine XL.nil ?_
  refine X.condD (p := ((((a).length : Nat) : Int) : Int) ≠ (((b).length : Nat) : Int)) rfl (fun h1 => ?_) (fun h1 => ?_)
  · refine X.seq ?_
    refine X.region ?_
    refine XL.cons (XOp.assign (.bool (false)) rfl ?_)
    refine XL.nil ?_
    refine X.ret (thenQ_ret (retEnd (L' := L) [.bool (false)] (.bool (false)) (.tmp rfl .nil) rfl (FLe.refl _) (FLe.refl _) (Sub.refl _) ?_))
    exact ⟨(congrArg Value.bool (decide_eq_false (fun e => by rw [e] at h1; omega))), rfl, rfl⟩
  · refine X.skip ?_
    refine X.seq ?_
    refine X.seq ?_
    refine X.region ?_
    refine XL.cons (XOp.assign (.int .i64 (0)) rfl ?_)
    refine XL.nil ?_
    refine X.block ?_
    refine X.loop (α := Nat) (fun k => [(0, av), (1, bv), (5, .int .i64 (((k : Nat) : Int)))]) (fun k => L) (fun k F' => F = F' ∧ (k ≤ a.length) ∧ (∀ i, i < k → a.getD i ((0 : Int), (0 : Int), ([] : List Int)) = b.getD i ((0 : Int), (0 : Int), ([] : List Int)))) (fun k => a.length - k) 0 ⟨rfl, rfl, rfl, trivial⟩ (Sub.refl _) ⟨rfl, (by (try dsimp only) <;> omega), (fun i hi => absurd hi (by omega))⟩ ?_
    rintro k rE _ _ ⟨rfl, hk, hall⟩
    show X _ _ _ _ (envs [(0, av), (1, bv), (5, .int .i64 (((k : Nat) : Int)))] rE) _ (L)
    have hbk := hbd k
    refine X.seq ?_
    refine X.seq ?_
    refine X.region ?_
    refine XL.cons (XOp.move (.int .i64 (((k : Nat) : Int))) rfl ?_)
    refine XL.cons (XOp.move (av) rfl ?_)
    refine XL.cons (XOp.lenS (v := av) (n := (a).length) Tryz.runUnderlying37 rfl ha.slv ?_)
    refine XL.cons (XOp.lss (a := ((k : Nat) : Int)) (b := (((a).length : Nat) : Int)) rfl rfl ?_)
    refine XL.nil ?_
    refine X.condD (p := (((k : Nat) : Int) : Int) < (((a).length : Nat) : Int)) rfl (fun h2 => ?_) (fun h2 => ?_)
    · refine X.skip ?_
      refine X.seq ?_
      refine X.block ?_
      refine X.seq ?_
      obtain ⟨a1, ha1, hr1, hr2, hr3⟩ := ha.rd (i := k) (by omega)
      obtain ⟨a2, ha2, hr4, hr5, hr6⟩ := hb.rd (i := k) (by omega)
      refine X.draw [] L 8 [[], [], [], [], [], [], [], []] [[], [], [0, 1], [2], [], [], [4, 5], [6]] (phiL [fun us v => v = av, fun us v => v = (.int .i64 (((k : Nat) : Int)) : Value), fun us v => v = (.pointer (some (elemA av (k * 3))) : Value), fun us v => v = (.agg #[.int .i64 ((a.getD k (0, 0, [])).1), .int .i64 ((a.getD k (0, 0, [])).2.1), a1] : Value), fun us v => v = bv, fun us v => v = (.int .i64 (((k : Nat) : Int)) : Value), fun us v => v = (.pointer (some (elemA bv (k * 3))) : Value), fun us v => v = (.agg #[.int .i64 ((b.getD k (0, 0, [])).1), .int .i64 ((b.getD k (0, 0, [])).2.1), a2] : Value)]) (ownL [fun us v => [], fun us v => [], fun us v => [], fun us v => [], fun us v => [], fun us v => [], fun us v => [], fun us v => []]) mixed rfl rfl (by kernel_rfl) ?_ ?_
      · refine stepsP.cons (fun vals R hpZ => ?_) ?_
        · refine XG.op (XOp.move (av) rfl ?_)
          exact ⟨rfl, rfl, rfl⟩
        refine stepsP.cons (fun vals R hpZ => ?_) ?_
        · refine XG.op (XOp.move (.int .i64 (((k : Nat) : Int))) rfl ?_)
          exact ⟨rfl, rfl, rfl⟩
        refine stepsP.cons (fun vals R hpZ => ?_) ?_
        · rw [(envs_of_sat (l := [(0, av), (1, (.int .i64 (((k : Nat) : Int)) : Value))]) ⟨hpZ 0 (by decide), hpZ 1 (by decide), trivial⟩).symm]
          refine XG.op (XOp.indexS (v := av) (i := ((k : Nat) : Int)) (n := (a).length) k Tryz.runUnderlying37 Tryz.sizeOf78 rfl rfl rfl ha.slv (by omega) rfl ?_)
          exact ⟨rfl, rfl, rfl⟩
        refine stepsP.cons (fun vals R hpZ => ?_) ?_
        · rw [(envs_of_sat (l := [(2, (.pointer (some (elemA av (k * 3))) : Value))]) ⟨hpZ 2 (by decide), trivial⟩).symm]
          refine XG.op (XOp.loadN [.int .i64 ((a.getD k (0, 0, [])).1), .int .i64 ((a.getD k (0, 0, [])).2.1), a1] Tryz.isAgg78 Tryz.sizeOf78 rfl rfl (Rd.three (hr1 _) (hr2 _) (hr3 _)) ?_)
          exact ⟨rfl, rfl, rfl⟩
        refine stepsP.cons (fun vals R hpZ => ?_) ?_
        · refine XG.op (XOp.move (bv) rfl ?_)
          exact ⟨rfl, rfl, rfl⟩
        refine stepsP.cons (fun vals R hpZ => ?_) ?_
        · refine XG.op (XOp.move (.int .i64 (((k : Nat) : Int))) rfl ?_)
          exact ⟨rfl, rfl, rfl⟩
        refine stepsP.cons (fun vals R hpZ => ?_) ?_
        · rw [(envs_of_sat (l := [(4, bv), (5, (.int .i64 (((k : Nat) : Int)) : Value))]) ⟨hpZ 4 (by decide), hpZ 5 (by decide), trivial⟩).symm]
          refine XG.op (XOp.indexS (v := bv) (i := ((k : Nat) : Int)) (n := (b).length) k Tryz.runUnderlying37 Tryz.sizeOf78 rfl rfl rfl hb.slv (by omega) rfl ?_)
          exact ⟨rfl, rfl, rfl⟩
        refine stepsP.cons (fun vals R hpZ => ?_) ?_
        · rw [(envs_of_sat (l := [(6, (.pointer (some (elemA bv (k * 3))) : Value))]) ⟨hpZ 6 (by decide), trivial⟩).symm]
          refine XG.op (XOp.loadN [.int .i64 ((b.getD k (0, 0, [])).1), .int .i64 ((b.getD k (0, 0, [])).2.1), a2] Tryz.isAgg78 Tryz.sizeOf78 rfl rfl (Rd.three (hr4 _) (hr5 _) (hr6 _)) ?_)
          exact ⟨rfl, rfl, rfl⟩
        exact stepsP.nil
      · intro vals hphi
        have e0 : vals 0 = av := hphi 0 (by decide)
        have e1 : vals 1 = (.int .i64 (((k : Nat) : Int)) : Value) := hphi 1 (by decide)
        have e2 : vals 2 = (.pointer (some (elemA av (k * 3))) : Value) := hphi 2 (by decide)
        have e3 : vals 3 = (.agg #[.int .i64 ((a.getD k (0, 0, [])).1), .int .i64 ((a.getD k (0, 0, [])).2.1), a1] : Value) := hphi 3 (by decide)
        have e4 : vals 4 = bv := hphi 4 (by decide)
        have e5 : vals 5 = (.int .i64 (((k : Nat) : Int)) : Value) := hphi 5 (by decide)
        have e6 : vals 6 = (.pointer (some (elemA bv (k * 3))) : Value) := hphi 6 (by decide)
        have e7 : vals 7 = (.agg #[.int .i64 ((b.getD k (0, 0, [])).1), .int .i64 ((b.getD k (0, 0, [])).2.1), a2] : Value) := hphi 7 (by decide)
        rw [(envs_of_sat (l := [(0, av), (1, (.int .i64 (((k : Nat) : Int)) : Value)), (2, (.pointer (some (elemA av (k * 3))) : Value)), (3, (.agg #[.int .i64 ((a.getD k (0, 0, [])).1), .int .i64 ((a.getD k (0, 0, [])).2.1), a1] : Value)), (4, bv), (5, (.int .i64 (((k : Nat) : Int)) : Value)), (6, (.pointer (some (elemA bv (k * 3))) : Value)), (7, (.agg #[.int .i64 ((b.getD k (0, 0, [])).1), .int .i64 ((b.getD k (0, 0, [])).2.1), a2] : Value))]) ⟨e0, e1, e2, e3, e4, e5, e6, e7, trivial⟩).symm]
        show XL _ _ _ _ _ _ _ (L)
        refine XL.cons (XOp.call (args := [.agg #[.int .i64 ((a.getD k (0, 0, [])).1), .int .i64 ((a.getD k (0, 0, [])).2.1), a1], .agg #[.int .i64 ((b.getD k (0, 0, [])).1), .int .i64 ((b.getD k (0, 0, [])).2.1), a2]]) Tryz.call92 rfl (eqStep_spec ha1 ha2 (hbd := (.inl (hbk (by omega))))) ?_)
        rintro _ _ _ _ ⟨rfl, rfl, rfl⟩
        refine XL.cons (XOp.notD (p := (((a.getD k (0, 0, [])).1), ((a.getD k (0, 0, [])).2.1), ((a.getD k (0, 0, [])).2.2)) = (((b.getD k (0, 0, [])).1), ((b.getD k (0, 0, [])).2.1), ((b.getD k (0, 0, [])).2.2))) rfl ?_)
        refine XL.nil ?_
        refine X.condD (p := ¬((((a.getD k (0, 0, [])).1), ((a.getD k (0, 0, [])).2.1), ((a.getD k (0, 0, [])).2.2)) = (((b.getD k (0, 0, [])).1), ((b.getD k (0, 0, [])).2.1), ((b.getD k (0, 0, [])).2.2)))) rfl (fun h3 => ?_) (fun h3 => ?_)
        · refine X.seq ?_
          refine X.region ?_
          refine XL.cons (XOp.assign (.bool (false)) rfl ?_)
          refine XL.nil ?_
          refine X.ret (blockQ_ret (thenQ_ret (thenQ_ret (blockQ_ret (thenQ_ret (retEnd (L' := L) [.bool (false)] (.bool (false)) (.tmp rfl .nil) rfl (FLe.refl _) (FLe.refl _) (Sub.refl _) ?_))))))
          exact ⟨(congrArg Value.bool (decide_eq_false (fun e => by subst e; simp at *))), rfl, rfl⟩
        · refine X.skip ?_
          refine X.region ?_
          refine XL.cons (XOp.move (.int .i64 (((k : Nat) : Int))) rfl ?_)
          refine XL.cons (XOp.addR (a := ((k : Nat) : Int)) (b := 1) (((k + 1 : Nat) : Int)) rfl rfl (by omega) (by omega) ?_)
          refine XL.cons (XOp.assign (.int .i64 (((k + 1 : Nat) : Int))) rfl ?_)
          refine XL.nil ?_
          exact ⟨k + 1, _, FLe.refl _, (FLe.refl _), ⟨rfl, rfl, rfl, trivial⟩, (Sub.refl _), ⟨rfl, (by (try dsimp only) <;> omega), (fun i hi => (Nat.lt_or_ge i k).elim (fun h => hall i h) (fun h => by obtain rfl : i = k := (by omega); first | assumption | exact Classical.not_not.1 (by assumption)))⟩, (by omega)⟩
    · refine X.exit (thenQ_exit (thenQ_exit (blockQ_exit ?_)))
      refine X.seq ?_
      refine X.region ?_
      refine XL.cons (XOp.assign (.bool (true)) rfl ?_)
      refine XL.nil ?_
      refine X.ret (retEnd (L' := L) [.bool (true)] (.bool (true)) (.tmp rfl .nil) rfl (FLe.refl _) (FLe.refl _) (Sub.refl _) ?_)
      exact ⟨(congrArg Value.bool (decide_eq_true (ext_any ((0 : Int), (0 : Int), ([] : List Int)) (by omega) (fun i hi => hall i (by omega))))), rfl, rfl⟩

/- laws.eqInt64SS -/
theorem eqInt64SS_spec {F : FH} {L : List HP} {av : Value} {a : List (List Int)} (ha : RowsF F av a) {bv : Value} {b : List (List Int)} (hb : RowsF F bv b) (hal : a.length ≤ 9223372036854775807) (hbd : ∀ i, i < a.length → (a.getD i []).length ≤ 9223372036854775807) :
    Does Tryz.prog 53 [av, bv] F (L) (fun v F' L' => (.bool (decide (a = b)) : Value) = v ∧ F = F' ∧ L = L') := by
  refine Does.of_X Tryz.func53 rfl rfl rfl ?_
  refine X.seq ?_
  refine X.region ?_
  refine XL.cons (XOp.assign (.bool (false)) rfl ?_)
  refine XL.nil ?_
  refine X.seq ?_
  refine X.seq ?_
  refine X.region ?_
  refine XL.cons (XOp.move (av) rfl ?_)
  refine XL.cons (XOp.lenS (v := av) (n := (a).length) Tryz.runUnderlying31 rfl ha.slv ?_)
  refine XL.cons (XOp.move (bv) rfl ?_)
  refine XL.cons (XOp.lenS (v := bv) (n := (b).length) Tryz.runUnderlying31 rfl hb.slv ?_)
  refine XL.cons (XOp.neq (a := (((a).length : Nat) : Int)) (b := (((b).length : Nat) : Int)) rfl rfl ?_)
  refine XL.nil ?_
  refine X.condD (p := ((((a).length : Nat) : Int) : Int) ≠ (((b).length : Nat) : Int)) rfl (fun h1 => ?_) (fun h1 => ?_)
  · refine X.seq ?_
    refine X.region ?_
    refine XL.cons (XOp.assign (.bool (false)) rfl ?_)
    refine XL.nil ?_
    refine X.ret (thenQ_ret (retEnd (L' := L) [.bool (false)] (.bool (false)) (.tmp rfl .nil) rfl (FLe.refl _) (FLe.refl _) (Sub.refl _) ?_))
    exact ⟨(congrArg Value.bool (decide_eq_false (fun e => by rw [e] at h1; omega))), rfl, rfl⟩
  · refine X.skip ?_
    refine X.seq ?_
    refine X.seq ?_
    refine X.region ?_
    refine XL.cons (XOp.assign (.int .i64 (0)) rfl ?_)
    refine XL.nil ?_
    refine X.block ?_
    refine X.loop (α := Nat) (fun k => [(0, av), (1, bv), (5, .int .i64 (((k : Nat) : Int)))]) (fun k => L) (fun k F' => F = F' ∧ (k ≤ a.length) ∧ (∀ i, i < k → a.getD i ([] : List Int) = b.getD i ([] : List Int))) (fun k => a.length - k) 0 ⟨rfl, rfl, rfl, trivial⟩ (Sub.refl _) ⟨rfl, (by (try dsimp only) <;> omega), (fun i hi => absurd hi (by omega))⟩ ?_
    rintro k rE _ _ ⟨rfl, hk, hall⟩
    show X _ _ _ _ (envs [(0, av), (1, bv), (5, .int .i64 (((k : Nat) : Int)))] rE) _ (L)
    have hbk := hbd k
    refine X.seq ?_
    refine X.seq ?_
    refine X.region ?_
    refine XL.cons (XOp.move (.int .i64 (((k : Nat) : Int))) rfl ?_)
    refine XL.cons (XOp.move (av) rfl ?_)
    refine XL.cons (XOp.lenS (v := av) (n := (a).length) Tryz.runUnderlying31 rfl ha.slv ?_)
    refine XL.cons (XOp.lss (a := ((k : Nat) : Int)) (b := (((a).length : Nat) : Int)) rfl rfl ?_)
    refine XL.nil ?_
    refine X.condD (p := (((k : Nat) : Int) : Int) < (((a).length : Nat) : Int)) rfl (fun h2 => ?_) (fun h2 => ?_)
    · refine X.skip ?_
      refine X.seq ?_
      refine X.block ?_
      refine X.seq ?_
      obtain ⟨a1, ha1, hr1⟩ := ha.rd (i := k) (by omega)
      obtain ⟨a2, ha2, hr2⟩ := hb.rd (i := k) (by omega)
      refine X.draw [] L 8 [[], [], [], [], [], [], [], []] [[], [], [0, 1], [2], [], [], [4, 5], [6]] (phiL [fun us v => v = av, fun us v => v = (.int .i64 (((k : Nat) : Int)) : Value), fun us v => v = (.pointer (some (elemA av (k))) : Value), fun us v => v = a1, fun us v => v = bv, fun us v => v = (.int .i64 (((k : Nat) : Int)) : Value), fun us v => v = (.pointer (some (elemA bv (k))) : Value), fun us v => v = a2]) (ownL [fun us v => [], fun us v => [], fun us v => [], fun us v => [], fun us v => [], fun us v => [], fun us v => [], fun us v => []]) mixed rfl rfl (by kernel_rfl) ?_ ?_
      · refine stepsP.cons (fun vals R hpZ => ?_) ?_
        · refine XG.op (XOp.move (av) rfl ?_)
          exact ⟨rfl, rfl, rfl⟩
        refine stepsP.cons (fun vals R hpZ => ?_) ?_
        · refine XG.op (XOp.move (.int .i64 (((k : Nat) : Int))) rfl ?_)
          exact ⟨rfl, rfl, rfl⟩
        refine stepsP.cons (fun vals R hpZ => ?_) ?_
        · rw [(envs_of_sat (l := [(0, av), (1, (.int .i64 (((k : Nat) : Int)) : Value))]) ⟨hpZ 0 (by decide), hpZ 1 (by decide), trivial⟩).symm]
          refine XG.op (XOp.indexS (v := av) (i := ((k : Nat) : Int)) (n := (a).length) k Tryz.runUnderlying31 Tryz.sizeOf22 rfl rfl rfl ha.slv (by omega) (Nat.mul_one _) ?_)
          exact ⟨rfl, rfl, rfl⟩
        refine stepsP.cons (fun vals R hpZ => ?_) ?_
        · rw [(envs_of_sat (l := [(2, (.pointer (some (elemA av (k))) : Value))]) ⟨hpZ 2 (by decide), trivial⟩).symm]
          refine XG.op (XOp.load1 (v := a1) Tryz.isAgg22 rfl (hr1 _) ?_)
          exact ⟨rfl, rfl, rfl⟩
        refine stepsP.cons (fun vals R hpZ => ?_) ?_
        · refine XG.op (XOp.move (bv) rfl ?_)
          exact ⟨rfl, rfl, rfl⟩
        refine stepsP.cons (fun vals R hpZ => ?_) ?_
        · refine XG.op (XOp.move (.int .i64 (((k : Nat) : Int))) rfl ?_)
          exact ⟨rfl, rfl, rfl⟩
        refine stepsP.cons (fun vals R hpZ => ?_) ?_
        · rw [(envs_of_sat (l := [(4, bv), (5, (.int .i64 (((k : Nat) : Int)) : Value))]) ⟨hpZ 4 (by decide), hpZ 5 (by decide), trivial⟩).symm]
          refine XG.op (XOp.indexS (v := bv) (i := ((k : Nat) : Int)) (n := (b).length) k Tryz.runUnderlying31 Tryz.sizeOf22 rfl rfl rfl hb.slv (by omega) (Nat.mul_one _) ?_)
          exact ⟨rfl, rfl, rfl⟩
        refine stepsP.cons (fun vals R hpZ => ?_) ?_
        · rw [(envs_of_sat (l := [(6, (.pointer (some (elemA bv (k))) : Value))]) ⟨hpZ 6 (by decide), trivial⟩).symm]
          refine XG.op (XOp.load1 (v := a2) Tryz.isAgg22 rfl (hr2 _) ?_)
          exact ⟨rfl, rfl, rfl⟩
        exact stepsP.nil
      · intro vals hphi
        have e0 : vals 0 = av := hphi 0 (by decide)
        have e1 : vals 1 = (.int .i64 (((k : Nat) : Int)) : Value) := hphi 1 (by decide)
        have e2 : vals 2 = (.pointer (some (elemA av (k))) : Value) := hphi 2 (by decide)
        have e3 : vals 3 = a1 := hphi 3 (by decide)
        have e4 : vals 4 = bv := hphi 4 (by decide)
        have e5 : vals 5 = (.int .i64 (((k : Nat) : Int)) : Value) := hphi 5 (by decide)
        have e6 : vals 6 = (.pointer (some (elemA bv (k))) : Value) := hphi 6 (by decide)
        have e7 : vals 7 = a2 := hphi 7 (by decide)
        rw [(envs_of_sat (l := [(0, av), (1, (.int .i64 (((k : Nat) : Int)) : Value)), (2, (.pointer (some (elemA av (k))) : Value)), (3, a1), (4, bv), (5, (.int .i64 (((k : Nat) : Int)) : Value)), (6, (.pointer (some (elemA bv (k))) : Value)), (7, a2)]) ⟨e0, e1, e2, e3, e4, e5, e6, e7, trivial⟩).symm]
        show XL _ _ _ _ _ _ _ (L)
        refine XL.cons (XOp.call (args := [a1, a2]) Tryz.call49 rfl (eqInt64S_spec ha1 ha2 (hbd := (.inl (hbk (by omega))))) ?_)
        rintro _ _ _ _ ⟨rfl, rfl, rfl⟩
        refine XL.cons (XOp.notD (p := ((a.getD k [])) = ((b.getD k []))) rfl ?_)
        refine XL.nil ?_
        refine X.condD (p := ¬(((a.getD k [])) = ((b.getD k [])))) rfl (fun h3 => ?_) (fun h3 => ?_)
        · refine X.seq ?_
          refine X.region ?_
          refine XL.cons (XOp.assign (.bool (false)) rfl ?_)
          refine XL.nil ?_
          refine X.ret (blockQ_ret (thenQ_ret (thenQ_ret (blockQ_ret (thenQ_ret (retEnd (L' := L) [.bool (false)] (.bool (false)) (.tmp rfl .nil) rfl (FLe.refl _) (FLe.refl _) (Sub.refl _) ?_))))))
          exact ⟨(congrArg Value.bool (decide_eq_false (fun e => by subst e; simp at *))), rfl, rfl⟩
        · refine X.skip ?_
          refine X.region ?_
          refine XL.cons (XOp.move (.int .i64 (((k : Nat) : Int))) rfl ?_)
          refine XL.cons (XOp.addR (a := ((k : Nat) : Int)) (b := 1) (((k + 1 : Nat) : Int)) rfl rfl (by omega) (by omega) ?_)
          refine XL.cons (XOp.assign (.int .i64 (((k + 1 : Nat) : Int))) rfl ?_)
          refine XL.nil ?_
          exact ⟨k + 1, _, FLe.refl _, (FLe.refl _), ⟨rfl, rfl, rfl, trivial⟩, (Sub.refl _), ⟨rfl, (by (try dsimp only) <;> omega), (fun i hi => (Nat.lt_or_ge i k).elim (fun h => hall i h) (fun h => by obtain rfl : i = k := (by omega); first | assumption | exact Classical.not_not.1 (by assumption)))⟩, (by omega)⟩
    · refine X.exit (thenQ_exit (thenQ_exit (blockQ_exit ?_)))
      refine X.seq ?_
      refine X.region ?_
      refine XL.cons (XOp.assign (.bool (true)) rfl ?_)
      refine XL.nil ?_
      refine X.ret (retEnd (L' := L) [.bool (true)] (.bool (true)) (.tmp rfl .nil) rfl (FLe.refl _) (FLe.refl _) (Sub.refl _) ?_)
      exact ⟨(congrArg Value.bool (decide_eq_true (ext_any ([] : List Int) (by omega) (fun i hi => hall i (by omega))))), rfl, rfl⟩

/- laws.eqWalk -/
theorem eqWalk_spec {F : FH} {L : List HP} {fv : Value} {f : List Int} (hf : IntsF F fv f) {av : Value} {a : List StepT} (ha : StepsF F av a) {gv : Value} {g : List Int} (hg : IntsF F gv g) {bv : Value} {b : List StepT} (hb : StepsF F bv b) (hfl : f.length ≤ 9223372036854775807) (hal : a.length ≤ 9223372036854775807) (hbd : ∀ i, i < a.length → (a.getD i (0, 0, [])).2.2.length ≤ 9223372036854775807) :
    Does Tryz.prog 13 [.agg #[fv, av], .agg #[gv, bv]] F (L) (fun v F' L' => (.bool (decide (f = g ∧ a = b)) : Value) = v ∧ F = F' ∧ L = L') := by
  refine Does.of_X Tryz.func13 rfl rfl rfl ?_
  refine X.seq ?_
  refine X.region ?_
  refine XL.cons (XOp.box [fv, av] rfl rfl ?_)
  intro b1
  refine XL.cons (XOp.box [gv, bv] rfl rfl ?_)
  intro b2
  refine XL.cons (XOp.assign (.bool (false)) rfl ?_)
  refine XL.nil ?_
  refine X.seq ?_
  refine X.seq ?_
  refine X.region ?_
  refine XL.cons (XOp.fieldP (b := b1) (0) Tryz.runUnderlying39 rfl Tryz.sizeOf22 (by decide) rfl rfl ?_)
  refine XL.cons (XOp.load1 (v := fv) Tryz.isAgg22 rfl (Rd.own [_] rfl rfl) ?_)
  refine XL.cons (XOp.fieldP (b := b2) (0) Tryz.runUnderlying39 rfl Tryz.sizeOf22 (by decide) rfl rfl ?_)
  refine XL.cons (XOp.load1 (v := gv) Tryz.isAgg22 rfl (Rd.own [] rfl rfl) ?_)
  refine XL.cons (XOp.call (args := [fv, gv]) Tryz.call49 rfl (eqInt64S_spec hf hg (hbd := (.inl hfl))) ?_)
  rintro _ _ _ _ ⟨rfl, rfl, rfl⟩
  refine XL.cons (XOp.notD (p := f = g) rfl ?_)
  refine XL.nil ?_
  refine X.condD (p := ¬(f = g)) rfl (fun h1 => ?_) (fun h1 => ?_)
  · refine X.seq ?_
    refine X.region ?_
    refine XL.cons (XOp.assign (.bool (false)) rfl ?_)
    refine XL.nil ?_
    refine X.ret (thenQ_ret (retEnd (L' := L) [.bool (false)] (.bool (false)) (.tmp rfl .nil) rfl (FLe.refl _) (FLe.refl _) (Sub.drop (Sub.drop (Sub.refl _))) ?_))
    exact ⟨(congrArg Value.bool (decide_eq_false (by intro e; simp_all))), rfl, rfl⟩
  · refine X.skip ?_
    refine X.seq ?_
    refine X.seq ?_
    refine X.region ?_
    refine XL.cons (XOp.fieldP (b := b1) (1) Tryz.runUnderlying39 rfl Tryz.sizeOf37 (by decide) rfl rfl ?_)
    refine XL.cons (XOp.load1 (v := av) Tryz.isAgg37 rfl (Rd.own [_] rfl rfl) ?_)
    refine XL.cons (XOp.fieldP (b := b2) (1) Tryz.runUnderlying39 rfl Tryz.sizeOf37 (by decide) rfl rfl ?_)
    refine XL.cons (XOp.load1 (v := bv) Tryz.isAgg37 rfl (Rd.own [] rfl rfl) ?_)
    refine XL.cons (XOp.call (args := [av, bv]) Tryz.call50 rfl (eqStepS_spec ha hb (hal := (by first | assumption | rfl | omega | (left; simp; done) | (right; simp; done))) (hbd := (by first | assumption | rfl | omega | (left; simp; done) | (right; simp; done)))) ?_)
    rintro _ _ _ _ ⟨rfl, rfl, rfl⟩
    refine XL.cons (XOp.notD (p := a = b) rfl ?_)
    refine XL.nil ?_
    refine X.condD (p := ¬(a = b)) rfl (fun h2 => ?_) (fun h2 => ?_)
    · refine X.seq ?_
      refine X.region ?_
      refine XL.cons (XOp.assign (.bool (false)) rfl ?_)
      refine XL.nil ?_
      refine X.ret (thenQ_ret (retEnd (L' := L) [.bool (false)] (.bool (false)) (.tmp rfl .nil) rfl (FLe.refl _) (FLe.refl _) (Sub.drop (Sub.drop (Sub.refl _))) ?_))
      exact ⟨(congrArg Value.bool (decide_eq_false (by intro e; simp_all))), rfl, rfl⟩
    · refine X.skip ?_
      refine X.seq ?_
      refine X.region ?_
      refine XL.cons (XOp.assign (.bool (true)) rfl ?_)
      refine XL.nil ?_
      refine X.ret (retEnd (L' := L) [.bool (true)] (.bool (true)) (.tmp rfl .nil) rfl (FLe.refl _) (FLe.refl _) (Sub.drop (Sub.drop (Sub.refl _))) ?_)
      exact ⟨(congrArg Value.bool (decide_eq_true (by simp_all))), rfl, rfl⟩

/- laws.eqSubst -/
theorem eqSubst_spec {F : FH} {L : List HP} {av : Value} {a : List (List Int)} (ha : RowsF F av a) {bv : Value} {b : List (List Int)} (hb : RowsF F bv b) (hal : a.length ≤ 9223372036854775807) (hbd : ∀ i, i < a.length → (a.getD i []).length ≤ 9223372036854775807) :
    Does Tryz.prog 15 [.agg #[av], .agg #[bv]] F (L) (fun v F' L' => (.bool (decide (a = b)) : Value) = v ∧ F = F' ∧ L = L') := by
  refine Does.of_X Tryz.func15 rfl rfl rfl ?_
  refine X.seq ?_
  refine X.region ?_
  refine XL.cons (XOp.box [av] rfl rfl ?_)
  intro b1
  refine XL.cons (XOp.box [bv] rfl rfl ?_)
  intro b2
  refine XL.cons (XOp.assign (.bool (false)) rfl ?_)
  refine XL.nil ?_
  refine X.seq ?_
  refine X.seq ?_
  refine X.region ?_
  refine XL.cons (XOp.fieldP (b := b1) (0) Tryz.runUnderlying48 rfl Tryz.sizeOf31 (by decide) rfl rfl ?_)
  refine XL.cons (XOp.load1 (v := av) Tryz.isAgg31 rfl (Rd.own [_] rfl rfl) ?_)
  refine XL.cons (XOp.fieldP (b := b2) (0) Tryz.runUnderlying48 rfl Tryz.sizeOf31 (by decide) rfl rfl ?_)
  refine XL.cons (XOp.load1 (v := bv) Tryz.isAgg31 rfl (Rd.own [] rfl rfl) ?_)
  refine XL.cons (XOp.call (args := [av, bv]) Tryz.call53 rfl (eqInt64SS_spec ha hb (hal := (by first | assumption | rfl | omega | (left; simp; done) | (right; simp; done))) (hbd := (by first | assumption | rfl | omega | (left; simp; done) | (right; simp; done)))) ?_)
  rintro _ _ _ _ ⟨rfl, rfl, rfl⟩
  refine XL.cons (XOp.notD (p := a = b) rfl ?_)
  refine XL.nil ?_
  refine X.condD (p := ¬(a = b)) rfl (fun h1 => ?_) (fun h1 => ?_)
  · refine X.seq ?_
    refine X.region ?_
    refine XL.cons (XOp.assign (.bool (false)) rfl ?_)
    refine XL.nil ?_
    refine X.ret (thenQ_ret (retEnd (L' := L) [.bool (false)] (.bool (false)) (.tmp rfl .nil) rfl (FLe.refl _) (FLe.refl _) (Sub.drop (Sub.drop (Sub.refl _))) ?_))
    exact ⟨(congrArg Value.bool (decide_eq_false (by assumption))), rfl, rfl⟩
  · refine X.skip ?_
    refine X.seq ?_
    refine X.region ?_
    refine XL.cons (XOp.assign (.bool (true)) rfl ?_)
    refine XL.nil ?_
    refine X.ret (retEnd (L' := L) [.bool (true)] (.bool (true)) (.tmp rfl .nil) rfl (FLe.refl _) (FLe.refl _) (Sub.drop (Sub.drop (Sub.refl _))) ?_)
    exact ⟨(congrArg Value.bool (decide_eq_true (by first | assumption | exact Classical.not_not.1 (by assumption)))), rfl, rfl⟩

/- laws.heldStepS -/
theorem heldStepS_spec {F : FH} {L : List HP} {xv : Value} {x : List StepT} (hx : StepsF F xv x) {z : Int} (hzb : 0 ≤ z ∧ z + ((x.flatMap flatStep).length : Int) ≤ 9000000000) (hxl : x.length ≤ 4000000) :
    Does Tryz.prog 60 [xv, .int .i64 (z)] F (L) (fun v F' L' => (.int .i64 (heldF (x.flatMap flatStep) z) : Value) = v ∧ F = F' ∧ L = L') := by
  refine Does.of_X Tryz.func60 rfl rfl rfl ?_
  refine X.seq ?_
  refine X.region ?_
  refine XL.cons (XOp.assign (.int .i64 (0)) rfl ?_)
  refine XL.nil ?_
  refine X.seq ?_
  refine X.seq ?_
  refine X.region ?_
  refine XL.cons (XOp.assign (.int .i64 (0)) rfl ?_)
  refine XL.nil ?_
  refine X.block ?_
  refine X.loop (α := Nat) (fun k => [(0, xv), (1, .int .i64 (heldF ((x.take k).flatMap flatStep) z)), (5, .int .i64 (((k : Nat) : Int)))]) (fun k => L) (fun k F' => F = F' ∧ (k ≤ x.length) ∧ (0 ≤ heldF ((x.take k).flatMap flatStep) z)) (fun k => x.length - k) 0 ⟨rfl, (show Value.int .i64 z = .int .i64 (heldF ((x.take 0).flatMap flatStep) z) from congrArg (Value.int .i64) (by simp [heldF_nil])), rfl, trivial⟩ (Sub.refl _) ⟨rfl, (by (try dsimp only) <;> omega), (by simp [heldF_nil]; omega)⟩ ?_
  rintro k rE _ _ ⟨rfl, hk, hnn⟩
  show X _ _ _ _ (envs [(0, xv), (1, .int .i64 (heldF ((x.take k).flatMap flatStep) z)), (5, .int .i64 (((k : Nat) : Int)))] rE) _ (L)
  have hhp := heldF_pos (a := (x.take k).flatMap flatStep) (k := z) (by omega)
  have htl := fun (h : k < x.length) => flat_take_le (f := flatStep) (l := x) ((0 : Int), (0 : Int), ([] : List Int)) h
  have hnx := fun (h : k < x.length) => held_next (f := flatStep) (l := x) (k := k) ((0 : Int), (0 : Int), ([] : List Int)) hzb.1 h (by omega)
  have hsx : k < x.length → (flatStep (x.getD k (0, 0, []))).length = (x.getD k (0, 0, [])).2.2.length + 1 + 1 := fun _ => rfl
  have hun : k < x.length → heldF (flatStep (x.getD k (0, 0, []))) (heldF ((x.take k).flatMap flatStep) z) = (if (x.getD k (0, 0, [])).1 = heldF ((x.take k).flatMap flatStep) z then (if (x.getD k (0, 0, [])).2.1 = heldF ((x.take k).flatMap flatStep) z + 1 then heldF (x.getD k (0, 0, [])).2.2 (heldF ((x.take k).flatMap flatStep) z + 1 + 1) else -1) else -1) := fun _ => by rw [show flatStep (x.getD k (0, 0, [])) = (x.getD k (0, 0, [])).1 :: (x.getD k (0, 0, [])).2.1 :: (x.getD k (0, 0, [])).2.2 from rfl, heldF_cons hnn, heldF_cons (by omega)]
  refine X.seq ?_
  refine X.seq ?_
  refine X.region ?_
  refine XL.cons (XOp.move (.int .i64 (((k : Nat) : Int))) rfl ?_)
  refine XL.cons (XOp.move (xv) rfl ?_)
  refine XL.cons (XOp.lenS (v := xv) (n := (x).length) Tryz.runUnderlying37 rfl hx.slv ?_)
  refine XL.cons (XOp.lss (a := ((k : Nat) : Int)) (b := (((x).length : Nat) : Int)) rfl rfl ?_)
  refine XL.nil ?_
  refine X.condD (p := (((k : Nat) : Int) : Int) < (((x).length : Nat) : Int)) rfl (fun h1 => ?_) (fun h1 => ?_)
  · refine X.skip ?_
    refine X.seq ?_
    refine X.block ?_
    refine X.seq ?_
    refine X.seq ?_
    refine X.region ?_
    refine XL.cons (XOp.move (xv) rfl ?_)
    refine XL.cons (XOp.move (.int .i64 (((k : Nat) : Int))) rfl ?_)
    refine XL.cons (XOp.indexS (v := xv) (i := ((k : Nat) : Int)) (n := (x).length) k Tryz.runUnderlying37 Tryz.sizeOf78 rfl rfl rfl hx.slv (by omega) rfl ?_)
    refine XL.cons (XOp.fieldE (v := xv) (k * 3) Tryz.runUnderlying78 rfl Tryz.sizeOf2 (by decide) rfl rfl ?_)
    obtain ⟨a1, ha1, hr1, hr2, hr3⟩ := hx.rd (i := k) (by omega)
    refine XL.cons (XOp.load1 (v := .int .i64 ((x.getD k (0, 0, [])).1)) Tryz.isAgg2 rfl (hr1 _) ?_)
    refine XL.cons (XOp.move (.int .i64 (heldF ((x.take k).flatMap flatStep) z)) rfl ?_)
    refine XL.cons (XOp.neq (a := (x.getD k (0, 0, [])).1) (b := heldF ((x.take k).flatMap flatStep) z) rfl rfl ?_)
    refine XL.nil ?_
    refine X.condD (p := ((x.getD k (0, 0, [])).1 : Int) ≠ heldF ((x.take k).flatMap flatStep) z) rfl (fun h2 => ?_) (fun h2 => ?_)
    · refine X.seq ?_
      refine X.region ?_
      refine XL.cons (XOp.assign (.int .i64 (-1)) rfl ?_)
      refine XL.nil ?_
      refine X.ret (thenQ_ret (blockQ_ret (thenQ_ret (thenQ_ret (blockQ_ret (thenQ_ret (retEnd (L' := L) [.int .i64 (-1)] (.int .i64 (-1)) (.tmp rfl .nil) rfl (FLe.refl _) (FLe.refl _) (Sub.refl _) ?_)))))))
      exact ⟨(congrArg (Value.int .i64) (by exact held_fail (k := k) ((0 : Int), (0 : Int), ([] : List Int)) hzb.1 (by omega) (by rw [hnx (by omega), hun (by omega), if_neg (by assumption)]; omega))), rfl, rfl⟩
    · refine X.skip ?_
      refine X.seq ?_
      refine X.region ?_
      refine XL.cons (XOp.move (.int .i64 (heldF ((x.take k).flatMap flatStep) z)) rfl ?_)
      refine XL.cons (XOp.addR (a := heldF ((x.take k).flatMap flatStep) z) (b := 1) ((heldF ((x.take k).flatMap flatStep) z) + 1) rfl rfl (by omega) (by omega) ?_)
      refine XL.cons (XOp.assign (.int .i64 ((heldF ((x.take k).flatMap flatStep) z) + 1)) rfl ?_)
      refine XL.nil ?_
      refine X.seq ?_
      refine X.seq ?_
      refine X.region ?_
      refine XL.cons (XOp.move (xv) rfl ?_)
      refine XL.cons (XOp.move (.int .i64 (((k : Nat) : Int))) rfl ?_)
      refine XL.cons (XOp.indexS (v := xv) (i := ((k : Nat) : Int)) (n := (x).length) k Tryz.runUnderlying37 Tryz.sizeOf78 rfl rfl rfl hx.slv (by omega) rfl ?_)
      refine XL.cons (XOp.fieldE (v := xv) (k * 3 + 1) Tryz.runUnderlying78 rfl Tryz.sizeOf2 (by decide) rfl rfl ?_)
      refine XL.cons (XOp.load1 (v := .int .i64 ((x.getD k (0, 0, [])).2.1)) Tryz.isAgg2 rfl (hr2 _) ?_)
      refine XL.cons (XOp.move (.int .i64 ((heldF ((x.take k).flatMap flatStep) z) + 1)) rfl ?_)
      refine XL.cons (XOp.neq (a := (x.getD k (0, 0, [])).2.1) (b := (heldF ((x.take k).flatMap flatStep) z) + 1) rfl rfl ?_)
      refine XL.nil ?_
      refine X.condD (p := ((x.getD k (0, 0, [])).2.1 : Int) ≠ (heldF ((x.take k).flatMap flatStep) z) + 1) rfl (fun h3 => ?_) (fun h3 => ?_)
      · refine X.seq ?_
        refine X.region ?_
        refine XL.cons (XOp.assign (.int .i64 (-1)) rfl ?_)
        refine XL.nil ?_
        refine X.ret (thenQ_ret (blockQ_ret (thenQ_ret (thenQ_ret (blockQ_ret (thenQ_ret (retEnd (L' := L) [.int .i64 (-1)] (.int .i64 (-1)) (.tmp rfl .nil) rfl (FLe.refl _) (FLe.refl _) (Sub.refl _) ?_)))))))
        exact ⟨(congrArg (Value.int .i64) (by exact held_fail (k := k) ((0 : Int), (0 : Int), ([] : List Int)) hzb.1 (by omega) (by rw [hnx (by omega), hun (by omega), if_pos (by first | assumption | exact Classical.not_not.1 (by assumption)), if_neg (by assumption)]; omega))), rfl, rfl⟩
      · refine X.skip ?_
        refine X.seq ?_
        refine X.region ?_
        refine XL.cons (XOp.move (.int .i64 ((heldF ((x.take k).flatMap flatStep) z) + 1)) rfl ?_)
        refine XL.cons (XOp.addR (a := (heldF ((x.take k).flatMap flatStep) z) + 1) (b := 1) (((heldF ((x.take k).flatMap flatStep) z) + 1) + 1) rfl rfl (by omega) (by omega) ?_)
        refine XL.cons (XOp.assign (.int .i64 (((heldF ((x.take k).flatMap flatStep) z) + 1) + 1)) rfl ?_)
        refine XL.nil ?_
        refine X.seq ?_
        refine X.region ?_
        refine XL.cons (XOp.move (xv) rfl ?_)
        refine XL.cons (XOp.move (.int .i64 (((k : Nat) : Int))) rfl ?_)
        refine XL.cons (XOp.indexS (v := xv) (i := ((k : Nat) : Int)) (n := (x).length) k Tryz.runUnderlying37 Tryz.sizeOf78 rfl rfl rfl hx.slv (by omega) rfl ?_)
        refine XL.cons (XOp.fieldE (v := xv) (k * 3 + 2) Tryz.runUnderlying78 rfl Tryz.sizeOf22 (by decide) rfl rfl ?_)
        refine XL.cons (XOp.load1 (v := a1) Tryz.isAgg22 rfl (hr3 _) ?_)
        refine XL.cons (XOp.move (.int .i64 (((heldF ((x.take k).flatMap flatStep) z) + 1) + 1)) rfl ?_)
        refine XL.cons (XOp.call (args := [a1, .int .i64 (((heldF ((x.take k).flatMap flatStep) z) + 1) + 1)]) Tryz.call59 rfl (heldInt64S_spec (z := ((heldF ((x.take k).flatMap flatStep) z) + 1) + 1) ha1 (hzb := (by first | assumption | rfl | omega | (left; simp; done) | (right; simp; done)))) ?_)
        rintro _ _ _ _ ⟨rfl, rfl, rfl⟩
        refine XL.cons (XOp.assign (.int .i64 (heldF ((x.getD k (0, 0, [])).2.2) (((heldF ((x.take k).flatMap flatStep) z) + 1) + 1))) rfl ?_)
        refine XL.nil ?_
        refine X.seq ?_
        refine X.region ?_
        refine XL.cons (XOp.move (.int .i64 (heldF ((x.getD k (0, 0, [])).2.2) (((heldF ((x.take k).flatMap flatStep) z) + 1) + 1))) rfl ?_)
        refine XL.cons (XOp.lss (a := heldF ((x.getD k (0, 0, [])).2.2) (((heldF ((x.take k).flatMap flatStep) z) + 1) + 1)) (b := 0) rfl rfl ?_)
        refine XL.nil ?_
        refine X.condD (p := (heldF ((x.getD k (0, 0, [])).2.2) (((heldF ((x.take k).flatMap flatStep) z) + 1) + 1) : Int) < 0) rfl (fun h4 => ?_) (fun h4 => ?_)
        · refine X.seq ?_
          refine X.region ?_
          refine XL.cons (XOp.assign (.int .i64 (-1)) rfl ?_)
          refine XL.nil ?_
          refine X.ret (blockQ_ret (thenQ_ret (thenQ_ret (blockQ_ret (thenQ_ret (retEnd (L' := L) [.int .i64 (-1)] (.int .i64 (-1)) (.tmp rfl .nil) rfl (FLe.refl _) (FLe.refl _) (Sub.refl _) ?_))))))
          exact ⟨(congrArg (Value.int .i64) (by exact held_fail (k := k) ((0 : Int), (0 : Int), ([] : List Int)) hzb.1 (by omega) (by rw [hnx (by omega), hun (by omega), if_pos (by first | assumption | exact Classical.not_not.1 (by assumption)), if_pos (by first | assumption | exact Classical.not_not.1 (by assumption))]; omega))), rfl, rfl⟩
        · refine X.skip ?_
          refine X.region ?_
          refine XL.cons (XOp.move (.int .i64 (((k : Nat) : Int))) rfl ?_)
          refine XL.cons (XOp.addR (a := ((k : Nat) : Int)) (b := 1) (((k + 1 : Nat) : Int)) rfl rfl (by omega) (by omega) ?_)
          refine XL.cons (XOp.assign (.int .i64 (((k + 1 : Nat) : Int))) rfl ?_)
          refine XL.nil ?_
          exact ⟨k + 1, _, FLe.refl _, (FLe.refl _), ⟨rfl, (congrArg (Value.int .i64) (by rw [hnx (by omega), hun (by omega), if_pos (by first | assumption | exact Classical.not_not.1 (by assumption)), if_pos (by first | assumption | exact Classical.not_not.1 (by assumption))])), rfl, trivial⟩, (Sub.refl _), ⟨rfl, (by (try dsimp only) <;> omega), (by (try dsimp only); rw [hnx (by omega), hun (by omega), if_pos (by first | assumption | exact Classical.not_not.1 (by assumption)), if_pos (by first | assumption | exact Classical.not_not.1 (by assumption))]; omega)⟩, (by omega)⟩
  · refine X.exit (thenQ_exit (thenQ_exit (blockQ_exit ?_)))
    refine X.seq ?_
    refine X.region ?_
    refine XL.cons (XOp.move (.int .i64 (heldF ((x.take k).flatMap flatStep) z)) rfl ?_)
    refine XL.cons (XOp.assign (.int .i64 (heldF ((x.take k).flatMap flatStep) z)) rfl ?_)
    refine XL.nil ?_
    refine X.ret (retEnd (L' := L) [.int .i64 (heldF ((x.take k).flatMap flatStep) z)] (.int .i64 (heldF ((x.take k).flatMap flatStep) z)) (.tmp rfl .nil) rfl (FLe.refl _) (FLe.refl _) (Sub.refl _) ?_)
    exact ⟨(congrArg (Value.int .i64) (by rw [List.take_of_length_le (by omega)])), rfl, rfl⟩

/- laws.heldWalk -/
theorem heldWalk_spec {F : FH} {L : List HP} {fv : Value} {f : List Int} (hf : IntsF F fv f) {xv : Value} {x : List StepT} (hx : StepsF F xv x) {z : Int} (hzb : 0 ≤ z ∧ z + ((f.length + (x.flatMap flatStep).length : Nat) : Int) ≤ 9000000000) (hxl : x.length ≤ 4000000) :
    Does Tryz.prog 19 [.agg #[fv, xv], .int .i64 (z)] F (L) (fun v F' L' => (.int .i64 (heldF (f ++ x.flatMap flatStep) z) : Value) = v ∧ F = F' ∧ L = L') := by
  refine Does.of_X Tryz.func19 rfl rfl rfl ?_
  have hh1 := heldF_range (xs := f) hzb.1
  refine X.seq ?_
  refine X.region ?_
  refine XL.cons (XOp.box [fv, xv] rfl rfl ?_)
  intro b1
  refine XL.cons (XOp.assign (.int .i64 (0)) rfl ?_)
  refine XL.nil ?_
  refine X.seq ?_
  refine X.region ?_
  refine XL.cons (XOp.fieldP (b := b1) (0) Tryz.runUnderlying39 rfl Tryz.sizeOf22 (by decide) rfl rfl ?_)
  refine XL.cons (XOp.load1 (v := fv) Tryz.isAgg22 rfl (Rd.own [] rfl rfl) ?_)
  refine XL.cons (XOp.move (.int .i64 (z)) rfl ?_)
  refine XL.cons (XOp.call (args := [fv, .int .i64 (z)]) Tryz.call59 rfl (heldInt64S_spec (z := z) hf (hzb := (by first | assumption | rfl | omega | (left; simp; done) | (right; simp; done)))) ?_)
  rintro _ _ _ _ ⟨rfl, rfl, rfl⟩
  refine XL.cons (XOp.assign (.int .i64 (heldF f z)) rfl ?_)
  refine XL.nil ?_
  refine X.seq ?_
  refine X.seq ?_
  refine X.region ?_
  refine XL.cons (XOp.move (.int .i64 (heldF f z)) rfl ?_)
  refine XL.cons (XOp.lss (a := heldF f z) (b := 0) rfl rfl ?_)
  refine XL.nil ?_
  refine X.condD (p := (heldF f z : Int) < 0) rfl (fun h1 => ?_) (fun h1 => ?_)
  · refine X.seq ?_
    refine X.region ?_
    refine XL.cons (XOp.assign (.int .i64 (-1)) rfl ?_)
    refine XL.nil ?_
    refine X.ret (thenQ_ret (retEnd (L' := L) [.int .i64 (-1)] (.int .i64 (-1)) (.tmp rfl .nil) rfl (FLe.refl _) (FLe.refl _) (Sub.drop (Sub.refl _)) ?_))
    exact ⟨(congrArg (Value.int .i64) (by rw [heldF_append hzb.1, if_pos (by omega)])), rfl, rfl⟩
  · refine X.skip ?_
    refine X.seq ?_
    refine X.region ?_
    refine XL.cons (XOp.fieldP (b := b1) (1) Tryz.runUnderlying39 rfl Tryz.sizeOf37 (by decide) rfl rfl ?_)
    refine XL.cons (XOp.load1 (v := xv) Tryz.isAgg37 rfl (Rd.own [] rfl rfl) ?_)
    refine XL.cons (XOp.move (.int .i64 (heldF f z)) rfl ?_)
    refine XL.cons (XOp.call (args := [xv, .int .i64 (heldF f z)]) Tryz.call60 rfl (heldStepS_spec (z := heldF f z) hx (hzb := (by first | assumption | rfl | omega | (left; simp; done) | (right; simp; done))) (hxl := (by first | assumption | rfl | omega | (left; simp; done) | (right; simp; done)))) ?_)
    rintro _ _ _ _ ⟨rfl, rfl, rfl⟩
    refine XL.cons (XOp.assign (.int .i64 (heldF (x.flatMap flatStep) (heldF f z))) rfl ?_)
    refine XL.nil ?_
    refine X.seq ?_
    refine X.seq ?_
    refine X.region ?_
    refine XL.cons (XOp.move (.int .i64 (heldF (x.flatMap flatStep) (heldF f z))) rfl ?_)
    refine XL.cons (XOp.lss (a := heldF (x.flatMap flatStep) (heldF f z)) (b := 0) rfl rfl ?_)
    refine XL.nil ?_
    refine X.condD (p := (heldF (x.flatMap flatStep) (heldF f z) : Int) < 0) rfl (fun h2 => ?_) (fun h2 => ?_)
    · refine X.seq ?_
      refine X.region ?_
      refine XL.cons (XOp.assign (.int .i64 (-1)) rfl ?_)
      refine XL.nil ?_
      refine X.ret (thenQ_ret (retEnd (L' := L) [.int .i64 (-1)] (.int .i64 (-1)) (.tmp rfl .nil) rfl (FLe.refl _) (FLe.refl _) (Sub.drop (Sub.refl _)) ?_))
      exact ⟨(congrArg (Value.int .i64) (by rw [heldF_append hzb.1, if_neg (by omega)]; have := (heldF_range (xs := x.flatMap flatStep) (k := heldF f z) (by omega)).1; omega)), rfl, rfl⟩
    · refine X.skip ?_
      refine X.seq ?_
      refine X.region ?_
      refine XL.cons (XOp.move (.int .i64 (heldF (x.flatMap flatStep) (heldF f z))) rfl ?_)
      refine XL.cons (XOp.assign (.int .i64 (heldF (x.flatMap flatStep) (heldF f z))) rfl ?_)
      refine XL.nil ?_
      refine X.ret (retEnd (L' := L) [.int .i64 (heldF (x.flatMap flatStep) (heldF f z))] (.int .i64 (heldF (x.flatMap flatStep) (heldF f z))) (.tmp rfl .nil) rfl (FLe.refl _) (FLe.refl _) (Sub.drop (Sub.refl _)) ?_)
      exact ⟨(congrArg (Value.int .i64) (by rw [heldF_append hzb.1, if_neg (by omega)])), rfl, rfl⟩

/- impl.stepArgs -/
theorem stepArgs_spec {F : FH} {L : List HP} {arv : Value} {ar : List Int} (har : IntsF F arv ar) {rsv : Value} {rs : List (List Int × List Int)} (hrs : PairsF F rsv rs) {tv : Value} {t : List Int} (ht : IntsF F tv t) {p : Int} {r : Int} :
    Does Tryz.prog 132 [.agg #[arv, rsv], tv, .int .i64 (p), .int .i64 (r)] F (L) (fun v F' L' => (.bool (stepAtOk ar rs t p r) : Value) = v ∧ F = F' ∧ L = L') := by
  refine Does.of_X Tryz.func132 rfl rfl rfl ?_
  refine X.seq ?_
  refine X.region ?_
  refine XL.cons (XOp.box [arv, rsv] rfl rfl ?_)
  intro b1
  refine XL.cons (XOp.assign (.bool (false)) rfl ?_)
  refine XL.nil ?_
  refine X.seq ?_
  refine X.region ?_
  refine XL.cons (XOp.loadN [arv, rsv] Tryz.isAgg45 Tryz.sizeOf45 rfl rfl (Rd.ownN [] rfl rfl) ?_)
  refine XL.cons (XOp.call (args := [.agg #[arv, rsv]]) Tryz.call72 rfl (SystemOk_spec har hrs) ?_)
  rintro _ _ _ _ ⟨rfl, rfl, rfl⟩
  refine XL.cons (XOp.move (.bool (sysOk ar rs)) rfl ?_)
  by_cases h1 : (sysOk ar rs) = true
  · refine XL.yes (t := 11) rfl (congrArg Value.bool h1) (XOp.fieldP (b := b1) (0) Tryz.runUnderlying45 rfl Tryz.sizeOf42 (by decide) rfl rfl ?_)
    refine XL.yes (t := 11) rfl (congrArg Value.bool h1) (XOp.loadN [arv] Tryz.isAgg42 Tryz.sizeOf42 rfl rfl (Rd.ownN [] rfl rfl) ?_)
    refine XL.yes (t := 11) rfl (congrArg Value.bool h1) (XOp.move (tv) rfl ?_)
    refine XL.yes (t := 11) rfl (congrArg Value.bool h1) (XOp.move (.int .i64 (p)) rfl ?_)
    refine XL.yes (t := 11) rfl (congrArg Value.bool h1) (XOp.call (args := [.agg #[arv], tv, .int .i64 (p)]) Tryz.call151 rfl (posOk_spec (n := p) har ht) ?_)
    rintro _ _ _ _ ⟨rfl, rfl, rfl⟩
    refine XL.cons (XOp.pickT (.bool (posOk ar t p)) (congrArg Value.bool h1) rfl ?_)
    refine XL.cons (XOp.move (.bool (posOk ar t p)) rfl ?_)
    by_cases h2 : (posOk ar t p) = true
    · refine XL.yes (t := 18) rfl (congrArg Value.bool h2) (XOp.move (.int .i64 (r)) rfl ?_)
      refine XL.yes (t := 18) rfl (congrArg Value.bool h2) (XOp.geq (a := r) (b := 0) rfl rfl ?_)
      refine XL.cons (XOp.pickT (.bool (decide ((r : Int) ≥ 0))) (congrArg Value.bool h2) rfl ?_)
      refine XL.cons (XOp.move (.bool (decide ((r : Int) ≥ 0))) rfl ?_)
      by_cases h3 : (r : Int) ≥ 0
      · refine XL.yes (t := 22) rfl (congrArg Value.bool (decide_eq_true h3)) (XOp.move (.int .i64 (r)) rfl ?_)
        refine XL.yes (t := 22) rfl (congrArg Value.bool (decide_eq_true h3)) (XOp.fieldP (b := b1) (1) Tryz.runUnderlying45 rfl Tryz.sizeOf43 (by decide) rfl rfl ?_)
        refine XL.yes (t := 22) rfl (congrArg Value.bool (decide_eq_true h3)) (XOp.load1 (v := rsv) Tryz.isAgg43 rfl (Rd.own [] rfl rfl) ?_)
        refine XL.yes (t := 22) rfl (congrArg Value.bool (decide_eq_true h3)) (XOp.lenS (v := rsv) (n := (rs).length) Tryz.runUnderlying43 rfl hrs.slv ?_)
        refine XL.yes (t := 22) rfl (congrArg Value.bool (decide_eq_true h3)) (XOp.lss (a := r) (b := (((rs).length : Nat) : Int)) rfl rfl ?_)
        refine XL.cons (XOp.pickT (.bool (decide ((r : Int) < (((rs).length : Nat) : Int)))) (congrArg Value.bool (decide_eq_true h3)) rfl ?_)
        refine XL.cons (XOp.assign (.bool (decide ((r : Int) < (((rs).length : Nat) : Int)))) rfl ?_)
        refine XL.nil ?_
        refine X.ret (retEnd (L' := L) [.bool (decide ((r : Int) < (((rs).length : Nat) : Int)))] (.bool (decide ((r : Int) < (((rs).length : Nat) : Int)))) (.tmp rfl .nil) rfl (FLe.refl _) (FLe.refl _) (Sub.drop (Sub.refl _)) ?_)
        exact ⟨(congrArg Value.bool (by unfold stepAtOk rightB; cases hA : sysOk ar rs <;> cases hB : termOk ar t <;> simp_all [posOk] <;> omega)), rfl, rfl⟩
      · refine XL.no (t := 22) rfl (congrArg Value.bool (decide_eq_false h3)) ?_
        refine XL.no (t := 22) rfl (congrArg Value.bool (decide_eq_false h3)) ?_
        refine XL.no (t := 22) rfl (congrArg Value.bool (decide_eq_false h3)) ?_
        refine XL.no (t := 22) rfl (congrArg Value.bool (decide_eq_false h3)) ?_
        refine XL.no (t := 22) rfl (congrArg Value.bool (decide_eq_false h3)) ?_
        refine XL.cons (XOp.pickF (.bool (false)) (congrArg Value.bool (decide_eq_false h3)) rfl ?_)
        refine XL.cons (XOp.assign (.bool (false)) rfl ?_)
        refine XL.nil ?_
        refine X.ret (retEnd (L' := L) [.bool (false)] (.bool (false)) (.tmp rfl .nil) rfl (FLe.refl _) (FLe.refl _) (Sub.drop (Sub.refl _)) ?_)
        exact ⟨(congrArg Value.bool (by unfold stepAtOk rightB; cases hA : sysOk ar rs <;> cases hB : termOk ar t <;> simp_all [posOk] <;> omega)), rfl, rfl⟩
    · rw [Bool.not_eq_true] at h2
      refine XL.no (t := 18) rfl (congrArg Value.bool h2) ?_
      refine XL.no (t := 18) rfl (congrArg Value.bool h2) ?_
      refine XL.cons (XOp.pickF (.bool (false)) (congrArg Value.bool h2) rfl ?_)
      refine XL.cons (XOp.move (.bool (false)) rfl ?_)
      refine XL.no (t := 22) rfl rfl ?_
      refine XL.no (t := 22) rfl rfl ?_
      refine XL.no (t := 22) rfl rfl ?_
      refine XL.no (t := 22) rfl rfl ?_
      refine XL.no (t := 22) rfl rfl ?_
      refine XL.cons (XOp.pickF (.bool (false)) rfl rfl ?_)
      refine XL.cons (XOp.assign (.bool (false)) rfl ?_)
      refine XL.nil ?_
      refine X.ret (retEnd (L' := L) [.bool (false)] (.bool (false)) (.tmp rfl .nil) rfl (FLe.refl _) (FLe.refl _) (Sub.drop (Sub.refl _)) ?_)
      exact ⟨(congrArg Value.bool (by unfold stepAtOk rightB; cases hA : sysOk ar rs <;> cases hB : termOk ar t <;> simp_all [posOk] <;> omega)), rfl, rfl⟩
  · rw [Bool.not_eq_true] at h1
    refine XL.no (t := 11) rfl (congrArg Value.bool h1) ?_
    refine XL.no (t := 11) rfl (congrArg Value.bool h1) ?_
    refine XL.no (t := 11) rfl (congrArg Value.bool h1) ?_
    refine XL.no (t := 11) rfl (congrArg Value.bool h1) ?_
    refine XL.no (t := 11) rfl (congrArg Value.bool h1) ?_
    refine XL.cons (XOp.pickF (.bool (false)) (congrArg Value.bool h1) rfl ?_)
    refine XL.cons (XOp.move (.bool (false)) rfl ?_)
    refine XL.no (t := 18) rfl rfl ?_
    refine XL.no (t := 18) rfl rfl ?_
    refine XL.cons (XOp.pickF (.bool (false)) rfl rfl ?_)
    refine XL.cons (XOp.move (.bool (false)) rfl ?_)
    refine XL.no (t := 22) rfl rfl ?_
    refine XL.no (t := 22) rfl rfl ?_
    refine XL.no (t := 22) rfl rfl ?_
    refine XL.no (t := 22) rfl rfl ?_
    refine XL.no (t := 22) rfl rfl ?_
    refine XL.cons (XOp.pickF (.bool (false)) rfl rfl ?_)
    refine XL.cons (XOp.assign (.bool (false)) rfl ?_)
    refine XL.nil ?_
    refine X.ret (retEnd (L' := L) [.bool (false)] (.bool (false)) (.tmp rfl .nil) rfl (FLe.refl _) (FLe.refl _) (Sub.drop (Sub.refl _)) ?_)
    exact ⟨(congrArg Value.bool (by unfold stepAtOk rightB; cases hA : sysOk ar rs <;> cases hB : termOk ar t <;> simp_all [posOk] <;> omega)), rfl, rfl⟩

/- impl.StepAt -/
theorem StepAt_spec {F : FH} {L : List HP} {arv : Value} {ar : List Int} (har : IntsF F arv ar) {rsv : Value} {rs : List (List Int × List Int)} (hrs : PairsF F rsv rs) {tv : Value} {t : List Int} (ht : IntsF F tv t) {p : Int} {r : Int} :
    Does Tryz.prog 107 [.agg #[arv, rsv], tv, .int .i64 (p), .int .i64 (r)] F (L) (fun v F' L' => ∃ (a : Value), (.tuple #[a, .bool ((stepAtL ar rs t p r).isSome)] : Value) = v ∧ (IntsF F' a ((stepAtL ar rs t p r).getD [])) ∧ (Fresh F F' (intsH 2 a ((stepAtL ar rs t p r).getD []))) ∧ L = L') := by
  refine Does.of_X Tryz.func107 rfl rfl rfl ?_
  refine X.seq ?_
  refine X.region ?_
  refine XL.cons (XOp.box [arv, rsv] rfl rfl ?_)
  intro b1
  refine XL.cons (XOp.assign ((.slice none 0 0)) rfl ?_)
  refine XL.cons (XOp.assign (.bool (false)) rfl ?_)
  refine XL.nil ?_
  refine X.seq ?_
  refine X.seq ?_
  refine X.region ?_
  refine XL.cons (XOp.loadN [arv, rsv] Tryz.isAgg45 Tryz.sizeOf45 rfl rfl (Rd.ownN [] rfl rfl) ?_)
  refine XL.cons (XOp.move (tv) rfl ?_)
  refine XL.cons (XOp.move (.int .i64 (p)) rfl ?_)
  refine XL.cons (XOp.move (.int .i64 (r)) rfl ?_)
  refine XL.cons (XOp.call (args := [.agg #[arv, rsv], tv, .int .i64 (p), .int .i64 (r)]) Tryz.call132 rfl (stepArgs_spec (p := p) (r := r) har hrs ht) ?_)
  rintro _ _ _ _ ⟨rfl, rfl, rfl⟩
  refine XL.cons (XOp.notB (b := stepAtOk ar rs t p r) rfl ?_)
  refine XL.nil ?_
  refine X.cond (t := !(stepAtOk ar rs t p r)) rfl (fun h1 => ?_) (fun h1 => ?_)
  · have hz0 : stepAtL ar rs t p r = none := by rw [stepAtL, if_neg (by simpa using h1)]
    refine X.seq ?_
    refine X.region ?_
    refine XL.cons (XOp.assign ((.slice none 0 0)) rfl ?_)
    refine XL.cons (XOp.assign (.bool (false)) rfl ?_)
    refine XL.nil ?_
    refine X.ret (thenQ_ret (retEnd (L' := L) [(.slice none 0 0), .bool (false)] (.tuple #[(.slice none 0 0), .bool (false)]) (.tmp rfl (.tmp rfl .nil)) rfl (FLe.refl _) (FLe.refl _) (Sub.drop (Sub.refl _)) ?_))
    exact ⟨_, by rw [hz0]; rfl, by rw [hz0]; exact IntsF.nilV, by rw [hz0]; exact Fresh.ofNil _, rfl⟩
  · have hok : stepAtOk ar rs t p r = true := by simpa using h1
    have hok2 := hok
    unfold stepAtOk rightB at hok2
    simp only [Bool.and_eq_true, decide_eq_true_eq] at hok2
    obtain ⟨⟨⟨hsys, ho⟩, hp1⟩, hr1⟩ := hok2
    refine X.skip ?_
    refine X.seq ?_
    refine X.region ?_
    refine XL.cons (XOp.loadN [arv, rsv] Tryz.isAgg45 Tryz.sizeOf45 rfl rfl (Rd.ownN [] rfl rfl) ?_)
    refine XL.cons (XOp.move (tv) rfl ?_)
    refine XL.cons (XOp.move (.int .i64 (p)) rfl ?_)
    refine XL.cons (XOp.move (.int .i64 (r)) rfl ?_)
    refine XL.cons (XOp.call (args := [.agg #[arv, rsv], tv, .int .i64 (((p).toNat : Nat) : Int), .int .i64 (((r).toNat : Nat) : Int)]) Tryz.call99 (by rw [show (((p).toNat : Nat) : Int) = p from by omega, show (((r).toNat : Nat) : Int) = r from by omega]; rfl) (step_spec (p := (p).toNat) (r := (r).toNat) har hrs ht (hsys := (by first | assumption | rfl | omega | (left; simp; done) | (right; simp; done))) (ho := (by first | assumption | rfl | omega | (left; simp; done) | (right; simp; done))) (hp := (by first | assumption | rfl | omega | (left; simp; done) | (right; simp; done))) (hr := (by first | assumption | rfl | omega | (left; simp; done) | (right; simp; done)))) ?_)
    rintro _ F1 _ le1 ⟨x1, rfl, hr1, hr2, hr3, rfl⟩
    replace har := har.mono le1
    replace hrs := hrs.mono le1
    replace ht := ht.mono le1
    refine XL.cons (XOp.extract (x1) rfl rfl ?_)
    refine XL.cons (XOp.extract (.bool ((stepL ar rs t ((p).toNat) ((r).toNat)).isSome)) rfl rfl ?_)
    refine XL.cons (XOp.assign (x1) rfl ?_)
    refine XL.cons (XOp.assign (.bool ((stepL ar rs t ((p).toNat) ((r).toNat)).isSome)) rfl ?_)
    refine XL.nil ?_
    refine X.ret (retEnd (L' := L) [x1, .bool ((stepL ar rs t ((p).toNat) ((r).toNat)).isSome)] (.tuple #[x1, .bool ((stepL ar rs t ((p).toNat) ((r).toNat)).isSome)]) (.tmp rfl (.tmp rfl .nil)) rfl le1 (FLe.refl _) (Sub.drop (Sub.refl _)) ?_)
    have e := show stepAtL ar rs t p r = stepL ar rs t p.toNat r.toNat from by rw [stepAtL, if_pos hok]
    exact ⟨_, by rw [e], by rw [e]; exact hr1, by rw [e]; exact hr3, rfl⟩
end Go.Proofs.YtacbenjncjcglaaGreat
