/-
  Walks: the statements' own helpers for steps; rewrite sequences.
-/
import Derived.Test.YtbooflphoaaoeaaGreatQlFr
import Derived.Test.YtbooflphoaaoeaaGreatP9
set_option linter.unusedSimpArgs false
set_option linter.unusedVariables false
namespace Go.Proofs.YtbooflphoaaoeaaGreat
open Go X M

/- laws.szInt64SS -/
theorem szInt64SS_spec {F : FH} {L : List HP} {rsv : Value} {rs : List (List Int)} (hrs : RowsF F rsv rs) {z : Int} (hz : 0 ≤ z ∧ z ≤ 4000000) (hrl : rs.length ≤ 9223372036854775807) (hrb : ∀ i, i < rs.length → (rs.getD i []).length ≤ 9223372036854775807) :
    Does Tryz.prog 27 [rsv, .int .i64 (z)] F (L) (fun v F' L' => (.int .i64 (dec z (szG lenR rs)) : Value) = v ∧ F = F' ∧ L = L') := by
  refine Does.of_X Tryz.func27 rfl rfl rfl ?_
  refine X.seq ?_
  refine X.region ?_
  refine XL.cons (XOp.assign (.int .i64 (0)) rfl ?_)
  refine XL.nil ?_
  refine X.seq ?_
  refine X.region ?_
  refine XL.cons (XOp.move (.int .i64 (z)) rfl ?_)
  refine XL.cons (XOp.move (rsv) rfl ?_)
  refine XL.cons (XOp.lenS (v := rsv) (n := (rs).length) Tryz.runUnderlying54 rfl hrs.slv ?_)
  refine XL.cons (XOp.subR (a := z) (b := (((rs).length : Nat) : Int)) (z - ((((rs).length : Nat) : Int))) rfl rfl (by omega) (by omega) ?_)
  refine XL.cons (XOp.assign (.int .i64 (z - ((((rs).length : Nat) : Int)))) rfl ?_)
  refine XL.nil ?_
  refine X.seq ?_
  refine X.seq ?_
  refine X.region ?_
  refine XL.cons (XOp.move (.int .i64 (z - ((((rs).length : Nat) : Int)))) rfl ?_)
  refine XL.cons (XOp.lss (a := z - ((((rs).length : Nat) : Int))) (b := 0) rfl rfl ?_)
  refine XL.nil ?_
  refine X.condD (p := (z - ((((rs).length : Nat) : Int)) : Int) < 0) rfl (fun h1 => ?_) (fun h1 => ?_)
  · refine X.seq ?_
    refine X.region ?_
    refine XL.cons (XOp.assign (.int .i64 (-1)) rfl ?_)
    refine XL.nil ?_
    refine X.ret (thenQ_ret (retEnd (L' := L) [.int .i64 (-1)] (.int .i64 (-1)) (.tmp rfl .nil) rfl (FLe.refl _) (FLe.refl _) (Sub.refl _) ?_))
    exact ⟨(congrArg (Value.int .i64) (dec_mono (n := rs.length) (by rw [dec_neg (by omega)]; omega) (by unfold szG; omega))), rfl, rfl⟩
  · refine X.skip ?_
    refine X.seq ?_
    refine X.seq ?_
    refine X.region ?_
    refine XL.cons (XOp.assign (.int .i64 (0)) rfl ?_)
    refine XL.nil ?_
    refine X.block ?_
    refine X.loop (α := Nat) (fun k => [(0, rsv), (1, .int .i64 (dec z (rs.length + gTo lenR rs k))), (5, .int .i64 (((k : Nat) : Int)))]) (fun k => L) (fun k F' => F = F' ∧ (k ≤ rs.length) ∧ (0 ≤ dec z (rs.length + gTo lenR rs k))) (fun k => rs.length - k) 0 ⟨rfl, (congrArg (Value.int .i64) (by show z - rs.length = dec z (rs.length + 0); rw [Nat.add_zero, dec_pos (by omega)])), rfl, trivial⟩ (Sub.refl _) ⟨rfl, (by (try dsimp only) <;> omega), (by show 0 ≤ dec z (rs.length + 0); rw [Nat.add_zero, dec_pos (by omega)]; omega)⟩ ?_
    rintro k rE _ _ ⟨rfl, hk, hnn⟩
    show X _ _ _ _ (envs [(0, rsv), (1, .int .i64 (dec z (rs.length + gTo lenR rs k))), (5, .int .i64 (((k : Nat) : Int)))] rE) _ (L)
    have hdr := dec_range z (rs.length + gTo lenR rs k)
    have hrk := hrb k
    have hgk : lenR (rs.getD k []) = (rs.getD k []).length := rfl
    refine X.seq ?_
    refine X.seq ?_
    refine X.region ?_
    refine XL.cons (XOp.move (.int .i64 (((k : Nat) : Int))) rfl ?_)
    refine XL.cons (XOp.move (rsv) rfl ?_)
    refine XL.cons (XOp.lenS (v := rsv) (n := (rs).length) Tryz.runUnderlying54 rfl hrs.slv ?_)
    refine XL.cons (XOp.lss (a := ((k : Nat) : Int)) (b := (((rs).length : Nat) : Int)) rfl rfl ?_)
    refine XL.nil ?_
    refine X.condD (p := (((k : Nat) : Int) : Int) < (((rs).length : Nat) : Int)) rfl (fun h2 => ?_) (fun h2 => ?_)
    · refine X.skip ?_
      refine X.seq ?_
      refine X.block ?_
      refine X.seq ?_
      refine X.region ?_
      refine XL.cons (XOp.move (rsv) rfl ?_)
      refine XL.cons (XOp.move (.int .i64 (((k : Nat) : Int))) rfl ?_)
      refine XL.cons (XOp.indexS (v := rsv) (i := ((k : Nat) : Int)) (n := (rs).length) k Tryz.runUnderlying54 Tryz.sizeOf22 rfl rfl rfl hrs.slv (by omega) (Nat.mul_one _) ?_)
      obtain ⟨a1, ha1, hr1⟩ := hrs.rd (i := k) (by omega)
      refine XL.cons (XOp.load1 (v := a1) Tryz.isAgg22 rfl (hr1 _) ?_)
      refine XL.cons (XOp.move (.int .i64 (dec z (rs.length + gTo lenR rs k))) rfl ?_)
      refine XL.cons (XOp.call (args := [a1, .int .i64 (dec z (rs.length + gTo lenR rs k))]) Tryz.call77 rfl (szInt64S_spec (z := dec z (rs.length + gTo lenR rs k)) ha1 (hz := (by first | assumption | rfl | omega | (left; simp; done) | (right; simp; done))) (hlx := (by first | assumption | rfl | omega | (left; simp; done) | (right; simp; done)))) ?_)
      rintro _ _ _ _ ⟨rfl, rfl, rfl⟩
      refine XL.cons (XOp.assign (.int .i64 (dec (dec z (rs.length + gTo lenR rs k)) ((rs.getD k [])).length)) rfl ?_)
      refine XL.nil ?_
      refine X.seq ?_
      refine X.region ?_
      refine XL.cons (XOp.move (.int .i64 (dec (dec z (rs.length + gTo lenR rs k)) ((rs.getD k [])).length)) rfl ?_)
      refine XL.cons (XOp.lss (a := dec (dec z (rs.length + gTo lenR rs k)) ((rs.getD k [])).length) (b := 0) rfl rfl ?_)
      refine XL.nil ?_
      refine X.condD (p := (dec (dec z (rs.length + gTo lenR rs k)) ((rs.getD k [])).length : Int) < 0) rfl (fun h3 => ?_) (fun h3 => ?_)
      · refine X.seq ?_
        refine X.region ?_
        refine XL.cons (XOp.assign (.int .i64 (-1)) rfl ?_)
        refine XL.nil ?_
        refine X.ret (blockQ_ret (thenQ_ret (thenQ_ret (blockQ_ret (thenQ_ret (retEnd (L' := L) [.int .i64 (-1)] (.int .i64 (-1)) (.tmp rfl .nil) rfl (FLe.refl _) (FLe.refl _) (Sub.refl _) ?_))))))
        exact ⟨(congrArg (Value.int .i64) (by have h9 := gTo_le (f := lenR) (l := rs) ([] : List Int) (k + 1) rs.length (by omega) (Nat.le_refl _); refine dec_mono (n := rs.length + gTo lenR rs (k + 1)) ?_ (by unfold szG; omega); rw [← gTo_succ ([] : List Int) (by omega), ← Nat.add_assoc, ← dec_dec (by omega)]; assumption)), rfl, rfl⟩
      · refine X.skip ?_
        refine X.region ?_
        refine XL.cons (XOp.move (.int .i64 (((k : Nat) : Int))) rfl ?_)
        refine XL.cons (XOp.addR (a := ((k : Nat) : Int)) (b := 1) (((k + 1 : Nat) : Int)) rfl rfl (by omega) (by omega) ?_)
        refine XL.cons (XOp.assign (.int .i64 (((k + 1 : Nat) : Int))) rfl ?_)
        refine XL.nil ?_
        exact ⟨k + 1, _, FLe.refl _, (FLe.refl _), ⟨rfl, (congrArg (Value.int .i64) (by rw [dec_dec (by omega), Nat.add_assoc, ← gTo_succ ([] : List Int) (by omega)]; rfl)), rfl, trivial⟩, (Sub.refl _), ⟨rfl, (by (try dsimp only) <;> omega), (by (try dsimp only); rw [← gTo_succ ([] : List Int) (by omega), ← Nat.add_assoc, ← dec_dec (by omega)]; exact Int.not_lt.1 (by assumption))⟩, (by omega)⟩
    · refine X.exit (thenQ_exit (thenQ_exit (blockQ_exit ?_)))
      refine X.seq ?_
      refine X.region ?_
      refine XL.cons (XOp.move (.int .i64 (dec z (rs.length + gTo lenR rs k))) rfl ?_)
      refine XL.cons (XOp.assign (.int .i64 (dec z (rs.length + gTo lenR rs k))) rfl ?_)
      refine XL.nil ?_
      refine X.ret (retEnd (L' := L) [.int .i64 (dec z (rs.length + gTo lenR rs k))] (.int .i64 (dec z (rs.length + gTo lenR rs k))) (.tmp rfl .nil) rfl (FLe.refl _) (FLe.refl _) (Sub.refl _) ?_)
      exact ⟨(congrArg (Value.int .i64) (by rw [szG, show k = rs.length from by omega])), rfl, rfl⟩

/- laws.eqInt64SS -/
theorem eqInt64SS_spec {F : FH} {L : List HP} {av : Value} {a : List (List Int)} (ha : RowsF F av a) {bv : Value} {b : List (List Int)} (hb : RowsF F bv b) (hal : a.length ≤ 9223372036854775807) (hbd : ∀ i, i < a.length → (a.getD i []).length ≤ 9223372036854775807) :
    Does Tryz.prog 31 [av, bv] F (L) (fun v F' L' => (.bool (decide (a = b)) : Value) = v ∧ F = F' ∧ L = L') := by
  refine Does.of_X Tryz.func31 rfl rfl rfl ?_
  refine X.seq ?_
  refine X.region ?_
  refine XL.cons (XOp.assign (.bool (false)) rfl ?_)
  refine XL.nil ?_
  refine X.seq ?_
  refine X.seq ?_
  refine X.region ?_
  refine XL.cons (XOp.move (av) rfl ?_)
  refine XL.cons (XOp.lenS (v := av) (n := (a).length) Tryz.runUnderlying54 rfl ha.slv ?_)
  refine XL.cons (XOp.move (bv) rfl ?_)
  refine XL.cons (XOp.lenS (v := bv) (n := (b).length) Tryz.runUnderlying54 rfl hb.slv ?_)
  refine XL.cons (XOp.neq (a := (((a).length : Nat) : Int)) (b := (((b).length : Nat) : Int)) rfl rfl ?_)
  refine XL.nil ?_
  refine X.condD (p := ((((a).length : Nat) : Int) : Int) ≠ (((b).length : Nat) : Int)) rfl (fun h1 => ?_) (fun h1 => ?_)
  · refine X.seq ?_
    refine X.region ?_
    refine XL.cons (XOp.assign (.bool (false)) rfl ?_)
    refine XL.nil ?_
    refine X.ret (thenQ_ret (retEnd (L' := L) [.bool (false)] (.bool (false)) (.tmp rfl .nil) rfl (FLe.refl _) (FLe.refl _) (Sub.refl _) ?_))
    exact ⟨(congrArg Value.bool (decide_eq_false (fun e => by rw [e] at h1; omega))), rfl, rfl⟩
  · refine X.skip ?_
    refine X.seq ?_
    refine X.seq ?_
    refine X.region ?_
    refine XL.cons (XOp.assign (.int .i64 (0)) rfl ?_)
    refine XL.nil ?_
    refine X.block ?_
    refine X.loop (α := Nat) (fun k => [(0, av), (1, bv), (5, .int .i64 (((k : Nat) : Int)))]) (fun k => L) (fun k F' => F = F' ∧ (k ≤ a.length) ∧ (∀ i, i < k → a.getD i ([] : List Int) = b.getD i ([] : List Int))) (fun k => a.length - k) 0 ⟨rfl, rfl, rfl, trivial⟩ (Sub.refl _) ⟨rfl, (by (try dsimp only) <;> omega), (fun i hi => absurd hi (by omega))⟩ ?_
    rintro k rE _ _ ⟨rfl, hk, hall⟩
    show X _ _ _ _ (envs [(0, av), (1, bv), (5, .int .i64 (((k : Nat) : Int)))] rE) _ (L)
    have hbk := hbd k
    refine X.seq ?_
    refine X.seq ?_
    refine X.region ?_
    refine XL.cons (XOp.move (.int .i64 (((k : Nat) : Int))) rfl ?_)
    refine XL.cons (XOp.move (av) rfl ?_)
    refine XL.cons (XOp.lenS (v := av) (n := (a).length) Tryz.runUnderlying54 rfl ha.slv ?_)
    refine XL.cons (XOp.lss (a := ((k : Nat) : Int)) (b := (((a).length : Nat) : Int)) rfl rfl ?_)
    refine XL.nil ?_
    refine X.condD (p := (((k : Nat) : Int) : Int) < (((a).length : Nat) : Int)) rfl (fun h2 => ?_) (fun h2 => ?_)
    · refine X.skip ?_
      refine X.seq ?_
      refine X.block ?_
      refine X.seq ?_
      obtain ⟨a1, ha1, hr1⟩ := ha.rd (i := k) (by omega)
      obtain ⟨a2, ha2, hr2⟩ := hb.rd (i := k) (by omega)
      refine X.draw [] L 8 [[], [], [], [], [], [], [], []] [[], [], [0, 1], [2], [], [], [4, 5], [6]] (phiL [fun us v => v = av, fun us v => v = (.int .i64 (((k : Nat) : Int)) : Value), fun us v => v = (.pointer (some (elemA av (k))) : Value), fun us v => v = a1, fun us v => v = bv, fun us v => v = (.int .i64 (((k : Nat) : Int)) : Value), fun us v => v = (.pointer (some (elemA bv (k))) : Value), fun us v => v = a2]) (ownL [fun us v => [], fun us v => [], fun us v => [], fun us v => [], fun us v => [], fun us v => [], fun us v => [], fun us v => []]) mixed rfl rfl (by kernel_rfl) ?_ ?_
      · refine stepsP.cons (fun vals R hpZ => ?_) ?_
        · refine XG.op (XOp.move (av) rfl ?_)
          exact ⟨rfl, rfl, rfl⟩
        refine stepsP.cons (fun vals R hpZ => ?_) ?_
        · refine XG.op (XOp.move (.int .i64 (((k : Nat) : Int))) rfl ?_)
          exact ⟨rfl, rfl, rfl⟩
        refine stepsP.cons (fun vals R hpZ => ?_) ?_
        · rw [(envs_of_sat (l := [(0, av), (1, (.int .i64 (((k : Nat) : Int)) : Value))]) ⟨hpZ 0 (by decide), hpZ 1 (by decide), trivial⟩).symm]
          refine XG.op (XOp.indexS (v := av) (i := ((k : Nat) : Int)) (n := (a).length) k Tryz.runUnderlying54 Tryz.sizeOf22 rfl rfl rfl ha.slv (by omega) (Nat.mul_one _) ?_)
          exact ⟨rfl, rfl, rfl⟩
        refine stepsP.cons (fun vals R hpZ => ?_) ?_
        · rw [(envs_of_sat (l := [(2, (.pointer (some (elemA av (k))) : Value))]) ⟨hpZ 2 (by decide), trivial⟩).symm]
          refine XG.op (XOp.load1 (v := a1) Tryz.isAgg22 rfl (hr1 _) ?_)
          exact ⟨rfl, rfl, rfl⟩
        refine stepsP.cons (fun vals R hpZ => ?_) ?_
        · refine XG.op (XOp.move (bv) rfl ?_)
          exact ⟨rfl, rfl, rfl⟩
        refine stepsP.cons (fun vals R hpZ => ?_) ?_
        · refine XG.op (XOp.move (.int .i64 (((k : Nat) : Int))) rfl ?_)
          exact ⟨rfl, rfl, rfl⟩
        refine stepsP.cons (fun vals R hpZ => ?_) ?_
        · rw [(envs_of_sat (l := [(4, bv), (5, (.int .i64 (((k : Nat) : Int)) : Value))]) ⟨hpZ 4 (by decide), hpZ 5 (by decide), trivial⟩).symm]
          refine XG.op (XOp.indexS (v := bv) (i := ((k : Nat) : Int)) (n := (b).length) k Tryz.runUnderlying54 Tryz.sizeOf22 rfl rfl rfl hb.slv (by omega) (Nat.mul_one _) ?_)
          exact ⟨rfl, rfl, rfl⟩
        refine stepsP.cons (fun vals R hpZ => ?_) ?_
        · rw [(envs_of_sat (l := [(6, (.pointer (some (elemA bv (k))) : Value))]) ⟨hpZ 6 (by decide), trivial⟩).symm]
          refine XG.op (XOp.load1 (v := a2) Tryz.isAgg22 rfl (hr2 _) ?_)
          exact ⟨rfl, rfl, rfl⟩
        exact stepsP.nil
      · intro vals hphi
        have e0 : vals 0 = av := hphi 0 (by decide)
        have e1 : vals 1 = (.int .i64 (((k : Nat) : Int)) : Value) := hphi 1 (by decide)
        have e2 : vals 2 = (.pointer (some (elemA av (k))) : Value) := hphi 2 (by decide)
        have e3 : vals 3 = a1 := hphi 3 (by decide)
        have e4 : vals 4 = bv := hphi 4 (by decide)
        have e5 : vals 5 = (.int .i64 (((k : Nat) : Int)) : Value) := hphi 5 (by decide)
        have e6 : vals 6 = (.pointer (some (elemA bv (k))) : Value) := hphi 6 (by decide)
        have e7 : vals 7 = a2 := hphi 7 (by decide)
        rw [(envs_of_sat (l := [(0, av), (1, (.int .i64 (((k : Nat) : Int)) : Value)), (2, (.pointer (some (elemA av (k))) : Value)), (3, a1), (4, bv), (5, (.int .i64 (((k : Nat) : Int)) : Value)), (6, (.pointer (some (elemA bv (k))) : Value)), (7, a2)]) ⟨e0, e1, e2, e3, e4, e5, e6, e7, trivial⟩).symm]
        show XL _ _ _ _ _ _ _ (L)
        refine XL.cons (XOp.call (args := [a1, a2]) Tryz.call17 rfl (eqInt64S_spec ha1 ha2 (hbd := (.inl (hbk (by omega))))) ?_)
        rintro _ _ _ _ ⟨rfl, rfl, rfl⟩
        refine XL.cons (XOp.notD (p := ((a.getD k [])) = ((b.getD k []))) rfl ?_)
        refine XL.nil ?_
        refine X.condD (p := ¬(((a.getD k [])) = ((b.getD k [])))) rfl (fun h3 => ?_) (fun h3 => ?_)
        · refine X.seq ?_
          refine X.region ?_
          refine XL.cons (XOp.assign (.bool (false)) rfl ?_)
          refine XL.nil ?_
          refine X.ret (blockQ_ret (thenQ_ret (thenQ_ret (blockQ_ret (thenQ_ret (retEnd (L' := L) [.bool (false)] (.bool (false)) (.tmp rfl .nil) rfl (FLe.refl _) (FLe.refl _) (Sub.refl _) ?_))))))
          exact ⟨(congrArg Value.bool (decide_eq_false (fun e => by subst e; simp at *))), rfl, rfl⟩
        · refine X.skip ?_
          refine X.region ?_
          refine XL.cons (XOp.move (.int .i64 (((k : Nat) : Int))) rfl ?_)
          refine XL.cons (XOp.addR (a := ((k : Nat) : Int)) (b := 1) (((k + 1 : Nat) : Int)) rfl rfl (by omega) (by omega) ?_)
          refine XL.cons (XOp.assign (.int .i64 (((k + 1 : Nat) : Int))) rfl ?_)
          refine XL.nil ?_
          exact ⟨k + 1, _, FLe.refl _, (FLe.refl _), ⟨rfl, rfl, rfl, trivial⟩, (Sub.refl _), ⟨rfl, (by (try dsimp only) <;> omega), (fun i hi => (Nat.lt_or_ge i k).elim (fun h => hall i h) (fun h => by obtain rfl : i = k := (by omega); first | assumption | exact Classical.not_not.1 (by assumption)))⟩, (by omega)⟩
    · refine X.exit (thenQ_exit (thenQ_exit (blockQ_exit ?_)))
      refine X.seq ?_
      refine X.region ?_
      refine XL.cons (XOp.assign (.bool (true)) rfl ?_)
      refine XL.nil ?_
      refine X.ret (retEnd (L' := L) [.bool (true)] (.bool (true)) (.tmp rfl .nil) rfl (FLe.refl _) (FLe.refl _) (Sub.refl _) ?_)
      exact ⟨(congrArg Value.bool (decide_eq_true (ext_any ([] : List Int) (by omega) (fun i hi => hall i (by omega))))), rfl, rfl⟩
end Go.Proofs.YtbooflphoaaoeaaGreat
