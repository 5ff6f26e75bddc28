/-
  Walks: a sequence under a substitution; the statement WalkUnder.
-/
import Derived.Test.YtacbenjncjcglaaGreatQhFx
import Derived.Test.YtacbenjncjcglaaGreatP14
set_option linter.unusedSimpArgs false
set_option linter.unusedVariables false
namespace Go.Proofs.YtacbenjncjcglaaGreat
open Go X M

/- impl.placeUnder -/
theorem placeUnder_spec {F : FH} {L : List HP} {sv : Value} {s : List (List Int)} (hs : RowsF F sv s) {tv : Value} {t : List Int} (ht : IntsF F tv t) {p : Nat} (hp : p ≤ t.length) (hsl : s.length ≤ 4000000) (hsb : ∀ i, (s.getD i []).length ≤ 60) (htl : t.length ≤ 60) (htg : ∀ k, k < t.length → -24 ≤ t.getD k 0) :
    Does Tryz.prog 48 [.agg #[sv], tv, .int .i64 (((p : Nat) : Int))] F (L) (fun v F' L' => (.int .i64 (((movedL s t p : Nat) : Int)) : Value) = v ∧ F = F' ∧ L = L') := by
  refine Does.of_X Tryz.func48 rfl rfl rfl ?_
  have hlt9 : ((t.drop 0).take (p - 0)).length = p := by simp; omega
  refine X.seq ?_
  refine X.region ?_
  refine XL.cons (XOp.box [sv] rfl rfl ?_)
  intro b1
  refine XL.cons (XOp.assign (.int .i64 (0)) rfl ?_)
  refine XL.nil ?_
  refine X.seq ?_
  refine X.region ?_
  refine XL.cons (XOp.assign (.int .i64 (0)) rfl ?_)
  refine XL.nil ?_
  refine X.seq ?_
  refine X.seq ?_
  refine X.region ?_
  refine XL.cons (XOp.move (tv) rfl ?_)
  refine XL.cons (XOp.move (.int .i64 (((p : Nat) : Int))) rfl ?_)
  refine XL.cons (XOp.sliceI 0 p Tryz.runUnderlying22 Tryz.sizeOf2 rfl ht rfl ⟨_, rfl⟩ (by omega) (by omega) ?_)
  intro v1 hv1 hn1
  refine XL.cons (XOp.lenS (v := v1) (n := (((t.drop 0).take (p - 0))).length) Tryz.runUnderlying22 rfl hv1.slv ?_)
  refine XL.cons (XOp.move (.int .i64 (0)) rfl ?_)
  refine XL.nil ?_
  refine X.block ?_
  refine X.loop (α := Nat) (fun k => [(3, ptr b1 0), (7, .int .i64 (((movedL s t k : Nat) : Int))), (13, v1), (14, .int .i64 ((((((t.drop 0).take (p - 0))).length : Nat) : Int))), (15, .int .i64 (((k : Nat) : Int)))]) (fun k => cellsH b1 [sv] 48 :: L) (fun k F' => F = F' ∧ (k ≤ p)) (fun k => p - k) 0 ⟨rfl, rfl, rfl, rfl, rfl, trivial⟩ (Sub.cons (Sub.refl _)) ⟨rfl, (by (try dsimp only) <;> omega)⟩ ?_
  rintro k rE _ _ ⟨rfl, hk⟩
  show X _ _ _ _ (envs [(3, ptr b1 0), (7, .int .i64 (((movedL s t k : Nat) : Int))), (13, v1), (14, .int .i64 ((((((t.drop 0).take (p - 0))).length : Nat) : Int))), (15, .int .i64 (((k : Nat) : Int)))] rE) _ (cellsH b1 [sv] 48 :: L)
  have htk := htg k
  have hgk := fun (h : k < p) => take_getD (t := t) (p := p) (k := k) h
  have hml := movedL_le (t := t) (s := s) (N := 60) (by omega) hsb k
  have hse := hsb (-1 - ((t.drop 0).take (p - 0)).getD k 0).toNat
  refine X.seq ?_
  refine X.region ?_
  refine XL.cons (XOp.lss (a := ((k : Nat) : Int)) (b := (((((t.drop 0).take (p - 0))).length : Nat) : Int)) rfl rfl ?_)
  refine XL.nil ?_
  refine X.seq ?_
  refine X.condD (p := (((k : Nat) : Int) : Int) < (((((t.drop 0).take (p - 0))).length : Nat) : Int)) rfl (fun h1 => ?_) (fun h1 => ?_)
  · refine X.skip ?_
    refine X.seq ?_
    refine X.block ?_
    refine X.seq ?_
    refine X.region ?_
    refine XL.cons (XOp.indexS (v := v1) (i := ((k : Nat) : Int)) (n := (((t.drop 0).take (p - 0))).length) k Tryz.runUnderlying22 Tryz.sizeOf2 rfl rfl rfl hv1.slv (by omega) (Nat.mul_one _) ?_)
    refine XL.cons (XOp.load1 (v := .int .i64 ((((t.drop 0).take (p - 0))).getD k 0)) Tryz.isAgg2 rfl (hv1.rd (by omega)) ?_)
    refine XL.cons (XOp.assign (.int .i64 ((((t.drop 0).take (p - 0))).getD k 0)) rfl ?_)
    refine XL.nil ?_
    refine X.seq ?_
    refine X.region ?_
    refine XL.cons (XOp.move (.int .i64 (((movedL s t k : Nat) : Int))) rfl ?_)
    refine XL.cons (XOp.addR (a := ((movedL s t k : Nat) : Int)) (b := 1) ((((movedL s t k) + 1 : Nat) : Int)) rfl rfl (by omega) (by omega) ?_)
    refine XL.cons (XOp.assign (.int .i64 ((((movedL s t k) + 1 : Nat) : Int))) rfl ?_)
    refine XL.nil ?_
    refine X.seq ?_
    refine X.seq ?_
    refine X.region ?_
    refine XL.cons (XOp.move (.int .i64 ((((t.drop 0).take (p - 0))).getD k 0)) rfl ?_)
    refine XL.cons (XOp.geq (a := (((t.drop 0).take (p - 0))).getD k 0) (b := 0) rfl rfl ?_)
    refine XL.nil ?_
    refine X.condD (p := ((((t.drop 0).take (p - 0))).getD k 0 : Int) ≥ 0) rfl (fun h2 => ?_) (fun h2 => ?_)
    · refine X.exit (thenQ_exit (blockQ_exit ?_))
      refine X.region ?_
      refine XL.cons (XOp.addR (a := ((k : Nat) : Int)) (b := 1) (((k + 1 : Nat) : Int)) rfl rfl (by omega) (by omega) ?_)
      refine XL.cons (XOp.move (.int .i64 (((k + 1 : Nat) : Int))) rfl ?_)
      refine XL.nil ?_
      exact ⟨k + 1, _, FLe.refl _, (FLe.refl _), ⟨rfl, (congrArg (fun z : Nat => Value.int .i64 (z : Int)) (by rw [movedL_succ (by omega), ← hgk (by omega)]; first | (rw [lk_sym (by omega)]; rfl) | (rw [lk_none (by omega) (of_decide_eq_true (hgk.symm.trans (by simp_all)))]; rfl) | (have hne9 : s.getD (-1 - ((t.drop 0).take (p - 0)).getD k 0).toNat [] ≠ [] := of_decide_eq_false (hgk.symm.trans (by simp_all)); have hne8 := List.length_pos_iff.2 hne9; rw [lk_some (by omega) hne9]; unfold varIx; omega))), rfl, rfl, rfl, trivial⟩, (Sub.cons (Sub.refl _)), ⟨rfl, (by omega)⟩, (by omega)⟩
    · refine X.skip ?_
      refine X.seq ?_
      refine X.region ?_
      refine XL.cons (XOp.loadN [sv] Tryz.isAgg48 Tryz.sizeOf48 rfl rfl (Rd.ownN [] rfl rfl) ?_)
      refine XL.cons (XOp.move (.int .i64 ((((t.drop 0).take (p - 0))).getD k 0)) rfl ?_)
      refine XL.cons (XOp.subR (a := -1) (b := (((t.drop 0).take (p - 0))).getD k 0) ((-1) - ((((t.drop 0).take (p - 0))).getD k 0)) rfl rfl (by omega) (by omega) ?_)
      refine XL.cons (XOp.call (args := [.agg #[sv], .int .i64 ((((-1) - ((((t.drop 0).take (p - 0))).getD k 0)).toNat : Nat) : Int)]) Tryz.call91 (by rw [show ((((-1) - ((((t.drop 0).take (p - 0))).getD k 0)).toNat : Nat) : Int) = (-1) - ((((t.drop 0).take (p - 0))).getD k 0) from by omega]; rfl) (byVar_spec (i := ((-1) - ((((t.drop 0).take (p - 0))).getD k 0)).toNat) hs (hsl := (by first | assumption | rfl | omega | (left; simp; done) | (right; simp; done)))) ?_)
      rintro _ _ _ _ ⟨rfl, x1, rfl, hr1, hr2, rfl⟩
      skip
      refine XL.cons (XOp.assign (x1) rfl ?_)
      refine XL.nil ?_
      refine X.seq ?_
      refine X.region ?_
      refine XL.cons (XOp.move (x1) rfl ?_)
      refine XL.cons (XOp.neNil (v := x1) Tryz.runUnderlying22 rfl rfl (IntsF.isSl hr1) ?_)
      refine XL.nil ?_
      refine X.cond (t := !isNil x1) rfl (fun h3 => ?_) (fun h3 => ?_)
      · have hne7 := List.length_pos_iff.2 (of_decide_eq_false (hr2.symm.trans (by simpa using h3)))
        refine X.region ?_
        refine XL.cons (XOp.move (.int .i64 ((((movedL s t k) + 1 : Nat) : Int))) rfl ?_)
        refine XL.cons (XOp.move (x1) rfl ?_)
        refine XL.cons (XOp.lenS (v := x1) (n := (s.getD (((-1) - ((((t.drop 0).take (p - 0))).getD k 0)).toNat) []).length) Tryz.runUnderlying22 rfl hr1.slv ?_)
        refine XL.cons (XOp.subR (a := (((s.getD (((-1) - ((((t.drop 0).take (p - 0))).getD k 0)).toNat) []).length : Nat) : Int)) (b := 1) (((((s.getD (((-1) - ((((t.drop 0).take (p - 0))).getD k 0)).toNat) []).length) - 1 : Nat) : Int)) rfl rfl (by omega) (by omega) ?_)
        refine XL.cons (XOp.addR (a := (((movedL s t k) + 1 : Nat) : Int)) (b := ((((s.getD (((-1) - ((((t.drop 0).take (p - 0))).getD k 0)).toNat) []).length) - 1 : Nat) : Int)) (((((movedL s t k) + 1) + (((s.getD (((-1) - ((((t.drop 0).take (p - 0))).getD k 0)).toNat) []).length) - 1) : Nat) : Int)) rfl rfl (by omega) (by omega) ?_)
        refine XL.cons (XOp.assign (.int .i64 (((((movedL s t k) + 1) + (((s.getD (((-1) - ((((t.drop 0).take (p - 0))).getD k 0)).toNat) []).length) - 1) : Nat) : Int))) rfl ?_)
        refine XL.nil ?_
        refine X.region ?_
        refine XL.cons (XOp.addR (a := ((k : Nat) : Int)) (b := 1) (((k + 1 : Nat) : Int)) rfl rfl (by omega) (by omega) ?_)
        refine XL.cons (XOp.move (.int .i64 (((k + 1 : Nat) : Int))) rfl ?_)
        refine XL.nil ?_
        exact ⟨k + 1, _, FLe.refl _, (FLe.refl _), ⟨rfl, (congrArg (fun z : Nat => Value.int .i64 (z : Int)) (by rw [movedL_succ (by omega), ← hgk (by omega)]; first | (rw [lk_sym (by omega)]; rfl) | (rw [lk_none (by omega) (of_decide_eq_true (hr2.symm.trans (by simp_all)))]; rfl) | (have hne9 : s.getD (-1 - ((t.drop 0).take (p - 0)).getD k 0).toNat [] ≠ [] := of_decide_eq_false (hr2.symm.trans (by simp_all)); have hne8 := List.length_pos_iff.2 hne9; rw [lk_some (by omega) hne9]; unfold varIx; omega))), rfl, rfl, rfl, trivial⟩, (Sub.cons (Sub.refl _)), ⟨rfl, (by omega)⟩, (by omega)⟩
      · refine X.skip ?_
        refine X.region ?_
        refine XL.cons (XOp.addR (a := ((k : Nat) : Int)) (b := 1) (((k + 1 : Nat) : Int)) rfl rfl (by omega) (by omega) ?_)
        refine XL.cons (XOp.move (.int .i64 (((k + 1 : Nat) : Int))) rfl ?_)
        refine XL.nil ?_
        exact ⟨k + 1, _, FLe.refl _, (FLe.refl _), ⟨rfl, (congrArg (fun z : Nat => Value.int .i64 (z : Int)) (by rw [movedL_succ (by omega), ← hgk (by omega)]; first | (rw [lk_sym (by omega)]; rfl) | (rw [lk_none (by omega) (of_decide_eq_true (hr2.symm.trans (by simp_all)))]; rfl) | (have hne9 : s.getD (-1 - ((t.drop 0).take (p - 0)).getD k 0).toNat [] ≠ [] := of_decide_eq_false (hr2.symm.trans (by simp_all)); have hne8 := List.length_pos_iff.2 hne9; rw [lk_some (by omega) hne9]; unfold varIx; omega))), rfl, rfl, rfl, trivial⟩, (Sub.cons (Sub.refl _)), ⟨rfl, (by omega)⟩, (by omega)⟩
  · refine X.exit (thenQ_exit (thenQ_exit (blockQ_exit ?_)))
    refine X.seq ?_
    refine X.region ?_
    refine XL.cons (XOp.move (.int .i64 (((movedL s t k : Nat) : Int))) rfl ?_)
    refine XL.cons (XOp.assign (.int .i64 (((movedL s t k : Nat) : Int))) rfl ?_)
    refine XL.nil ?_
    refine X.ret (retEnd (L' := L) [.int .i64 (((movedL s t k : Nat) : Int))] (.int .i64 (((movedL s t k : Nat) : Int))) (.tmp rfl .nil) rfl (FLe.refl _) (FLe.refl _) (Sub.drop (Sub.refl _)) ?_)
    exact ⟨(congrArg (Value.int .i64) (by rw [show k = p from by omega])), rfl, rfl⟩

/- impl.WalkUnder -/
theorem WalkUnder_spec {F : FH} {L : List HP} {arv : Value} {ar : List Int} (har : IntsF F arv ar) {rsv : Value} {rs : List (List Int × List Int)} (hrs : PairsF F rsv rs) {fv : Value} {f : List Int} (hf : IntsF F fv f) {xsv : Value} {xs : List StepT} (hxs : StepsF F xsv xs) {uv : Value} {u : List (List Int)} (hu : RowsF F uv u) (hlf : f.length ≤ 4000000) (hsb : ∀ i, i < xs.length → (xs.getD i (0, 0, [])).2.2.length ≤ 4000000) :
    Does Tryz.prog 12 [.agg #[arv, rsv], .agg #[fv, xsv], .agg #[uv]] F (L) (fun v F' L' => ∃ (a : Value), ∃ (b : Value), (.tuple #[.agg #[a, b], .bool ((undB ar rs f xs u).2.2)] : Value) = v ∧ (IntsF F' a (undB ar rs f xs u).1) ∧ (StepsF F' b (undB ar rs f xs u).2.1) ∧ (Fresh F F' (star [intsH 2 a (undB ar rs f xs u).1, stepsD 2 78 b (undB ar rs f xs u).2.1])) ∧ L = L') := by
  refine Does.of_X Tryz.func12 rfl rfl rfl ?_
  refine X.seq ?_
  refine X.region ?_
  refine XL.cons (XOp.box [arv, rsv] rfl rfl ?_)
  intro b1
  refine XL.cons (XOp.box [fv, xsv] rfl rfl ?_)
  intro b2
  refine XL.cons (XOp.box [uv] rfl rfl ?_)
  intro b3
  refine XL.cons (XOp.alloc [(.slice none 0 0), (.slice none 0 0)] Tryz.zeroValue39 rfl ?_)
  intro b4
  refine XL.cons (XOp.assign (.bool (false)) rfl ?_)
  refine XL.nil ?_
  refine X.seq ?_
  refine X.seq ?_
  refine X.region ?_
  refine XL.cons (XOp.loadN [arv, rsv] Tryz.isAgg45 Tryz.sizeOf45 rfl rfl (Rd.ownN [_, _, _] rfl rfl) ?_)
  refine XL.cons (XOp.loadN [fv, xsv] Tryz.isAgg39 Tryz.sizeOf39 rfl rfl (Rd.ownN [_, _] rfl rfl) ?_)
  refine XL.cons (XOp.call (args := [.agg #[arv, rsv], .agg #[fv, xsv]]) Tryz.call27 rfl (WalkOk_spec har hrs hf hxs (hlf := (by first | assumption | rfl | omega | (left; simp; done) | (right; simp; done))) (hsb := (by first | assumption | rfl | omega | (left; simp; done) | (right; simp; done)))) ?_)
  rintro _ _ _ _ ⟨rfl, rfl, rfl⟩
  refine XL.cons (XOp.notB (b := walkOkL ar rs f xs) rfl ?_)
  refine XL.cons (XOp.move (.bool (!(walkOkL ar rs f xs))) rfl ?_)
  by_cases h1 : (!(walkOkL ar rs f xs)) = true
  · refine XL.no (t := 20) rfl (congrArg Value.bool h1) ?_
    refine XL.no (t := 20) rfl (congrArg Value.bool h1) ?_
    refine XL.no (t := 20) rfl (congrArg Value.bool h1) ?_
    refine XL.no (t := 20) rfl (congrArg Value.bool h1) ?_
    refine XL.no (t := 20) rfl (congrArg Value.bool h1) ?_
    refine XL.cons (XOp.pickT (.bool (true)) (congrArg Value.bool h1) rfl ?_)
    refine XL.nil ?_
    refine X.condT rfl ?_
    refine X.seq ?_
    refine X.region ?_
    refine XL.cons (XOp.build [(.slice none 0 0), (.slice none 0 0)] [(.slice none 0 0), (.slice none 0 0)] [(0, 1), (1, 1)] [] Tryz.runUnderlying39 Tryz.zeroValue39 rfl (.cons rfl Tryz.sizeOf22 (.cons rfl Tryz.sizeOf37 PlacesAre.nil)) rfl CellsAre.nil ?_)
    refine XL.cons (XOp.storeN (vs := [(.slice none 0 0), (.slice none 0 0)]) [] _ [(.slice none 0 0), (.slice none 0 0)] Tryz.sizeOf39 rfl rfl rfl (ones_cons rfl (ones_cons rfl ones_nil)) rfl rfl rfl ?_)
    refine XL.cons (XOp.assign (.bool (false)) rfl ?_)
    refine XL.nil ?_
    refine X.ret (thenQ_ret (retEnd (L' := L) [.agg #[(.slice none 0 0), (.slice none 0 0)], .bool (false)] (.tuple #[.agg #[(.slice none 0 0), (.slice none 0 0)], .bool (false)]) (.cell rfl (loadNV [(.slice none 0 0), (.slice none 0 0)] Tryz.isAgg39 Tryz.sizeOf39 rfl (Rd.ownN [] rfl rfl)) (.tmp rfl .nil)) rfl (FLe.refl _) (FLe.refl _) (Sub.drop (Sub.drop (Sub.drop (Sub.drop (Sub.refl _))))) ?_))
    have e : undB ar rs f xs u = ([], [], false) := undB_no (by simp_all)
    exact ⟨_, _, by rw [e], by rw [e]; exact IntsF.nilV, by rw [e]; exact SlOf.nilV, by rw [e]; exact Fresh.empty nilWalk, rfl⟩
  · rw [Bool.not_eq_true] at h1
    have hwk : walkOkL ar rs f xs = true := by simpa using h1
    have hwl := (walkOkL_iff.1 hwk).2.1
    have hfo := (right_iff.1 (walkOkL_iff.1 hwk).1).2
    have hfl := termOk_len hfo
    have hfg := fun k (hk : k < f.length) => termOk_ge hfo hk
    refine XL.yes (t := 20) rfl (congrArg Value.bool h1) (XOp.fieldP (b := b1) (0) Tryz.runUnderlying45 rfl Tryz.sizeOf42 (by decide) rfl rfl ?_)
    refine XL.yes (t := 20) rfl (congrArg Value.bool h1) (XOp.loadN [arv] Tryz.isAgg42 Tryz.sizeOf42 rfl rfl (Rd.ownN [_, _, _] rfl rfl) ?_)
    refine XL.yes (t := 20) rfl (congrArg Value.bool h1) (XOp.loadN [uv] Tryz.isAgg48 Tryz.sizeOf48 rfl rfl (Rd.ownN [_] rfl rfl) ?_)
    refine XL.yes (t := 20) rfl (congrArg Value.bool h1) (XOp.call (args := [.agg #[arv], .agg #[uv]]) Tryz.call46 rfl (SubstOk_spec har hu) ?_)
    rintro _ _ _ _ ⟨rfl, rfl, rfl⟩
    refine XL.yes (t := 20) rfl (congrArg Value.bool h1) (XOp.notB (b := substOk ar u) rfl ?_)
    refine XL.cons (XOp.pickF (.bool (!(substOk ar u))) (congrArg Value.bool h1) rfl ?_)
    refine XL.nil ?_
    refine X.cond (t := !(substOk ar u)) rfl (fun h2 => ?_) (fun h2 => ?_)
    · refine X.seq ?_
      refine X.region ?_
      refine XL.cons (XOp.build [(.slice none 0 0), (.slice none 0 0)] [(.slice none 0 0), (.slice none 0 0)] [(0, 1), (1, 1)] [] Tryz.runUnderlying39 Tryz.zeroValue39 rfl (.cons rfl Tryz.sizeOf22 (.cons rfl Tryz.sizeOf37 PlacesAre.nil)) rfl CellsAre.nil ?_)
      refine XL.cons (XOp.storeN (vs := [(.slice none 0 0), (.slice none 0 0)]) [] _ [(.slice none 0 0), (.slice none 0 0)] Tryz.sizeOf39 rfl rfl rfl (ones_cons rfl (ones_cons rfl ones_nil)) rfl rfl rfl ?_)
      refine XL.cons (XOp.assign (.bool (false)) rfl ?_)
      refine XL.nil ?_
      refine X.ret (thenQ_ret (retEnd (L' := L) [.agg #[(.slice none 0 0), (.slice none 0 0)], .bool (false)] (.tuple #[.agg #[(.slice none 0 0), (.slice none 0 0)], .bool (false)]) (.cell rfl (loadNV [(.slice none 0 0), (.slice none 0 0)] Tryz.isAgg39 Tryz.sizeOf39 rfl (Rd.ownN [] rfl rfl)) (.tmp rfl .nil)) rfl (FLe.refl _) (FLe.refl _) (Sub.drop (Sub.drop (Sub.drop (Sub.drop (Sub.refl _))))) ?_))
      have e : undB ar rs f xs u = ([], [], false) := undB_no (by simp_all)
      exact ⟨_, _, by rw [e], by rw [e]; exact IntsF.nilV, by rw [e]; exact SlOf.nilV, by rw [e]; exact Fresh.empty nilWalk, rfl⟩
    · have hsk : substOk ar u = true := by simpa using h2
      have hsk2 := substOk_len hsk
      have hsk3 := (substOk_iff.1 hsk).2.1
      refine X.skip ?_
      refine X.seq ?_
      refine X.region ?_
      refine XL.cons (XOp.loadN [uv] Tryz.isAgg48 Tryz.sizeOf48 rfl rfl (Rd.ownN [_] rfl rfl) ?_)
      refine XL.cons (XOp.fieldP (b := b2) (0) Tryz.runUnderlying39 rfl Tryz.sizeOf22 (by decide) rfl rfl ?_)
      refine XL.cons (XOp.load1 (v := fv) Tryz.isAgg22 rfl (Rd.own [_, _] rfl rfl) ?_)
      refine XL.cons (XOp.call (args := [.agg #[uv], fv]) Tryz.call47 rfl (fill_spec hu hf (hsl := (by first | assumption | rfl | omega | (left; simp; done) | (right; simp; done))) (hsb := (fun i => by have := hsk2 i; omega)) (htl := (by first | omega | (have := htk (by omega); omega))) (htg := (by first | (exact fun k hk => by have := hfg k hk; omega) | (exact fun j hj => by have := termOk_ge (hto (by omega)) hj; omega)))) ?_)
      rintro _ F1 _ le1 ⟨x1, rfl, hr1, hr2, rfl⟩
      replace har := har.mono le1
      replace hrs := hrs.mono le1
      replace hf := hf.mono le1
      replace hxs := hxs.mono le1
      replace hu := hu.mono le1
      refine XL.cons (XOp.move (.tuple #[x1, .bool ((fillL u f).isSome)]) rfl ?_)
      refine XL.cons (XOp.extract (x1) rfl rfl ?_)
      refine XL.cons (XOp.extract (.bool ((fillL u f).isSome)) rfl rfl ?_)
      refine XL.cons (XOp.assign (x1) rfl ?_)
      refine XL.cons (XOp.assign (.bool ((fillL u f).isSome)) rfl ?_)
      refine XL.nil ?_
      refine X.seq ?_
      refine X.seq ?_
      refine X.region ?_
      refine XL.cons (XOp.move (.bool ((fillL u f).isSome)) rfl ?_)
      refine XL.cons (XOp.notB (b := (fillL u f).isSome) rfl ?_)
      refine XL.nil ?_
      refine X.cond (t := !((fillL u f).isSome)) rfl (fun h3 => ?_) (fun h3 => ?_)
      · have hpf1 : (fillL u f).isSome = false := by simpa using h3
        refine X.seq ?_
        refine X.region ?_
        refine XL.cons (XOp.build [(.slice none 0 0), (.slice none 0 0)] [(.slice none 0 0), (.slice none 0 0)] [(0, 1), (1, 1)] [] Tryz.runUnderlying39 Tryz.zeroValue39 rfl (.cons rfl Tryz.sizeOf22 (.cons rfl Tryz.sizeOf37 PlacesAre.nil)) rfl CellsAre.nil ?_)
        refine XL.cons (XOp.storeN (vs := [(.slice none 0 0), (.slice none 0 0)]) [] _ [(.slice none 0 0), (.slice none 0 0)] Tryz.sizeOf39 rfl rfl rfl (ones_cons rfl (ones_cons rfl ones_nil)) rfl rfl rfl ?_)
        refine XL.cons (XOp.assign (.bool (false)) rfl ?_)
        refine XL.nil ?_
        refine X.ret (thenQ_ret (retEnd (L' := L) [.agg #[(.slice none 0 0), (.slice none 0 0)], .bool (false)] (.tuple #[.agg #[(.slice none 0 0), (.slice none 0 0)], .bool (false)]) (.cell rfl (loadNV [(.slice none 0 0), (.slice none 0 0)] Tryz.isAgg39 Tryz.sizeOf39 rfl (Rd.ownN [] rfl rfl)) (.tmp rfl .nil)) rfl le1 (FLe.refl _) (Sub.drop (Sub.drop (Sub.drop (Sub.drop (Sub.refl _))))) ?_))
        have e : undB ar rs f xs u = ([], [], false) := undB_from hpf1
        exact ⟨_, _, by rw [e], by rw [e]; exact IntsF.nilV, by rw [e]; exact SlOf.nilV, by rw [e]; exact Fresh.empty nilWalk, rfl⟩
      · have hpf1 : (fillL u f).isSome = true := by simpa using h3
        refine X.skip ?_
        refine X.seq ?_
        refine X.region ?_
        refine XL.cons (XOp.move (x1) rfl ?_)
        refine XL.cons (XOp.build [x1, (.slice none 0 0)] [(.slice none 0 0), (.slice none 0 0)] [(0, 1), (1, 1)] [(0, [x1])] Tryz.runUnderlying39 Tryz.zeroValue39 rfl (.cons rfl Tryz.sizeOf22 (.cons rfl Tryz.sizeOf37 PlacesAre.nil)) rfl (.cons (cells_one (IntsF.isSl hr1)) CellsAre.nil) ?_)
        refine XL.cons (XOp.alloc [(.slice none 0 0), (.slice none 0 0)] Tryz.zeroValue39 rfl ?_)
        intro b5
        refine XL.cons (XOp.storeN (vs := [x1, (.slice none 0 0)]) [] _ [x1, (.slice none 0 0)] Tryz.sizeOf39 rfl rfl rfl (ones_cons (one_sl (IntsF.isSl hr1)) (ones_cons rfl ones_nil)) rfl rfl rfl ?_)
        refine XL.nil ?_
        refine X.seq ?_
        refine X.region ?_
        refine XL.cons (XOp.fieldP (b := b2) (0) Tryz.runUnderlying39 rfl Tryz.sizeOf22 (by decide) rfl rfl ?_)
        refine XL.cons (XOp.load1 (v := fv) Tryz.isAgg22 rfl (Rd.own [_, _, _] rfl rfl) ?_)
        refine XL.cons (XOp.assign (fv) rfl ?_)
        refine XL.nil ?_
        refine X.seq ?_
        refine X.seq ?_
        refine X.region ?_
        refine XL.cons (XOp.fieldP (b := b2) (1) Tryz.runUnderlying39 rfl Tryz.sizeOf37 (by decide) rfl rfl ?_)
        refine XL.cons (XOp.load1 (v := xsv) Tryz.isAgg37 rfl (Rd.own [_, _, _] rfl rfl) ?_)
        refine XL.cons (XOp.lenS (v := xsv) (n := (xs).length) Tryz.runUnderlying37 rfl hxs.slv ?_)
        refine XL.cons (XOp.move (.int .i64 (0)) rfl ?_)
        refine XL.nil ?_
        refine X.block ?_
        refine X.loop (α := Nat × Value × List Int × Value × List StepT × List Value × List HP × Nat × FH) (fun xQ => [(5, ptr b3 0), (6, ptr b4 0), (10, ptr b5 0), (11, xQ.2.1), (43, xsv), (44, .int .i64 ((((xs).length : Nat) : Int))), (45, .int .i64 (((xQ.1 : Nat) : Int)))]) (fun xQ => slH 78 3 xQ.2.2.2.1 xQ.2.2.2.2.2.2.2.1 xQ.2.2.2.2.2.1 :: cellsH b5 [x1, xQ.2.2.2.1] 39 :: cellsH b4 [(.slice none 0 0), (.slice none 0 0)] 39 :: cellsH b3 [uv] 48 :: cellsH b2 [fv, xsv] 39 :: cellsH b1 [arv, rsv] 45 :: L) (fun xQ F' => xQ.2.2.2.2.2.2.2.2 = F' ∧ F1 ≤ xQ.2.2.2.2.2.2.2.2 ∧ (IntsF xQ.2.2.2.2.2.2.2.2 xQ.2.1 xQ.2.2.1) ∧ (xQ.1 ≤ xs.length) ∧ (xQ.2.2.1 = nowL f xs xQ.1) ∧ (IsSl xQ.2.2.2.1) ∧ (StepsC xQ.2.2.2.2.2.2.2.2 xQ.2.2.2.2.2.1 xQ.2.2.2.2.1) ∧ (xQ.2.2.2.2.2.2.2.1 = xQ.2.2.2.2.1.length) ∧ (DeepL 3 (StepO 2) xQ.2.2.2.2.2.1 xQ.2.2.2.2.1 xQ.2.2.2.2.2.2.1) ∧ (Fresh F1 xQ.2.2.2.2.2.2.2.2 (star xQ.2.2.2.2.2.2.1)) ∧ (undGo u f xs = (undGo u xQ.2.2.1 (xs.drop xQ.1)).map (fun r => xQ.2.2.2.2.1 ++ r)) ∧ (xQ.2.2.2.2.2.2.2.1 = xQ.1)) (fun xQ => xs.length - xQ.1) (0, fv, f, (.slice none 0 0), [], [], [], 0, F1) ⟨rfl, rfl, rfl, rfl, rfl, rfl, rfl, trivial⟩ (Sub.trans (Sub.addNil 78 3 _ _) (Sub.cons (Sub.cons (Sub.cons (Sub.cons (Sub.cons (Sub.cons (Sub.refl _)))))))) ⟨rfl, FLe.refl _, (hf), (by (try dsimp only) <;> omega), (nowL_zero.symm), (⟨_, _, _, rfl⟩), (CO.nil), (rfl), (DeepL.nil), (Fresh.nilL), (undGo_start), (rfl)⟩ ?_
        rintro ⟨k, cv, cur, sv, ss, cs, Ls, m, G1⟩ rE _ _ ⟨rfl, leG, hcv, hk, hnow, hsv, hC, hm, hD, hZ, hgo, hmk⟩
        show X _ _ _ _ (envs [(5, ptr b3 0), (6, ptr b4 0), (10, ptr b5 0), (11, cv), (43, xsv), (44, .int .i64 ((((xs).length : Nat) : Int))), (45, .int .i64 (((k : Nat) : Int)))] rE) _ (slH 78 3 sv m cs :: cellsH b5 [x1, sv] 39 :: cellsH b4 [(.slice none 0 0), (.slice none 0 0)] 39 :: cellsH b3 [uv] 48 :: cellsH b2 [fv, xsv] 39 :: cellsH b1 [arv, rsv] 45 :: L)
        replace leG : F1 ≤ G1 := leG
        dsimp only at hcv hk hnow hsv hC hm hD hZ hgo hmk
        have hak := fun (h : k < xs.length) => walkOk_at2 hwk h hnow
        have hto := fun (h : k < xs.length) => walkOk_to hwk h
        have htk := fun (h : k < xs.length) => termOk_len (walkOk_to hwk h)
        have hno := now_ok hwk hk hnow
        have hnl := termOk_len hno
        have leG1 := leG
        replace har := har.mono leG1
        replace hrs := hrs.mono leG1
        replace hf := hf.mono leG1
        replace hxs := hxs.mono leG1
        replace hu := hu.mono leG1
        replace hr1 := hr1.mono leG1
        refine X.seq ?_
        refine X.region ?_
        refine XL.cons (XOp.lss (a := ((k : Nat) : Int)) (b := (((xs).length : Nat) : Int)) rfl rfl ?_)
        refine XL.nil ?_
        refine X.seq ?_
        refine X.condD (p := (((k : Nat) : Int) : Int) < (((xs).length : Nat) : Int)) rfl (fun h4 => ?_) (fun h4 => ?_)
        · refine X.skip ?_
          refine X.seq ?_
          refine X.block ?_
          refine X.seq ?_
          refine X.region ?_
          refine XL.cons (XOp.indexS (v := xsv) (i := ((k : Nat) : Int)) (n := (xs).length) k Tryz.runUnderlying37 Tryz.sizeOf78 rfl rfl rfl hxs.slv (by omega) rfl ?_)
          obtain ⟨a1, ha1, hr3, hr4, hr5⟩ := hxs.rd (i := k) (by omega)
          refine XL.cons (XOp.loadN [.int .i64 ((xs.getD k (0, 0, [])).1), .int .i64 ((xs.getD k (0, 0, [])).2.1), a1] Tryz.isAgg78 Tryz.sizeOf78 rfl rfl (Rd.three (hr3 _) (hr4 _) (hr5 _)) ?_)
          refine XL.cons (XOp.alloc [.int .i64 (0), .int .i64 (0), (.slice none 0 0)] Tryz.zeroValue78 rfl ?_)
          intro b6
          refine XL.cons (XOp.storeN (vs := [.int .i64 ((xs.getD k (0, 0, [])).1), .int .i64 ((xs.getD k (0, 0, [])).2.1), a1]) [] _ [.int .i64 ((xs.getD k (0, 0, [])).1), .int .i64 ((xs.getD k (0, 0, [])).2.1), a1] Tryz.sizeOf78 rfl rfl rfl (ones_cons rfl (ones_cons rfl (ones_cons (one_sl (IntsF.isSl ha1)) ones_nil))) rfl rfl rfl ?_)
          refine XL.nil ?_
          refine X.seq ?_
          refine X.region ?_
          refine XL.cons (XOp.loadN [uv] Tryz.isAgg48 Tryz.sizeOf48 rfl rfl (Rd.ownN [_, _, _, _] rfl rfl) ?_)
          refine XL.cons (XOp.fieldP (b := b6) (2) Tryz.runUnderlying78 rfl Tryz.sizeOf22 (by decide) rfl rfl ?_)
          refine XL.cons (XOp.load1 (v := a1) Tryz.isAgg22 rfl (Rd.own [] rfl rfl) ?_)
          refine XL.cons (XOp.call (args := [.agg #[uv], a1]) Tryz.call47 rfl (fill_spec hu ha1 (hsl := (by first | assumption | rfl | omega | (left; simp; done) | (right; simp; done))) (hsb := (fun i => by have := hsk2 i; omega)) (htl := (by first | omega | (have := htk (by omega); omega))) (htg := (by first | (exact fun k hk => by have := hfg k hk; omega) | (exact fun j hj => by have := termOk_ge (hto (by omega)) hj; omega)))) ?_)
          rintro _ F2 _ le2 ⟨x2, rfl, hr6, hr7, rfl⟩
          replace har := har.mono le2
          replace hrs := hrs.mono le2
          replace hf := hf.mono le2
          replace hxs := hxs.mono le2
          replace hu := hu.mono le2
          replace hr1 := hr1.mono le2
          replace hcv := hcv.mono le2
          replace hC := hC.mono le2
          replace ha1 := ha1.mono le2
          replace hr3 := Rd.monoA hr3 le2
          replace hr4 := Rd.monoA hr4 le2
          replace hr5 := Rd.monoA hr5 le2
          refine XL.cons (XOp.move (.tuple #[x2, .bool ((fillL u ((xs.getD k (0, 0, [])).2.2)).isSome)]) rfl ?_)
          refine XL.cons (XOp.extract (x2) rfl rfl ?_)
          refine XL.cons (XOp.extract (.bool ((fillL u ((xs.getD k (0, 0, [])).2.2)).isSome)) rfl rfl ?_)
          refine XL.cons (XOp.assign (x2) rfl ?_)
          refine XL.cons (XOp.assign (.bool ((fillL u ((xs.getD k (0, 0, [])).2.2)).isSome)) rfl ?_)
          refine XL.nil ?_
          refine X.seq ?_
          refine X.seq ?_
          refine X.region ?_
          refine XL.cons (XOp.move (.bool ((fillL u ((xs.getD k (0, 0, [])).2.2)).isSome)) rfl ?_)
          refine XL.cons (XOp.notB (b := (fillL u ((xs.getD k (0, 0, [])).2.2)).isSome) rfl ?_)
          refine XL.nil ?_
          refine X.cond (t := !((fillL u ((xs.getD k (0, 0, [])).2.2)).isSome)) rfl (fun h5 => ?_) (fun h5 => ?_)
          · have hpu1 : (fillL u (xs.getD k (0, 0, [])).2.2).isSome = false := by simpa using h5
            refine X.seq ?_
            refine X.region ?_
            refine XL.cons (XOp.build [(.slice none 0 0), (.slice none 0 0)] [(.slice none 0 0), (.slice none 0 0)] [(0, 1), (1, 1)] [] Tryz.runUnderlying39 Tryz.zeroValue39 rfl (.cons rfl Tryz.sizeOf22 (.cons rfl Tryz.sizeOf37 PlacesAre.nil)) rfl CellsAre.nil ?_)
            refine XL.cons (XOp.storeN (vs := [(.slice none 0 0), (.slice none 0 0)]) [_, _, _] _ [(.slice none 0 0), (.slice none 0 0)] Tryz.sizeOf39 rfl rfl rfl (ones_cons rfl (ones_cons rfl ones_nil)) rfl rfl rfl ?_)
            refine XL.cons (XOp.assign (.bool (false)) rfl ?_)
            refine XL.nil ?_
            refine X.ret (thenQ_ret (blockQ_ret (thenQ_ret (thenQ_ret (blockQ_ret (thenQ_ret (retEnd (L' := L) [.agg #[(.slice none 0 0), (.slice none 0 0)], .bool (false)] (.tuple #[.agg #[(.slice none 0 0), (.slice none 0 0)], .bool (false)]) (.cell rfl (loadNV [(.slice none 0 0), (.slice none 0 0)] Tryz.isAgg39 Tryz.sizeOf39 rfl (Rd.ownN [_, _, _] rfl rfl)) (.tmp rfl .nil)) rfl (FLe.trans (FLe.trans le1 leG1) le2) (FLe.refl _) (Sub.drop (Sub.drop (Sub.drop (Sub.drop (Sub.drop (Sub.drop (Sub.drop (Sub.refl _)))))))) ?_)))))))
            have e : undB ar rs f xs u = ([], [], false) := undB_steps (undGo_fail (by omega) hgo hpu1)
            exact ⟨_, _, by rw [e], by rw [e]; exact IntsF.nilV, by rw [e]; exact SlOf.nilV, by rw [e]; exact Fresh.empty nilWalk, rfl⟩
          · have hpu1 : (fillL u (xs.getD k (0, 0, [])).2.2).isSome = true := by simpa using h5
            refine X.skip ?_
            refine X.seq ?_
            refine X.draw [cellsH b6 [.int .i64 ((xs.getD k (0, 0, [])).1), .int .i64 ((xs.getD k (0, 0, [])).2.1), a1] 78, slH 78 3 sv m cs, cellsH b5 [x1, sv] 39, cellsH b4 [(.slice none 0 0), (.slice none 0 0)] 39, cellsH b3 [uv] 48, cellsH b2 [fv, xsv] 39, cellsH b1 [arv, rsv] 45] L 12 [[], [], [], [], [], [], [], [], [], [], [], []] [[], [0], [], [], [], [4], [2, 3, 5], [], [7], [], [6, 8, 9], [10]] (phiL [fun us v => v = ptr b5 1, fun us v => v = sv, fun us v => v = (.agg #[uv] : Value), fun us v => v = cv, fun us v => v = ptr b6 0, fun us v => v = (.int .i64 ((xs.getD k (0, 0, [])).1) : Value), fun us v => v = (.int .i64 (((movedL u cur (((xs.getD k (0, 0, [])).1).toNat) : Nat) : Int)) : Value), fun us v => v = ptr b6 1, fun us v => v = (.int .i64 ((xs.getD k (0, 0, [])).2.1) : Value), fun us v => v = x2, fun us v => v = (.agg #[.int .i64 (((movedL u cur (((xs.getD k (0, 0, [])).1).toNat) : Nat) : Int)), .int .i64 ((xs.getD k (0, 0, [])).2.1), x2] : Value), fun us v => ∃ b, v = .slice (some ⟨b, 0, none⟩) 1 1]) (ownL [fun us v => [], fun us v => [], fun us v => [], fun us v => [], fun us v => [], fun us v => [], fun us v => [], fun us v => [], fun us v => [], fun us v => [], fun us v => [], fun us v => [slH 78 3 v 1 [.int .i64 (((movedL u cur (((xs.getD k (0, 0, [])).1).toNat) : Nat) : Int)), .int .i64 ((xs.getD k (0, 0, [])).2.1), x2]]]) mixed rfl rfl (by kernel_rfl) ?_ ?_
            · refine stepsP.cons (fun vals R hpZ => ?_) ?_
              · refine XG.op (XOp.fieldP (b := b5) (1) Tryz.runUnderlying39 rfl Tryz.sizeOf37 (by decide) rfl rfl ?_)
                exact ⟨rfl, rfl, rfl⟩
              refine stepsP.cons (fun vals R hpZ => ?_) ?_
              · rw [(envs_of_sat (l := [(0, ptr b5 1)]) ⟨hpZ 0 (by decide), trivial⟩).symm]
                refine XG.op (XOp.load1 (v := sv) Tryz.isAgg37 rfl (Rd.own [_, _] rfl rfl) ?_)
                exact ⟨rfl, rfl, rfl⟩
              refine stepsP.cons (fun vals R hpZ => ?_) ?_
              · refine XG.op (XOp.loadN [uv] Tryz.isAgg48 Tryz.sizeOf48 rfl rfl (Rd.ownN [_, _, _, _] rfl rfl) ?_)
                exact ⟨rfl, rfl, rfl⟩
              refine stepsP.cons (fun vals R hpZ => ?_) ?_
              · refine XG.op (XOp.move (cv) rfl ?_)
                exact ⟨rfl, rfl, rfl⟩
              refine stepsP.cons (fun vals R hpZ => ?_) ?_
              · refine XG.op (XOp.fieldP (b := b6) (0) Tryz.runUnderlying78 rfl Tryz.sizeOf2 (by decide) rfl rfl ?_)
                exact ⟨rfl, rfl, rfl⟩
              refine stepsP.cons (fun vals R hpZ => ?_) ?_
              · rw [(envs_of_sat (l := [(4, ptr b6 0)]) ⟨hpZ 4 (by decide), trivial⟩).symm]
                refine XG.op (XOp.load1 (v := .int .i64 ((xs.getD k (0, 0, [])).1)) Tryz.isAgg2 rfl (Rd.own [] rfl rfl) ?_)
                exact ⟨rfl, rfl, rfl⟩
              refine stepsP.cons (fun vals R hpZ => ?_) ?_
              · rw [(envs_of_sat (l := [(2, (.agg #[uv] : Value)), (3, cv), (5, (.int .i64 ((xs.getD k (0, 0, [])).1) : Value))]) ⟨hpZ 2 (by decide), hpZ 3 (by decide), hpZ 5 (by decide), trivial⟩).symm]
                refine XG.op (XOp.call (args := [.agg #[uv], cv, .int .i64 ((((xs.getD k (0, 0, [])).1).toNat : Nat) : Int)]) Tryz.call48 (by rw [show ((((xs.getD k (0, 0, [])).1).toNat : Nat) : Int) = (xs.getD k (0, 0, [])).1 from by omega]; rfl) (placeUnder_spec (p := ((xs.getD k (0, 0, [])).1).toNat) hu hcv (hp := (by have := hak (by omega); omega)) (hsl := (by first | assumption | rfl | omega | (left; simp; done) | (right; simp; done))) (hsb := (hsk2)) (htl := (by first | assumption | rfl | omega | (left; simp; done) | (right; simp; done))) (htg := (fun k hk => termOk_ge hno hk))) ?_)
                rintro _ _ _ _ ⟨rfl, rfl, rfl⟩
                exact ⟨rfl, rfl, rfl⟩
              refine stepsP.cons (fun vals R hpZ => ?_) ?_
              · refine XG.op (XOp.fieldP (b := b6) (1) Tryz.runUnderlying78 rfl Tryz.sizeOf2 (by decide) rfl rfl ?_)
                exact ⟨rfl, rfl, rfl⟩
              refine stepsP.cons (fun vals R hpZ => ?_) ?_
              · rw [(envs_of_sat (l := [(7, ptr b6 1)]) ⟨hpZ 7 (by decide), trivial⟩).symm]
                refine XG.op (XOp.load1 (v := .int .i64 ((xs.getD k (0, 0, [])).2.1)) Tryz.isAgg2 rfl (Rd.own [] rfl rfl) ?_)
                exact ⟨rfl, rfl, rfl⟩
              refine stepsP.cons (fun vals R hpZ => ?_) ?_
              · refine XG.op (XOp.move (x2) rfl ?_)
                exact ⟨rfl, rfl, rfl⟩
              refine stepsP.cons (fun vals R hpZ => ?_) ?_
              · rw [(envs_of_sat (l := [(6, (.int .i64 (((movedL u cur (((xs.getD k (0, 0, [])).1).toNat) : Nat) : Int)) : Value)), (8, (.int .i64 ((xs.getD k (0, 0, [])).2.1) : Value)), (9, x2)]) ⟨hpZ 6 (by decide), hpZ 8 (by decide), hpZ 9 (by decide), trivial⟩).symm]
                refine XG.op (XOp.build [.int .i64 (((movedL u cur (((xs.getD k (0, 0, [])).1).toNat) : Nat) : Int)), .int .i64 ((xs.getD k (0, 0, [])).2.1), x2] [.int .i64 (0), .int .i64 (0), (.slice none 0 0)] [(0, 1), (1, 1), (2, 1)] [(0, [.int .i64 (((movedL u cur (((xs.getD k (0, 0, [])).1).toNat) : Nat) : Int))]), (1, [.int .i64 ((xs.getD k (0, 0, [])).2.1)]), (2, [x2])] Tryz.runUnderlying78 Tryz.zeroValue78 rfl (.cons rfl Tryz.sizeOf2 (.cons rfl Tryz.sizeOf2 (.cons rfl Tryz.sizeOf22 PlacesAre.nil))) rfl (.cons rfl (.cons rfl (.cons (cells_one (IntsF.isSl hr6)) CellsAre.nil))) ?_)
                exact ⟨rfl, rfl, rfl⟩
              refine stepsP.cons (fun vals R hpZ => ?_) ?_
              · rw [(envs_of_sat (l := [(10, (.agg #[.int .i64 (((movedL u cur (((xs.getD k (0, 0, [])).1).toNat) : Nat) : Int)), .int .i64 ((xs.getD k (0, 0, [])).2.1), x2] : Value))]) ⟨hpZ 10 (by decide), trivial⟩).symm]
                refine XG.op (XOp.buildSlice (s := 3) [.int .i64 (((movedL u cur (((xs.getD k (0, 0, [])).1).toNat) : Nat) : Int)), .int .i64 ((xs.getD k (0, 0, [])).2.1), x2] [.int .i64 (0), .int .i64 (0), (.slice none 0 0)] [(0, [.int .i64 (((movedL u cur (((xs.getD k (0, 0, [])).1).toNat) : Nat) : Int)), .int .i64 ((xs.getD k (0, 0, [])).2.1), x2])] Tryz.runUnderlying37 Tryz.sizeOf78 Tryz.zeroValue78 rfl (by decide) rfl (.cons rfl CellsAre.nil) rfl ?_)
                intro v2 hv2
                exact ⟨rfl, hv2, rfl⟩
              exact stepsP.nil
            · intro vals hphi
              have e0 : vals 0 = ptr b5 1 := hphi 0 (by decide)
              have e1 : vals 1 = sv := hphi 1 (by decide)
              have e2 : vals 2 = (.agg #[uv] : Value) := hphi 2 (by decide)
              have e3 : vals 3 = cv := hphi 3 (by decide)
              have e4 : vals 4 = ptr b6 0 := hphi 4 (by decide)
              have e5 : vals 5 = (.int .i64 ((xs.getD k (0, 0, [])).1) : Value) := hphi 5 (by decide)
              have e6 : vals 6 = (.int .i64 (((movedL u cur (((xs.getD k (0, 0, [])).1).toNat) : Nat) : Int)) : Value) := hphi 6 (by decide)
              have e7 : vals 7 = ptr b6 1 := hphi 7 (by decide)
              have e8 : vals 8 = (.int .i64 ((xs.getD k (0, 0, [])).2.1) : Value) := hphi 8 (by decide)
              have e9 : vals 9 = x2 := hphi 9 (by decide)
              have e10 : vals 10 = (.agg #[.int .i64 (((movedL u cur (((xs.getD k (0, 0, [])).1).toNat) : Nat) : Int)), .int .i64 ((xs.getD k (0, 0, [])).2.1), x2] : Value) := hphi 10 (by decide)
              have f11 : ∃ b, (vals 11) = .slice (some ⟨b, 0, none⟩) 1 1 := hphi 11 (by decide)
              generalize hu11 : vals 11 = u1 at f11
              rw [(envs_of_sat (l := [(0, ptr b5 1), (1, sv), (2, (.agg #[uv] : Value)), (3, cv), (4, ptr b6 0), (5, (.int .i64 ((xs.getD k (0, 0, [])).1) : Value)), (6, (.int .i64 (((movedL u cur (((xs.getD k (0, 0, [])).1).toNat) : Nat) : Int)) : Value)), (7, ptr b6 1), (8, (.int .i64 ((xs.getD k (0, 0, [])).2.1) : Value)), (9, x2), (10, (.agg #[.int .i64 (((movedL u cur (((xs.getD k (0, 0, [])).1).toNat) : Nat) : Int)), .int .i64 ((xs.getD k (0, 0, [])).2.1), x2] : Value)), (11, u1)]) ⟨e0, e1, e2, e3, e4, e5, e6, e7, e8, e9, e10, hu11, trivial⟩).symm]
              show XL _ _ _ _ _ _ _ (slH 78 3 u1 1 [.int .i64 (((movedL u cur (((xs.getD k (0, 0, [])).1).toNat) : Nat) : Int)), .int .i64 ((xs.getD k (0, 0, [])).2.1), x2] :: cellsH b6 [.int .i64 ((xs.getD k (0, 0, [])).1), .int .i64 ((xs.getD k (0, 0, [])).2.1), a1] 78 :: slH 78 3 sv m cs :: cellsH b5 [x1, sv] 39 :: cellsH b4 [(.slice none 0 0), (.slice none 0 0)] 39 :: cellsH b3 [uv] 48 :: cellsH b2 [fv, xsv] 39 :: cellsH b1 [arv, rsv] 45 :: L)
              refine XL.cons (XOp.append (m := 1) (bytes := 40) (cs := cs) [_, _] _ [.int .i64 (((movedL u cur (((xs.getD k (0, 0, [])).1).toNat) : Nat) : Int)), .int .i64 ((xs.getD k (0, 0, [])).2.1), x2] Tryz.runUnderlying37 Tryz.typeInfo78 rfl rfl rfl rfl rfl rfl rfl (SlV.own [] rfl) rfl (Rd.lit [] rfl) (ones_cons rfl (ones_cons rfl (ones_cons (one_sl (IntsF.isSl hr6)) ones_nil))) (by (try simp only [List.length_append, List.length_nil, List.length_cons, List.length_singleton]); omega) (by (try simp only [List.length_append, List.length_nil, List.length_cons, List.length_singleton]); omega) ?_)
              intro v3 hs1 hn1 hm1
              have hc1 := StepsC.snoc hC (i := ((movedL u cur (((xs.getD k (0, 0, [])).1).toNat) : Nat) : Int)) (j := (xs.getD k (0, 0, [])).2.1) hr6
              refine XL.cons (XOp.fieldP (b := b5) (1) Tryz.runUnderlying39 rfl Tryz.sizeOf37 (by decide) rfl rfl ?_)
              refine XL.cons (XOp.store1 (v := v3) [_, _, _] _ [x1, v3] Tryz.sizeOf37 rfl rfl (one_sl hs1) rfl rfl rfl ?_)
              refine XL.nil ?_
              refine X.region ?_
              refine XL.cons (XOp.fieldP (b := b6) (2) Tryz.runUnderlying78 rfl Tryz.sizeOf22 (by decide) rfl rfl ?_)
              refine XL.cons (XOp.load1 (v := a1) Tryz.isAgg22 rfl (Rd.own [_] rfl rfl) ?_)
              refine XL.cons (XOp.assign (a1) rfl ?_)
              refine XL.nil ?_
              refine X.region ?_
              refine XL.cons (XOp.addR (a := ((k : Nat) : Int)) (b := 1) (((k + 1 : Nat) : Int)) rfl rfl (by omega) (by omega) ?_)
              refine XL.cons (XOp.move (.int .i64 (((k + 1 : Nat) : Int))) rfl ?_)
              refine XL.nil ?_
              exact ⟨(k + 1, a1, (xs.getD k (0, 0, [])).2.2, v3, ss ++ [(((movedL u cur (((xs.getD k (0, 0, [])).1).toNat) : Nat) : Int), (xs.getD k (0, 0, [])).2.1, (fillL u ((xs.getD k (0, 0, [])).2.2)).getD [])], cs ++ [.int .i64 (((movedL u cur (((xs.getD k (0, 0, [])).1).toNat) : Nat) : Int)), .int .i64 ((xs.getD k (0, 0, [])).2.1), x2], Ls ++ [intsH 2 x2 ((fillL u ((xs.getD k (0, 0, [])).2.2)).getD [])], (m) + 1, F2), _, (FLe.trans leG1 le2), (FLe.refl _), ⟨rfl, rfl, rfl, rfl, rfl, rfl, rfl, trivial⟩, (Sub.drop (Sub.drop (Sub.cons (Sub.cons (Sub.cons (Sub.cons (Sub.cons (Sub.cons (Sub.refl _))))))))), ⟨rfl, (FLe.trans leG1 le2), (ha1), (by (try dsimp only) <;> omega), (by (try dsimp only); exact (nowL_succ (by omega)).symm), (hs1), (hc1), (by (try dsimp only); rw [List.length_append]; simp only [List.length_singleton]; omega), (DeepL.snoc hD rfl ⟨_, rfl, rfl⟩), ((Fresh.app hZ leG1 (Fresh.one hr7) le2)), (by (try dsimp only); exact undGo_next (by omega) hgo hpu1), (by (try dsimp only) <;> omega)⟩, (by omega)⟩
        · refine X.exit (thenQ_exit (thenQ_exit (blockQ_exit ?_)))
          refine X.seq ?_
          refine X.region ?_
          refine XL.cons (XOp.loadN [x1, sv] Tryz.isAgg39 Tryz.sizeOf39 rfl rfl (Rd.ownN [_] rfl rfl) ?_)
          refine XL.cons (XOp.storeN (vs := [x1, sv]) [_, _] _ [x1, sv] Tryz.sizeOf39 rfl rfl rfl (ones_cons (one_sl (IntsF.isSl hr1)) (ones_cons (one_sl hsv) ones_nil)) rfl rfl rfl ?_)
          refine XL.cons (XOp.assign (.bool (true)) rfl ?_)
          refine XL.nil ?_
          refine X.freezeF [] _ _ rfl (fun F3 le3 hz1 => ?_)
          replace har := har.mono le3
          replace hrs := hrs.mono le3
          replace hf := hf.mono le3
          replace hxs := hxs.mono le3
          replace hu := hu.mono le3
          replace hr1 := hr1.mono le3
          replace hcv := hcv.mono le3
          replace hC := hC.mono le3
          have hf1 : StepsF F3 sv ss := CO.fz hC (by first | rfl | simp | omega) hz1.fz
          refine X.ret (retEnd (L' := L) [.agg #[x1, sv], .bool (true)] (.tuple #[.agg #[x1, sv], .bool (true)]) (.cell rfl (loadNV [x1, sv] Tryz.isAgg39 Tryz.sizeOf39 rfl (Rd.ownN [_] rfl rfl)) (.tmp rfl .nil)) rfl (FLe.trans (FLe.trans le1 leG1) le3) (FLe.refl _) (Sub.drop (Sub.drop (Sub.drop (Sub.drop (Sub.drop (Sub.refl _)))))) ?_)
          have e := undB_yes hwk hsk hpf1 (undGo_end (by omega) hgo)
          exact ⟨_, _, by rw [e], by rw [e]; exact hr1, by rw [e]; exact hf1, by rw [e]; exact (Fresh.app (Fresh.one hr2) le1 (Fresh.one (Fresh.deep hD hZ leG1 hz1 (by omega) le3)) (FLe.trans leG1 le3)), rfl⟩

/- spec.l7Moved -/
theorem l7Moved_spec {F : FH} {L : List HP} {sv : Value} {s : List (List Int)} (hs : RowsF F sv s) {tv : Value} {t : List Int} (ht : IntsF F tv t) {p : Nat} (hp : p ≤ t.length) (hsl : s.length ≤ 4000000) (hsb : ∀ i, (s.getD i []).length ≤ 60) (htl : t.length ≤ 60) (htg : ∀ k, k < t.length → -24 ≤ t.getD k 0) :
    Does Tryz.prog 40 [.agg #[sv], tv, .int .i64 (((p : Nat) : Int))] F (L) (fun v F' L' => (.int .i64 (((movedL s t p : Nat) : Int)) : Value) = v ∧ F = F' ∧ L = L') := by
  refine Does.of_X Tryz.func40 rfl rfl rfl ?_
  refine X.seq ?_
  refine X.region ?_
  refine XL.cons (XOp.box [sv] rfl rfl ?_)
  intro b1
  refine XL.cons (XOp.assign (.int .i64 (0)) rfl ?_)
  refine XL.nil ?_
  refine X.seq ?_
  refine X.region ?_
  refine XL.cons (XOp.assign (.int .i64 (0)) rfl ?_)
  refine XL.nil ?_
  refine X.seq ?_
  refine X.seq ?_
  refine X.region ?_
  refine XL.cons (XOp.assign (.int .i64 (0)) rfl ?_)
  refine XL.nil ?_
  refine X.block ?_
  refine X.loop (α := Nat) (fun k => [(1, tv), (2, .int .i64 (((p : Nat) : Int))), (3, ptr b1 0), (7, .int .i64 (((movedL s t k : Nat) : Int))), (8, .int .i64 (((k : Nat) : Int)))]) (fun k => cellsH b1 [sv] 48 :: L) (fun k F' => F = F' ∧ (k ≤ p)) (fun k => p - k) 0 ⟨rfl, rfl, rfl, rfl, rfl, trivial⟩ (Sub.cons (Sub.refl _)) ⟨rfl, (by (try dsimp only) <;> omega)⟩ ?_
  rintro k rE _ _ ⟨rfl, hk⟩
  show X _ _ _ _ (envs [(1, tv), (2, .int .i64 (((p : Nat) : Int))), (3, ptr b1 0), (7, .int .i64 (((movedL s t k : Nat) : Int))), (8, .int .i64 (((k : Nat) : Int)))] rE) _ (cellsH b1 [sv] 48 :: L)
  have htk := htg k
  have hml := movedL_le (t := t) (s := s) (N := 60) (by omega) hsb k
  have hlk0 := lk_bound (N := 60) (by omega) hsb (-1 - (((-1 - t.getD k 0).toNat : Nat) : Int))
  refine X.seq ?_
  refine X.seq ?_
  refine X.region ?_
  refine XL.cons (XOp.move (.int .i64 (((k : Nat) : Int))) rfl ?_)
  refine XL.cons (XOp.move (.int .i64 (((p : Nat) : Int))) rfl ?_)
  refine XL.cons (XOp.lss (a := ((k : Nat) : Int)) (b := ((p : Nat) : Int)) rfl rfl ?_)
  refine XL.nil ?_
  refine X.condD (p := (((k : Nat) : Int) : Int) < ((p : Nat) : Int)) rfl (fun h1 => ?_) (fun h1 => ?_)
  · refine X.skip ?_
    refine X.seq ?_
    refine X.block ?_
    refine X.seq ?_
    refine X.region ?_
    refine XL.cons (XOp.move (tv) rfl ?_)
    refine XL.cons (XOp.move (.int .i64 (((k : Nat) : Int))) rfl ?_)
    refine XL.cons (XOp.indexS (v := tv) (i := ((k : Nat) : Int)) (n := (t).length) k Tryz.runUnderlying22 Tryz.sizeOf2 rfl rfl rfl ht.slv (by omega) (Nat.mul_one _) ?_)
    refine XL.cons (XOp.load1 (v := .int .i64 (t.getD k 0)) Tryz.isAgg2 rfl (ht.rd (by omega)) ?_)
    refine XL.cons (XOp.lss (a := t.getD k 0) (b := 0) rfl rfl ?_)
    refine XL.nil ?_
    refine X.condD (p := (t.getD k 0 : Int) < 0) rfl (fun h2 => ?_) (fun h2 => ?_)
    · refine X.drawG [cellsH b1 [sv] 48] L 9 [[], [], [], [], [], [], [], [], []] [[], [], [], [], [2, 3], [4], [5], [1, 6], [7]] [[], [], [], [], [], [], [], [], []] (phiG [fun FF us v => v = (.int .i64 (((movedL s t k : Nat) : Int)) : Value), fun FF us v => v = (.agg #[sv] : Value), fun FF us v => v = tv, fun FF us v => v = (.int .i64 (((k : Nat) : Int)) : Value), fun FF us v => v = (.pointer (some (elemA tv (k))) : Value), fun FF us v => v = (.int .i64 (t.getD k 0) : Value), fun FF us v => v = (.int .i64 ((-1) - (t.getD k 0)) : Value), fun FF us v => ((v) : Value) = v ∧ (IntsF FF (v) (lk s (-1 - ((((-1) - (t.getD k 0)).toNat) : Int)))), fun FF us v => v = (.int .i64 (((((lk s (-1 - ((((-1) - (t.getD k 0)).toNat) : Int)))).length : Nat) : Int)) : Value)]) (ownL [fun us v => [], fun us v => [], fun us v => [], fun us v => [], fun us v => [], fun us v => [], fun us v => [], fun us v => [], fun us v => []]) mixed rfl rfl (by kernel_rfl) (by kernel_rfl) (MonoG.get (MonoG.cons (fun le h => h) (MonoG.cons (fun le h => h) (MonoG.cons (fun le h => h) (MonoG.cons (fun le h => h) (MonoG.cons (fun le h => h) (MonoG.cons (fun le h => h) (MonoG.cons (fun le h => h) (MonoG.cons (fun le h => ⟨h.1, h.2.mono le⟩) (MonoG.cons (fun le h => h) MonoG.nil)))))))))) ?_ ?_
      · refine stepsG.cons (fun vals Fs R leFs hpZ => ?_) ?_
        · refine XG.op (XOp.move (.int .i64 (((movedL s t k : Nat) : Int))) rfl ?_)
          exact ⟨rfl, rfl⟩
        refine stepsG.cons (fun vals Fs R leFs hpZ => ?_) ?_
        · replace hs := hs.mono leFs
          replace ht := ht.mono leFs
          refine XG.op (XOp.loadN [sv] Tryz.isAgg48 Tryz.sizeOf48 rfl rfl (Rd.ownN [] rfl rfl) ?_)
          exact ⟨rfl, rfl⟩
        refine stepsG.cons (fun vals Fs R leFs hpZ => ?_) ?_
        · refine XG.op (XOp.move (tv) rfl ?_)
          exact ⟨rfl, rfl⟩
        refine stepsG.cons (fun vals Fs R leFs hpZ => ?_) ?_
        · refine XG.op (XOp.move (.int .i64 (((k : Nat) : Int))) rfl ?_)
          exact ⟨rfl, rfl⟩
        refine stepsG.cons (fun vals Fs R leFs hpZ => ?_) ?_
        · have e2 : vals 2 = tv := hpZ 2 (by decide)
          have e3 : vals 3 = (.int .i64 (((k : Nat) : Int)) : Value) := hpZ 3 (by decide)
          replace hs := hs.mono leFs
          replace ht := ht.mono leFs
          rw [(envs_of_sat (l := [(2, tv), (3, (.int .i64 (((k : Nat) : Int)) : Value))]) ⟨e2, e3, trivial⟩).symm]
          refine XG.op (XOp.indexS (v := tv) (i := ((k : Nat) : Int)) (n := (t).length) k Tryz.runUnderlying22 Tryz.sizeOf2 rfl rfl rfl ht.slv (by omega) (Nat.mul_one _) ?_)
          exact ⟨rfl, rfl⟩
        refine stepsG.cons (fun vals Fs R leFs hpZ => ?_) ?_
        · have e4 : vals 4 = (.pointer (some (elemA tv (k))) : Value) := hpZ 4 (by decide)
          replace hs := hs.mono leFs
          replace ht := ht.mono leFs
          rw [(envs_of_sat (l := [(4, (.pointer (some (elemA tv (k))) : Value))]) ⟨e4, trivial⟩).symm]
          refine XG.op (XOp.load1 (v := .int .i64 (t.getD k 0)) Tryz.isAgg2 rfl (ht.rd (by omega)) ?_)
          exact ⟨rfl, rfl⟩
        refine stepsG.cons (fun vals Fs R leFs hpZ => ?_) ?_
        · have e5 : vals 5 = (.int .i64 (t.getD k 0) : Value) := hpZ 5 (by decide)
          rw [(envs_of_sat (l := [(5, (.int .i64 (t.getD k 0) : Value))]) ⟨e5, trivial⟩).symm]
          refine XG.op (XOp.subR (a := -1) (b := t.getD k 0) ((-1) - (t.getD k 0)) rfl rfl (by omega) (by omega) ?_)
          exact ⟨rfl, rfl⟩
        refine stepsG.cons (fun vals Fs R leFs hpZ => ?_) ?_
        · have e1 : vals 1 = (.agg #[sv] : Value) := hpZ 1 (by decide)
          have e6 : vals 6 = (.int .i64 ((-1) - (t.getD k 0)) : Value) := hpZ 6 (by decide)
          replace hs := hs.mono leFs
          replace ht := ht.mono leFs
          rw [(envs_of_sat (l := [(1, (.agg #[sv] : Value)), (6, (.int .i64 ((-1) - (t.getD k 0)) : Value))]) ⟨e1, e6, trivial⟩).symm]
          refine XG.op (XOp.frzF <| XOp.call (args := [.agg #[sv], .int .i64 ((((-1) - (t.getD k 0)).toNat : Nat) : Int)]) Tryz.call86 (by rw [show ((((-1) - (t.getD k 0)).toNat : Nat) : Int) = (-1) - (t.getD k 0) from by omega]; rfl) (l2Gives_spec (i := ((-1) - (t.getD k 0)).toNat) hs (hsl := (by first | assumption | rfl | omega | (left; simp; done) | (right; simp; done))) (hi := (by first | assumption | rfl | omega | (left; simp; done) | (right; simp; done))) (hsb := (by have := hsb (-1 - t.getD k 0).toNat; omega))) ?_)
          rintro v2 _ _ _ ⟨rfl, hs2, rfl⟩
          refine ⟨_, _, rfl, fun F1 le1 hz1 => ?_⟩
          replace hs := hs.mono le1
          replace ht := ht.mono le1
          have hf1 : IntsF F1 v2 ((lk s (-1 - ((((-1) - (t.getD k 0)).toNat) : Int)))) := intsH.fz (xs := (lk s (-1 - ((((-1) - (t.getD k 0)).toNat) : Int)))) hz1.fz
          exact ⟨⟨rfl, hf1⟩, rfl⟩
        refine stepsG.cons (fun vals Fs R leFs hpZ => ?_) ?_
        · obtain ⟨e7, f7_1ha⟩ := hpZ 7 (by decide)
          replace hs := hs.mono leFs
          replace ht := ht.mono leFs
          rw [(envs_of_sat (l := [(7, ((vals 7)))]) ⟨(e7).symm, trivial⟩).symm]
          refine XG.op (XOp.lenS (v := ((vals 7))) (n := ((lk s (-1 - ((((-1) - (t.getD k 0)).toNat) : Int)))).length) Tryz.runUnderlying22 rfl f7_1ha.slv ?_)
          exact ⟨rfl, rfl⟩
        exact stepsG.nil
      · intro vals F2 le2 hphi
        have e0 : vals 0 = (.int .i64 (((movedL s t k : Nat) : Int)) : Value) := hphi 0 (by decide)
        have e1 : vals 1 = (.agg #[sv] : Value) := hphi 1 (by decide)
        have e2 : vals 2 = tv := hphi 2 (by decide)
        have e3 : vals 3 = (.int .i64 (((k : Nat) : Int)) : Value) := hphi 3 (by decide)
        have e4 : vals 4 = (.pointer (some (elemA tv (k))) : Value) := hphi 4 (by decide)
        have e5 : vals 5 = (.int .i64 (t.getD k 0) : Value) := hphi 5 (by decide)
        have e6 : vals 6 = (.int .i64 ((-1) - (t.getD k 0)) : Value) := hphi 6 (by decide)
        obtain ⟨e7, f7_1ha⟩ := hphi 7 (by decide)
        have e8 : vals 8 = (.int .i64 (((((lk s (-1 - ((((-1) - (t.getD k 0)).toNat) : Int)))).length : Nat) : Int)) : Value) := hphi 8 (by decide)
        generalize hu1 : ((vals 7)) = u1 at e0 e1 e2 e3 e4 e5 e6 e7 f7_1ha e8
        rw [(envs_of_sat (l := [(0, (.int .i64 (((movedL s t k : Nat) : Int)) : Value)), (1, (.agg #[sv] : Value)), (2, tv), (3, (.int .i64 (((k : Nat) : Int)) : Value)), (4, (.pointer (some (elemA tv (k))) : Value)), (5, (.int .i64 (t.getD k 0) : Value)), (6, (.int .i64 ((-1) - (t.getD k 0)) : Value)), (7, u1), (8, (.int .i64 (((((lk s (-1 - ((((-1) - (t.getD k 0)).toNat) : Int)))).length : Nat) : Int)) : Value))]) ⟨e0, e1, e2, e3, e4, e5, e6, hu1, e8, trivial⟩).symm]
        replace hs := hs.mono le2
        replace ht := ht.mono le2
        show XL _ _ _ _ _ _ _ (cellsH b1 [sv] 48 :: L)
        refine XL.cons (XOp.addR (a := ((movedL s t k : Nat) : Int)) (b := ((((lk s (-1 - ((((-1) - (t.getD k 0)).toNat) : Int)))).length : Nat) : Int)) ((((movedL s t k) + (((lk s (-1 - ((((-1) - (t.getD k 0)).toNat) : Int)))).length) : Nat) : Int)) rfl rfl (by omega) (by omega) ?_)
        refine XL.cons (XOp.assign (.int .i64 ((((movedL s t k) + (((lk s (-1 - ((((-1) - (t.getD k 0)).toNat) : Int)))).length) : Nat) : Int))) rfl ?_)
        refine XL.nil ?_
        refine X.region ?_
        refine XL.cons (XOp.move (.int .i64 (((k : Nat) : Int))) rfl ?_)
        refine XL.cons (XOp.addR (a := ((k : Nat) : Int)) (b := 1) (((k + 1 : Nat) : Int)) rfl rfl (by omega) (by omega) ?_)
        refine XL.cons (XOp.assign (.int .i64 (((k + 1 : Nat) : Int))) rfl ?_)
        refine XL.nil ?_
        exact ⟨k + 1, _, FLe.refl _, le2, ⟨rfl, rfl, rfl, (congrArg (fun z : Nat => Value.int .i64 (z : Int)) (by rw [movedL_succ (by omega)]; first | (rw [lk_sym (by omega)]; rfl) | (rw [show (-1 - (((-1 - t.getD k 0).toNat : Nat) : Int)) = t.getD k 0 from by omega]))), rfl, trivial⟩, (Sub.cons (Sub.refl _)), ⟨rfl, (by omega)⟩, (by omega)⟩
    · refine X.region ?_
      refine XL.cons (XOp.move (.int .i64 (((movedL s t k : Nat) : Int))) rfl ?_)
      refine XL.cons (XOp.addR (a := ((movedL s t k : Nat) : Int)) (b := 1) ((((movedL s t k) + 1 : Nat) : Int)) rfl rfl (by omega) (by omega) ?_)
      refine XL.cons (XOp.assign (.int .i64 ((((movedL s t k) + 1 : Nat) : Int))) rfl ?_)
      refine XL.nil ?_
      refine X.region ?_
      refine XL.cons (XOp.move (.int .i64 (((k : Nat) : Int))) rfl ?_)
      refine XL.cons (XOp.addR (a := ((k : Nat) : Int)) (b := 1) (((k + 1 : Nat) : Int)) rfl rfl (by omega) (by omega) ?_)
      refine XL.cons (XOp.assign (.int .i64 (((k + 1 : Nat) : Int))) rfl ?_)
      refine XL.nil ?_
      exact ⟨k + 1, _, FLe.refl _, (FLe.refl _), ⟨rfl, rfl, rfl, (congrArg (fun z : Nat => Value.int .i64 (z : Int)) (by rw [movedL_succ (by omega)]; first | (rw [lk_sym (by omega)]; rfl) | (rw [show (-1 - (((-1 - t.getD k 0).toNat : Nat) : Int)) = t.getD k 0 from by omega]))), rfl, trivial⟩, (Sub.cons (Sub.refl _)), ⟨rfl, (by omega)⟩, (by omega)⟩
  · refine X.exit (thenQ_exit (thenQ_exit (blockQ_exit ?_)))
    refine X.seq ?_
    refine X.region ?_
    refine XL.cons (XOp.move (.int .i64 (((movedL s t k : Nat) : Int))) rfl ?_)
    refine XL.cons (XOp.assign (.int .i64 (((movedL s t k : Nat) : Int))) rfl ?_)
    refine XL.nil ?_
    refine X.ret (retEnd (L' := L) [.int .i64 (((movedL s t k : Nat) : Int))] (.int .i64 (((movedL s t k : Nat) : Int))) (.tmp rfl .nil) rfl (FLe.refl _) (FLe.refl _) (Sub.drop (Sub.refl _)) ?_)
    exact ⟨(congrArg (Value.int .i64) (by rw [show k = p from by omega])), rfl, rfl⟩

/- spec.WalkUnder -/
theorem sWalkUnder_spec {F : FH} {L : List HP} {arv : Value} {ar : List Int} (har : IntsF F arv ar) {rsv : Value} {rs : List (List Int × List Int)} (hrs : PairsF F rsv rs) {fv : Value} {f : List Int} (hf : IntsF F fv f) {xsv : Value} {xs : List StepT} (hxs : StepsF F xsv xs) {uv : Value} {u : List (List Int)} (hu : RowsF F uv u) (hla : ar.length ≤ 4000000) (hlr : rs.length ≤ 4000000) (hrb : ∀ i, i < rs.length → (rs.getD i ([], [])).1.length ≤ 4000000 ∧ (rs.getD i ([], [])).2.length ≤ 4000000) (hlf : f.length ≤ 4000000) (hlss : xs.length ≤ 4000000) (hsb : ∀ i, i < xs.length → (xs.getD i (0, 0, [])).2.2.length ≤ 4000000) (hlrow : u.length ≤ 4000000) (hrowb : ∀ i, i < u.length → (u.getD i []).length ≤ 4000000) :
    Does Tryz.prog 8 [.agg #[arv, rsv], .agg #[fv, xsv], .agg #[uv]] F (L) (fun v F' L' => ∃ (a : Value), ∃ (b : Value), (.tuple #[.agg #[a, b], .bool ((undB ar rs f xs u).2.2)] : Value) = v ∧ (IntsF F' a (undB ar rs f xs u).1) ∧ (StepsF F' b (undB ar rs f xs u).2.1) ∧ L = L') := by
  refine Does.of_X Tryz.func8 rfl rfl rfl ?_
  refine X.seq ?_
  refine X.region ?_
  refine XL.cons (XOp.box [arv, rsv] rfl rfl ?_)
  intro b1
  refine XL.cons (XOp.box [fv, xsv] rfl rfl ?_)
  intro b2
  refine XL.cons (XOp.box [uv] rfl rfl ?_)
  intro b3
  refine XL.cons (XOp.alloc [(.slice none 0 0), (.slice none 0 0)] Tryz.zeroValue39 rfl ?_)
  intro b4
  refine XL.cons (XOp.assign (.bool (false)) rfl ?_)
  refine XL.nil ?_
  refine X.seq ?_
  refine X.seq ?_
  refine X.region ?_
  refine XL.cons (XOp.loadN [arv, rsv] Tryz.isAgg45 Tryz.sizeOf45 rfl rfl (Rd.ownN [_, _, _] rfl rfl) ?_)
  refine XL.cons (XOp.loadN [fv, xsv] Tryz.isAgg39 Tryz.sizeOf39 rfl rfl (Rd.ownN [_, _] rfl rfl) ?_)
  refine XL.cons (XOp.call (args := [.agg #[arv, rsv], .agg #[fv, xsv]]) Tryz.call37 rfl (sWalkOk_spec har hrs hf hxs (hla := (by first | assumption | rfl | omega | (left; simp; done) | (right; simp; done))) (hlr := (by first | assumption | rfl | omega | (left; simp; done) | (right; simp; done))) (hrb := (by first | assumption | rfl | omega | (left; simp; done) | (right; simp; done))) (hlf := (by first | assumption | rfl | omega | (left; simp; done) | (right; simp; done))) (hlss := (by first | assumption | rfl | omega | (left; simp; done) | (right; simp; done))) (hsb := (by first | assumption | rfl | omega | (left; simp; done) | (right; simp; done)))) ?_)
  rintro _ _ _ _ ⟨rfl, rfl, rfl⟩
  refine XL.cons (XOp.notB (b := walkOkL ar rs f xs) rfl ?_)
  refine XL.cons (XOp.move (.bool (!(walkOkL ar rs f xs))) rfl ?_)
  by_cases h1 : (!(walkOkL ar rs f xs)) = true
  · refine XL.no (t := 19) rfl (congrArg Value.bool h1) ?_
    refine XL.no (t := 19) rfl (congrArg Value.bool h1) ?_
    refine XL.no (t := 19) rfl (congrArg Value.bool h1) ?_
    refine XL.no (t := 19) rfl (congrArg Value.bool h1) ?_
    refine XL.no (t := 19) rfl (congrArg Value.bool h1) ?_
    refine XL.cons (XOp.pickT (.bool (true)) (congrArg Value.bool h1) rfl ?_)
    refine XL.nil ?_
    refine X.condT rfl ?_
    refine X.seq ?_
    refine X.region ?_
    refine XL.cons (XOp.build [(.slice none 0 0), (.slice none 0 0)] [(.slice none 0 0), (.slice none 0 0)] [(0, 1), (1, 1)] [] Tryz.runUnderlying39 Tryz.zeroValue39 rfl (.cons rfl Tryz.sizeOf22 (.cons rfl Tryz.sizeOf37 PlacesAre.nil)) rfl CellsAre.nil ?_)
    refine XL.cons (XOp.storeN (vs := [(.slice none 0 0), (.slice none 0 0)]) [] _ [(.slice none 0 0), (.slice none 0 0)] Tryz.sizeOf39 rfl rfl rfl (ones_cons rfl (ones_cons rfl ones_nil)) rfl rfl rfl ?_)
    refine XL.cons (XOp.assign (.bool (false)) rfl ?_)
    refine XL.nil ?_
    refine X.ret (thenQ_ret (retEnd (L' := L) [.agg #[(.slice none 0 0), (.slice none 0 0)], .bool (false)] (.tuple #[.agg #[(.slice none 0 0), (.slice none 0 0)], .bool (false)]) (.cell rfl (loadNV [(.slice none 0 0), (.slice none 0 0)] Tryz.isAgg39 Tryz.sizeOf39 rfl (Rd.ownN [] rfl rfl)) (.tmp rfl .nil)) rfl (FLe.refl _) (FLe.refl _) (Sub.drop (Sub.drop (Sub.drop (Sub.drop (Sub.refl _))))) ?_))
    have e : undB ar rs f xs u = ([], [], false) := undB_no (by simp_all)
    exact ⟨_, _, by rw [e], by rw [e]; exact IntsF.nilV, by rw [e]; exact SlOf.nilV, rfl⟩
  · rw [Bool.not_eq_true] at h1
    have hwk : walkOkL ar rs f xs = true := by simpa using h1
    have hwl := (walkOkL_iff.1 hwk).2.1
    have hfo := (right_iff.1 (walkOkL_iff.1 hwk).1).2
    have hfl := termOk_len hfo
    have hfg := fun k (hk : k < f.length) => termOk_ge hfo hk
    refine XL.yes (t := 19) rfl (congrArg Value.bool h1) (XOp.fieldP (b := b1) (0) Tryz.runUnderlying45 rfl Tryz.sizeOf42 (by decide) rfl rfl ?_)
    refine XL.yes (t := 19) rfl (congrArg Value.bool h1) (XOp.loadN [arv] Tryz.isAgg42 Tryz.sizeOf42 rfl rfl (Rd.ownN [_, _, _] rfl rfl) ?_)
    refine XL.yes (t := 19) rfl (congrArg Value.bool h1) (XOp.loadN [uv] Tryz.isAgg48 Tryz.sizeOf48 rfl rfl (Rd.ownN [_] rfl rfl) ?_)
    refine XL.yes (t := 19) rfl (congrArg Value.bool h1) (XOp.call (args := [.agg #[arv], .agg #[uv]]) Tryz.call38 rfl (sSubstOk_spec har hu (hla := (by first | assumption | rfl | omega | (left; simp; done) | (right; simp; done))) (hsl := (by first | assumption | rfl | omega | (left; simp; done) | (right; simp; done))) (hsb := (by first | assumption | rfl | omega | (left; simp; done) | (right; simp; done)))) ?_)
    rintro _ _ _ _ ⟨rfl, rfl, rfl⟩
    refine XL.yes (t := 19) rfl (congrArg Value.bool h1) (XOp.notB (b := substOk ar u) rfl ?_)
    refine XL.cons (XOp.pickF (.bool (!(substOk ar u))) (congrArg Value.bool h1) rfl ?_)
    refine XL.nil ?_
    refine X.cond (t := !(substOk ar u)) rfl (fun h2 => ?_) (fun h2 => ?_)
    · refine X.seq ?_
      refine X.region ?_
      refine XL.cons (XOp.build [(.slice none 0 0), (.slice none 0 0)] [(.slice none 0 0), (.slice none 0 0)] [(0, 1), (1, 1)] [] Tryz.runUnderlying39 Tryz.zeroValue39 rfl (.cons rfl Tryz.sizeOf22 (.cons rfl Tryz.sizeOf37 PlacesAre.nil)) rfl CellsAre.nil ?_)
      refine XL.cons (XOp.storeN (vs := [(.slice none 0 0), (.slice none 0 0)]) [] _ [(.slice none 0 0), (.slice none 0 0)] Tryz.sizeOf39 rfl rfl rfl (ones_cons rfl (ones_cons rfl ones_nil)) rfl rfl rfl ?_)
      refine XL.cons (XOp.assign (.bool (false)) rfl ?_)
      refine XL.nil ?_
      refine X.ret (thenQ_ret (retEnd (L' := L) [.agg #[(.slice none 0 0), (.slice none 0 0)], .bool (false)] (.tuple #[.agg #[(.slice none 0 0), (.slice none 0 0)], .bool (false)]) (.cell rfl (loadNV [(.slice none 0 0), (.slice none 0 0)] Tryz.isAgg39 Tryz.sizeOf39 rfl (Rd.ownN [] rfl rfl)) (.tmp rfl .nil)) rfl (FLe.refl _) (FLe.refl _) (Sub.drop (Sub.drop (Sub.drop (Sub.drop (Sub.refl _))))) ?_))
      have e : undB ar rs f xs u = ([], [], false) := undB_no (by simp_all)
      exact ⟨_, _, by rw [e], by rw [e]; exact IntsF.nilV, by rw [e]; exact SlOf.nilV, rfl⟩
    · have hsk : substOk ar u = true := by simpa using h2
      have hsk2 := substOk_len hsk
      have hsk3 := (substOk_iff.1 hsk).2.1
      refine X.skip ?_
      refine X.seq ?_
      refine X.region ?_
      refine XL.cons (XOp.loadN [uv] Tryz.isAgg48 Tryz.sizeOf48 rfl rfl (Rd.ownN [_] rfl rfl) ?_)
      refine XL.cons (XOp.fieldP (b := b2) (0) Tryz.runUnderlying39 rfl Tryz.sizeOf22 (by decide) rfl rfl ?_)
      refine XL.cons (XOp.load1 (v := fv) Tryz.isAgg22 rfl (Rd.own [_, _] rfl rfl) ?_)
      refine XL.cons (XOp.call (args := [.agg #[uv], fv]) Tryz.call39 rfl (l2Filled_spec hu hf (hsl := (by first | assumption | rfl | omega | (left; simp; done) | (right; simp; done))) (hsb := (fun i => by have := hsk2 i; omega)) (htl := (by first | omega | (have := htk (by omega); omega))) (htg := (by first | (exact fun k hk => by have := hfg k hk; omega) | (exact fun j hj => by have := termOk_ge (hto (by omega)) hj; omega)))) ?_)
      rintro _ F1 _ le1 ⟨x1, rfl, hr1, rfl⟩
      replace har := har.mono le1
      replace hrs := hrs.mono le1
      replace hf := hf.mono le1
      replace hxs := hxs.mono le1
      replace hu := hu.mono le1
      refine XL.cons (XOp.move (.tuple #[x1, .bool ((fillL u f).isSome)]) rfl ?_)
      refine XL.cons (XOp.extract (x1) rfl rfl ?_)
      refine XL.cons (XOp.extract (.bool ((fillL u f).isSome)) rfl rfl ?_)
      refine XL.cons (XOp.assign (x1) rfl ?_)
      refine XL.cons (XOp.assign (.bool ((fillL u f).isSome)) rfl ?_)
      refine XL.nil ?_
      refine X.seq ?_
      refine X.seq ?_
      refine X.region ?_
      refine XL.cons (XOp.move (.bool ((fillL u f).isSome)) rfl ?_)
      refine XL.cons (XOp.notB (b := (fillL u f).isSome) rfl ?_)
      refine XL.nil ?_
      refine X.cond (t := !((fillL u f).isSome)) rfl (fun h3 => ?_) (fun h3 => ?_)
      · have hpf1 : (fillL u f).isSome = false := by simpa using h3
        refine X.seq ?_
        refine X.region ?_
        refine XL.cons (XOp.build [(.slice none 0 0), (.slice none 0 0)] [(.slice none 0 0), (.slice none 0 0)] [(0, 1), (1, 1)] [] Tryz.runUnderlying39 Tryz.zeroValue39 rfl (.cons rfl Tryz.sizeOf22 (.cons rfl Tryz.sizeOf37 PlacesAre.nil)) rfl CellsAre.nil ?_)
        refine XL.cons (XOp.storeN (vs := [(.slice none 0 0), (.slice none 0 0)]) [] _ [(.slice none 0 0), (.slice none 0 0)] Tryz.sizeOf39 rfl rfl rfl (ones_cons rfl (ones_cons rfl ones_nil)) rfl rfl rfl ?_)
        refine XL.cons (XOp.assign (.bool (false)) rfl ?_)
        refine XL.nil ?_
        refine X.ret (thenQ_ret (retEnd (L' := L) [.agg #[(.slice none 0 0), (.slice none 0 0)], .bool (false)] (.tuple #[.agg #[(.slice none 0 0), (.slice none 0 0)], .bool (false)]) (.cell rfl (loadNV [(.slice none 0 0), (.slice none 0 0)] Tryz.isAgg39 Tryz.sizeOf39 rfl (Rd.ownN [] rfl rfl)) (.tmp rfl .nil)) rfl le1 (FLe.refl _) (Sub.drop (Sub.drop (Sub.drop (Sub.drop (Sub.refl _))))) ?_))
        have e : undB ar rs f xs u = ([], [], false) := undB_from hpf1
        exact ⟨_, _, by rw [e], by rw [e]; exact IntsF.nilV, by rw [e]; exact SlOf.nilV, rfl⟩
      · have hpf1 : (fillL u f).isSome = true := by simpa using h3
        refine X.skip ?_
        refine X.seq ?_
        refine X.region ?_
        refine XL.cons (XOp.move (x1) rfl ?_)
        refine XL.cons (XOp.build [x1, (.slice none 0 0)] [(.slice none 0 0), (.slice none 0 0)] [(0, 1), (1, 1)] [(0, [x1])] Tryz.runUnderlying39 Tryz.zeroValue39 rfl (.cons rfl Tryz.sizeOf22 (.cons rfl Tryz.sizeOf37 PlacesAre.nil)) rfl (.cons (cells_one (IntsF.isSl hr1)) CellsAre.nil) ?_)
        refine XL.cons (XOp.alloc [(.slice none 0 0), (.slice none 0 0)] Tryz.zeroValue39 rfl ?_)
        intro b5
        refine XL.cons (XOp.storeN (vs := [x1, (.slice none 0 0)]) [] _ [x1, (.slice none 0 0)] Tryz.sizeOf39 rfl rfl rfl (ones_cons (one_sl (IntsF.isSl hr1)) (ones_cons rfl ones_nil)) rfl rfl rfl ?_)
        refine XL.nil ?_
        refine X.seq ?_
        refine X.region ?_
        refine XL.cons (XOp.fieldP (b := b2) (0) Tryz.runUnderlying39 rfl Tryz.sizeOf22 (by decide) rfl rfl ?_)
        refine XL.cons (XOp.load1 (v := fv) Tryz.isAgg22 rfl (Rd.own [_, _, _] rfl rfl) ?_)
        refine XL.cons (XOp.assign (fv) rfl ?_)
        refine XL.nil ?_
        refine X.seq ?_
        refine X.seq ?_
        refine X.region ?_
        refine XL.cons (XOp.assign (.int .i64 (0)) rfl ?_)
        refine XL.nil ?_
        refine X.block ?_
        refine X.loop (α := Nat × Value × List Int × Value × List StepT × List Value × Nat × FH) (fun xQ => [(4, ptr b2 0), (5, ptr b3 0), (6, ptr b4 0), (10, ptr b5 0), (11, xQ.2.1), (12, .int .i64 (((xQ.1 : Nat) : Int)))]) (fun xQ => slH 78 3 xQ.2.2.2.1 xQ.2.2.2.2.2.2.1 xQ.2.2.2.2.2.1 :: cellsH b5 [x1, xQ.2.2.2.1] 39 :: cellsH b4 [(.slice none 0 0), (.slice none 0 0)] 39 :: cellsH b3 [uv] 48 :: cellsH b2 [fv, xsv] 39 :: cellsH b1 [arv, rsv] 45 :: L) (fun xQ F' => xQ.2.2.2.2.2.2.2 = F' ∧ F1 ≤ xQ.2.2.2.2.2.2.2 ∧ (IntsF xQ.2.2.2.2.2.2.2 xQ.2.1 xQ.2.2.1) ∧ (xQ.1 ≤ xs.length) ∧ (xQ.2.2.1 = nowL f xs xQ.1) ∧ (IsSl xQ.2.2.2.1) ∧ (StepsC xQ.2.2.2.2.2.2.2 xQ.2.2.2.2.2.1 xQ.2.2.2.2.1) ∧ (xQ.2.2.2.2.2.2.1 = xQ.2.2.2.2.1.length) ∧ (undGo u f xs = (undGo u xQ.2.2.1 (xs.drop xQ.1)).map (fun r => xQ.2.2.2.2.1 ++ r)) ∧ (xQ.2.2.2.2.2.2.1 = xQ.1)) (fun xQ => xs.length - xQ.1) (0, fv, f, (.slice none 0 0), [], [], 0, F1) ⟨rfl, rfl, rfl, rfl, rfl, rfl, trivial⟩ (Sub.trans (Sub.addNil 78 3 _ _) (Sub.cons (Sub.cons (Sub.cons (Sub.cons (Sub.cons (Sub.cons (Sub.refl _)))))))) ⟨rfl, FLe.refl _, (hf), (by (try dsimp only) <;> omega), (nowL_zero.symm), (⟨_, _, _, rfl⟩), (CO.nil), (rfl), (undGo_start), (rfl)⟩ ?_
        rintro ⟨k, cv, cur, sv, ss, cs, m, G1⟩ rE _ _ ⟨rfl, leG, hcv, hk, hnow, hsv, hC, hm, hgo, hmk⟩
        show X _ _ _ _ (envs [(4, ptr b2 0), (5, ptr b3 0), (6, ptr b4 0), (10, ptr b5 0), (11, cv), (12, .int .i64 (((k : Nat) : Int)))] rE) _ (slH 78 3 sv m cs :: cellsH b5 [x1, sv] 39 :: cellsH b4 [(.slice none 0 0), (.slice none 0 0)] 39 :: cellsH b3 [uv] 48 :: cellsH b2 [fv, xsv] 39 :: cellsH b1 [arv, rsv] 45 :: L)
        replace leG : F1 ≤ G1 := leG
        dsimp only at hcv hk hnow hsv hC hm hgo hmk
        have hak := fun (h : k < xs.length) => walkOk_at2 hwk h hnow
        have hto := fun (h : k < xs.length) => walkOk_to hwk h
        have htk := fun (h : k < xs.length) => termOk_len (walkOk_to hwk h)
        have hno := now_ok hwk hk hnow
        have hnl := termOk_len hno
        have leG1 := leG
        replace har := har.mono leG1
        replace hrs := hrs.mono leG1
        replace hf := hf.mono leG1
        replace hxs := hxs.mono leG1
        replace hu := hu.mono leG1
        replace hr1 := hr1.mono leG1
        refine X.seq ?_
        refine X.seq ?_
        refine X.region ?_
        refine XL.cons (XOp.move (.int .i64 (((k : Nat) : Int))) rfl ?_)
        refine XL.cons (XOp.fieldP (b := b2) (1) Tryz.runUnderlying39 rfl Tryz.sizeOf37 (by decide) rfl rfl ?_)
        refine XL.cons (XOp.load1 (v := xsv) Tryz.isAgg37 rfl (Rd.own [_, _, _, _] rfl rfl) ?_)
        refine XL.cons (XOp.lenS (v := xsv) (n := (xs).length) Tryz.runUnderlying37 rfl hxs.slv ?_)
        refine XL.cons (XOp.lss (a := ((k : Nat) : Int)) (b := (((xs).length : Nat) : Int)) rfl rfl ?_)
        refine XL.nil ?_
        refine X.condD (p := (((k : Nat) : Int) : Int) < (((xs).length : Nat) : Int)) rfl (fun h4 => ?_) (fun h4 => ?_)
        · refine X.skip ?_
          refine X.seq ?_
          refine X.block ?_
          refine X.seq ?_
          obtain ⟨a1, ha1, hr2, hr3, hr4⟩ := hxs.rd (i := k) (by omega)
          refine X.drawG [slH 78 3 sv m cs, cellsH b5 [x1, sv] 39, cellsH b4 [(.slice none 0 0), (.slice none 0 0)] 39, cellsH b3 [uv] 48, cellsH b2 [fv, xsv] 39, cellsH b1 [arv, rsv] 45] L 12 [[], [], [], [], [], [], [], [], [7], [7], [], [7]] [[], [], [1], [], [2, 3], [4], [5], [0, 6], [7], [7, 8], [7, 8], [7, 9]] [[], [], [], [], [], [], [], [], [], [], [], []] (phiG [fun FF us v => v = (.agg #[uv] : Value), fun FF us v => v = ptr b2 1, fun FF us v => v = xsv, fun FF us v => v = (.int .i64 (((k : Nat) : Int)) : Value), fun FF us v => v = (.pointer (some (elemA xsv (k * 3))) : Value), fun FF us v => v = (.pointer (some (elemA xsv (k * 3 + 2))) : Value), fun FF us v => v = a1, fun FF us v => (.tuple #[((tupAt v 0)), .bool ((fillL u ((xs.getD k (0, 0, [])).2.2)).isSome)] : Value) = v ∧ (IntsF FF ((tupAt v 0)) ((fillL u ((xs.getD k (0, 0, [])).2.2)).getD [])), fun FF us v => v = (.tuple #[((tupAt (us.getD 0 undef) 0)), .bool ((fillL u ((xs.getD k (0, 0, [])).2.2)).isSome)] : Value), fun FF us v => v = ((tupAt (us.getD 0 undef) 0)), fun FF us v => v = (.bool ((fillL u ((xs.getD k (0, 0, [])).2.2)).isSome) : Value), fun FF us v => v = ((tupAt (us.getD 0 undef) 0))]) (ownL [fun us v => [], fun us v => [], fun us v => [], fun us v => [], fun us v => [], fun us v => [], fun us v => [], fun us v => [], fun us v => [], fun us v => [], fun us v => [], fun us v => []]) mixed rfl rfl (by kernel_rfl) (by kernel_rfl) (MonoG.get (MonoG.cons (fun le h => h) (MonoG.cons (fun le h => h) (MonoG.cons (fun le h => h) (MonoG.cons (fun le h => h) (MonoG.cons (fun le h => h) (MonoG.cons (fun le h => h) (MonoG.cons (fun le h => h) (MonoG.cons (fun le h => ⟨h.1, h.2.mono le⟩) (MonoG.cons (fun le h => h) (MonoG.cons (fun le h => h) (MonoG.cons (fun le h => h) (MonoG.cons (fun le h => h) MonoG.nil))))))))))))) ?_ ?_
          · refine stepsG.cons (fun vals Fs R leFs hpZ => ?_) ?_
            · replace har := har.mono leFs
              replace hrs := hrs.mono leFs
              replace hf := hf.mono leFs
              replace hxs := hxs.mono leFs
              replace hu := hu.mono leFs
              replace hr1 := hr1.mono leFs
              replace hcv := hcv.mono leFs
              replace hC := hC.mono leFs
              replace ha1 := ha1.mono leFs
              replace hr2 := Rd.monoA hr2 leFs
              replace hr3 := Rd.monoA hr3 leFs
              replace hr4 := Rd.monoA hr4 leFs
              refine XG.op (XOp.loadN [uv] Tryz.isAgg48 Tryz.sizeOf48 rfl rfl (Rd.ownN [_, _, _] rfl rfl) ?_)
              exact ⟨rfl, rfl⟩
            refine stepsG.cons (fun vals Fs R leFs hpZ => ?_) ?_
            · refine XG.op (XOp.fieldP (b := b2) (1) Tryz.runUnderlying39 rfl Tryz.sizeOf37 (by decide) rfl rfl ?_)
              exact ⟨rfl, rfl⟩
            refine stepsG.cons (fun vals Fs R leFs hpZ => ?_) ?_
            · have e1 : vals 1 = ptr b2 1 := hpZ 1 (by decide)
              replace har := har.mono leFs
              replace hrs := hrs.mono leFs
              replace hf := hf.mono leFs
              replace hxs := hxs.mono leFs
              replace hu := hu.mono leFs
              replace hr1 := hr1.mono leFs
              replace hcv := hcv.mono leFs
              replace hC := hC.mono leFs
              replace ha1 := ha1.mono leFs
              replace hr2 := Rd.monoA hr2 leFs
              replace hr3 := Rd.monoA hr3 leFs
              replace hr4 := Rd.monoA hr4 leFs
              rw [(envs_of_sat (l := [(1, ptr b2 1)]) ⟨e1, trivial⟩).symm]
              refine XG.op (XOp.load1 (v := xsv) Tryz.isAgg37 rfl (Rd.own [_, _, _, _] rfl rfl) ?_)
              exact ⟨rfl, rfl⟩
            refine stepsG.cons (fun vals Fs R leFs hpZ => ?_) ?_
            · refine XG.op (XOp.move (.int .i64 (((k : Nat) : Int))) rfl ?_)
              exact ⟨rfl, rfl⟩
            refine stepsG.cons (fun vals Fs R leFs hpZ => ?_) ?_
            · have e2 : vals 2 = xsv := hpZ 2 (by decide)
              have e3 : vals 3 = (.int .i64 (((k : Nat) : Int)) : Value) := hpZ 3 (by decide)
              replace har := har.mono leFs
              replace hrs := hrs.mono leFs
              replace hf := hf.mono leFs
              replace hxs := hxs.mono leFs
              replace hu := hu.mono leFs
              replace hr1 := hr1.mono leFs
              replace hcv := hcv.mono leFs
              replace hC := hC.mono leFs
              replace ha1 := ha1.mono leFs
              replace hr2 := Rd.monoA hr2 leFs
              replace hr3 := Rd.monoA hr3 leFs
              replace hr4 := Rd.monoA hr4 leFs
              rw [(envs_of_sat (l := [(2, xsv), (3, (.int .i64 (((k : Nat) : Int)) : Value))]) ⟨e2, e3, trivial⟩).symm]
              refine XG.op (XOp.indexS (v := xsv) (i := ((k : Nat) : Int)) (n := (xs).length) k Tryz.runUnderlying37 Tryz.sizeOf78 rfl rfl rfl hxs.slv (by omega) rfl ?_)
              exact ⟨rfl, rfl⟩
            refine stepsG.cons (fun vals Fs R leFs hpZ => ?_) ?_
            · have e4 : vals 4 = (.pointer (some (elemA xsv (k * 3))) : Value) := hpZ 4 (by decide)
              rw [(envs_of_sat (l := [(4, (.pointer (some (elemA xsv (k * 3))) : Value))]) ⟨e4, trivial⟩).symm]
              refine XG.op (XOp.fieldE (v := xsv) (k * 3 + 2) Tryz.runUnderlying78 rfl Tryz.sizeOf22 (by decide) rfl rfl ?_)
              exact ⟨rfl, rfl⟩
            refine stepsG.cons (fun vals Fs R leFs hpZ => ?_) ?_
            · have e5 : vals 5 = (.pointer (some (elemA xsv (k * 3 + 2))) : Value) := hpZ 5 (by decide)
              replace har := har.mono leFs
              replace hrs := hrs.mono leFs
              replace hf := hf.mono leFs
              replace hxs := hxs.mono leFs
              replace hu := hu.mono leFs
              replace hr1 := hr1.mono leFs
              replace hcv := hcv.mono leFs
              replace hC := hC.mono leFs
              replace ha1 := ha1.mono leFs
              replace hr2 := Rd.monoA hr2 leFs
              replace hr3 := Rd.monoA hr3 leFs
              replace hr4 := Rd.monoA hr4 leFs
              rw [(envs_of_sat (l := [(5, (.pointer (some (elemA xsv (k * 3 + 2))) : Value))]) ⟨e5, trivial⟩).symm]
              refine XG.op (XOp.load1 (v := a1) Tryz.isAgg22 rfl (hr4 _) ?_)
              exact ⟨rfl, rfl⟩
            refine stepsG.cons (fun vals Fs R leFs hpZ => ?_) ?_
            · have e0 : vals 0 = (.agg #[uv] : Value) := hpZ 0 (by decide)
              have e6 : vals 6 = a1 := hpZ 6 (by decide)
              replace har := har.mono leFs
              replace hrs := hrs.mono leFs
              replace hf := hf.mono leFs
              replace hxs := hxs.mono leFs
              replace hu := hu.mono leFs
              replace hr1 := hr1.mono leFs
              replace hcv := hcv.mono leFs
              replace hC := hC.mono leFs
              replace ha1 := ha1.mono leFs
              replace hr2 := Rd.monoA hr2 leFs
              replace hr3 := Rd.monoA hr3 leFs
              replace hr4 := Rd.monoA hr4 leFs
              rw [(envs_of_sat (l := [(0, (.agg #[uv] : Value)), (6, a1)]) ⟨e0, e6, trivial⟩).symm]
              refine XG.op (XOp.call (args := [.agg #[uv], a1]) Tryz.call39 rfl (l2Filled_spec hu ha1 (hsl := (by first | assumption | rfl | omega | (left; simp; done) | (right; simp; done))) (hsb := (fun i => by have := hsk2 i; omega)) (htl := (by first | omega | (have := htk (by omega); omega))) (htg := (by first | (exact fun k hk => by have := hfg k hk; omega) | (exact fun j hj => by have := termOk_ge (hto (by omega)) hj; omega)))) ?_)
              rintro _ F3 _ le3 ⟨x3, rfl, hr6, rfl⟩
              replace har := har.mono le3
              replace hrs := hrs.mono le3
              replace hf := hf.mono le3
              replace hxs := hxs.mono le3
              replace hu := hu.mono le3
              replace hr1 := hr1.mono le3
              replace hcv := hcv.mono le3
              replace hC := hC.mono le3
              replace ha1 := ha1.mono le3
              replace hr2 := Rd.monoA hr2 le3
              replace hr3 := Rd.monoA hr3 le3
              replace hr4 := Rd.monoA hr4 le3
              exact ⟨⟨rfl, hr6⟩, rfl⟩
            refine stepsG.cons (fun vals Fs R leFs hpZ => ?_) ?_
            · obtain ⟨e7, f7_1hr⟩ := hpZ 7 (by decide)
              rw [(envs_of_sat (l := [(7, (.tuple #[((tupAt (vals 7) 0)), .bool ((fillL u ((xs.getD k (0, 0, [])).2.2)).isSome)] : Value))]) ⟨(e7).symm, trivial⟩).symm]
              refine XG.op (XOp.move (.tuple #[((tupAt (vals 7) 0)), .bool ((fillL u ((xs.getD k (0, 0, [])).2.2)).isSome)]) rfl ?_)
              exact ⟨rfl, rfl⟩
            refine stepsG.cons (fun vals Fs R leFs hpZ => ?_) ?_
            · obtain ⟨e7, f7_1hr⟩ := hpZ 7 (by decide)
              have e8 : vals 8 = (.tuple #[((tupAt (vals 7) 0)), .bool ((fillL u ((xs.getD k (0, 0, [])).2.2)).isSome)] : Value) := hpZ 8 (by decide)
              rw [(envs_of_sat (l := [(7, (.tuple #[((tupAt (vals 7) 0)), .bool ((fillL u ((xs.getD k (0, 0, [])).2.2)).isSome)] : Value)), (8, (.tuple #[((tupAt (vals 7) 0)), .bool ((fillL u ((xs.getD k (0, 0, [])).2.2)).isSome)] : Value))]) ⟨(e7).symm, e8, trivial⟩).symm]
              refine XG.op (XOp.extract (((tupAt (vals 7) 0))) rfl rfl ?_)
              exact ⟨rfl, rfl⟩
            refine stepsG.cons (fun vals Fs R leFs hpZ => ?_) ?_
            · obtain ⟨e7, f7_1hr⟩ := hpZ 7 (by decide)
              have e8 : vals 8 = (.tuple #[((tupAt (vals 7) 0)), .bool ((fillL u ((xs.getD k (0, 0, [])).2.2)).isSome)] : Value) := hpZ 8 (by decide)
              rw [(envs_of_sat (l := [(7, (.tuple #[((tupAt (vals 7) 0)), .bool ((fillL u ((xs.getD k (0, 0, [])).2.2)).isSome)] : Value)), (8, (.tuple #[((tupAt (vals 7) 0)), .bool ((fillL u ((xs.getD k (0, 0, [])).2.2)).isSome)] : Value))]) ⟨(e7).symm, e8, trivial⟩).symm]
              refine XG.op (XOp.extract (.bool ((fillL u ((xs.getD k (0, 0, [])).2.2)).isSome)) rfl rfl ?_)
              exact ⟨rfl, rfl⟩
            refine stepsG.cons (fun vals Fs R leFs hpZ => ?_) ?_
            · obtain ⟨e7, f7_1hr⟩ := hpZ 7 (by decide)
              have e9 : vals 9 = ((tupAt (vals 7) 0)) := hpZ 9 (by decide)
              rw [(envs_of_sat (l := [(7, (.tuple #[((tupAt (vals 7) 0)), .bool ((fillL u ((xs.getD k (0, 0, [])).2.2)).isSome)] : Value)), (9, ((tupAt (vals 7) 0)))]) ⟨(e7).symm, e9, trivial⟩).symm]
              refine XG.op (XOp.assign (((tupAt (vals 7) 0))) rfl ?_)
              exact ⟨rfl, rfl⟩
            exact stepsG.nil
          · intro vals F4 le4 hphi
            have e0 : vals 0 = (.agg #[uv] : Value) := hphi 0 (by decide)
            have e1 : vals 1 = ptr b2 1 := hphi 1 (by decide)
            have e2 : vals 2 = xsv := hphi 2 (by decide)
            have e3 : vals 3 = (.int .i64 (((k : Nat) : Int)) : Value) := hphi 3 (by decide)
            have e4 : vals 4 = (.pointer (some (elemA xsv (k * 3))) : Value) := hphi 4 (by decide)
            have e5 : vals 5 = (.pointer (some (elemA xsv (k * 3 + 2))) : Value) := hphi 5 (by decide)
            have e6 : vals 6 = a1 := hphi 6 (by decide)
            obtain ⟨e7, f7_1hr⟩ := hphi 7 (by decide)
            have e8 : vals 8 = (.tuple #[((tupAt (vals 7) 0)), .bool ((fillL u ((xs.getD k (0, 0, [])).2.2)).isSome)] : Value) := hphi 8 (by decide)
            have e9 : vals 9 = ((tupAt (vals 7) 0)) := hphi 9 (by decide)
            have e10 : vals 10 = (.bool ((fillL u ((xs.getD k (0, 0, [])).2.2)).isSome) : Value) := hphi 10 (by decide)
            have e11 : vals 11 = ((tupAt (vals 7) 0)) := hphi 11 (by decide)
            generalize hu1 : ((tupAt (vals 7) 0)) = u1 at e0 e1 e2 e3 e4 e5 e6 e7 f7_1hr e8 e9 e10 e11
            rw [(envs_of_sat (l := [(0, (.agg #[uv] : Value)), (1, ptr b2 1), (2, xsv), (3, (.int .i64 (((k : Nat) : Int)) : Value)), (4, (.pointer (some (elemA xsv (k * 3))) : Value)), (5, (.pointer (some (elemA xsv (k * 3 + 2))) : Value)), (6, a1), (7, (.tuple #[u1, .bool ((fillL u ((xs.getD k (0, 0, [])).2.2)).isSome)] : Value)), (8, (.tuple #[u1, .bool ((fillL u ((xs.getD k (0, 0, [])).2.2)).isSome)] : Value)), (9, u1), (10, (.bool ((fillL u ((xs.getD k (0, 0, [])).2.2)).isSome) : Value)), (11, u1)]) ⟨e0, e1, e2, e3, e4, e5, e6, (e7).symm, e8, e9, e10, e11, trivial⟩).symm]
            replace har := har.mono le4
            replace hrs := hrs.mono le4
            replace hf := hf.mono le4
            replace hxs := hxs.mono le4
            replace hu := hu.mono le4
            replace hr1 := hr1.mono le4
            replace hcv := hcv.mono le4
            replace hC := hC.mono le4
            replace ha1 := ha1.mono le4
            replace hr2 := Rd.monoA hr2 le4
            replace hr3 := Rd.monoA hr3 le4
            replace hr4 := Rd.monoA hr4 le4
            show XL _ _ _ _ _ _ _ (slH 78 3 sv m cs :: cellsH b5 [x1, sv] 39 :: cellsH b4 [(.slice none 0 0), (.slice none 0 0)] 39 :: cellsH b3 [uv] 48 :: cellsH b2 [fv, xsv] 39 :: cellsH b1 [arv, rsv] 45 :: L)
            refine XL.cons (XOp.assign (.bool ((fillL u ((xs.getD k (0, 0, [])).2.2)).isSome)) rfl ?_)
            refine XL.nil ?_
            refine X.seq ?_
            refine X.seq ?_
            refine X.region ?_
            refine XL.cons (XOp.move (.bool ((fillL u ((xs.getD k (0, 0, [])).2.2)).isSome)) rfl ?_)
            refine XL.cons (XOp.notB (b := (fillL u ((xs.getD k (0, 0, [])).2.2)).isSome) rfl ?_)
            refine XL.nil ?_
            refine X.cond (t := !((fillL u ((xs.getD k (0, 0, [])).2.2)).isSome)) rfl (fun h5 => ?_) (fun h5 => ?_)
            · have hpu1 : (fillL u (xs.getD k (0, 0, [])).2.2).isSome = false := by simpa using h5
              refine X.seq ?_
              refine X.region ?_
              refine XL.cons (XOp.build [(.slice none 0 0), (.slice none 0 0)] [(.slice none 0 0), (.slice none 0 0)] [(0, 1), (1, 1)] [] Tryz.runUnderlying39 Tryz.zeroValue39 rfl (.cons rfl Tryz.sizeOf22 (.cons rfl Tryz.sizeOf37 PlacesAre.nil)) rfl CellsAre.nil ?_)
              refine XL.cons (XOp.storeN (vs := [(.slice none 0 0), (.slice none 0 0)]) [_, _] _ [(.slice none 0 0), (.slice none 0 0)] Tryz.sizeOf39 rfl rfl rfl (ones_cons rfl (ones_cons rfl ones_nil)) rfl rfl rfl ?_)
              refine XL.cons (XOp.assign (.bool (false)) rfl ?_)
              refine XL.nil ?_
              refine X.ret (thenQ_ret (blockQ_ret (thenQ_ret (thenQ_ret (blockQ_ret (thenQ_ret (retEnd (L' := L) [.agg #[(.slice none 0 0), (.slice none 0 0)], .bool (false)] (.tuple #[.agg #[(.slice none 0 0), (.slice none 0 0)], .bool (false)]) (.cell rfl (loadNV [(.slice none 0 0), (.slice none 0 0)] Tryz.isAgg39 Tryz.sizeOf39 rfl (Rd.ownN [_, _] rfl rfl)) (.tmp rfl .nil)) rfl (FLe.trans (FLe.trans le1 leG1) le4) (FLe.refl _) (Sub.drop (Sub.drop (Sub.drop (Sub.drop (Sub.drop (Sub.drop (Sub.refl _))))))) ?_)))))))
              have e : undB ar rs f xs u = ([], [], false) := undB_steps (undGo_fail (by omega) hgo hpu1)
              exact ⟨_, _, by rw [e], by rw [e]; exact IntsF.nilV, by rw [e]; exact SlOf.nilV, rfl⟩
            · have hpu1 : (fillL u (xs.getD k (0, 0, [])).2.2).isSome = true := by simpa using h5
              refine X.skip ?_
              refine X.seq ?_
              refine X.draw [slH 78 3 sv m cs, cellsH b5 [x1, sv] 39, cellsH b4 [(.slice none 0 0), (.slice none 0 0)] 39, cellsH b3 [uv] 48, cellsH b2 [fv, xsv] 39, cellsH b1 [arv, rsv] 45] L 20 [[], [], [], [], [], [], [], [], [], [], [], [], [], [], [], [], [], [], [], []] [[], [0], [], [], [], [4], [], [5, 6], [7], [8], [2, 3, 9], [], [11], [], [12, 13], [14], [15], [], [10, 16, 17], [18]] (phiL [fun us v => v = ptr b5 1, fun us v => v = sv, fun us v => v = (.agg #[uv] : Value), fun us v => v = cv, fun us v => v = ptr b2 1, fun us v => v = xsv, fun us v => v = (.int .i64 (((k : Nat) : Int)) : Value), fun us v => v = (.pointer (some (elemA xsv (k * 3))) : Value), fun us v => v = (.pointer (some (elemA xsv (k * 3))) : Value), fun us v => v = (.int .i64 ((xs.getD k (0, 0, [])).1) : Value), fun us v => v = (.int .i64 (((movedL u cur (((xs.getD k (0, 0, [])).1).toNat) : Nat) : Int)) : Value), fun us v => v = ptr b2 1, fun us v => v = xsv, fun us v => v = (.int .i64 (((k : Nat) : Int)) : Value), fun us v => v = (.pointer (some (elemA xsv (k * 3))) : Value), fun us v => v = (.pointer (some (elemA xsv (k * 3 + 1))) : Value), fun us v => v = (.int .i64 ((xs.getD k (0, 0, [])).2.1) : Value), fun us v => v = u1, fun us v => v = (.agg #[.int .i64 (((movedL u cur (((xs.getD k (0, 0, [])).1).toNat) : Nat) : Int)), .int .i64 ((xs.getD k (0, 0, [])).2.1), u1] : Value), fun us v => ∃ b, v = .slice (some ⟨b, 0, none⟩) 1 1]) (ownL [fun us v => [], fun us v => [], fun us v => [], fun us v => [], fun us v => [], fun us v => [], fun us v => [], fun us v => [], fun us v => [], fun us v => [], fun us v => [], fun us v => [], fun us v => [], fun us v => [], fun us v => [], fun us v => [], fun us v => [], fun us v => [], fun us v => [], fun us v => [slH 78 3 v 1 [.int .i64 (((movedL u cur (((xs.getD k (0, 0, [])).1).toNat) : Nat) : Int)), .int .i64 ((xs.getD k (0, 0, [])).2.1), u1]]]) mixed rfl rfl (by kernel_rfl) ?_ ?_
              · refine stepsP.cons (fun vals R hpZ => ?_) ?_
                · refine XG.op (XOp.fieldP (b := b5) (1) Tryz.runUnderlying39 rfl Tryz.sizeOf37 (by decide) rfl rfl ?_)
                  exact ⟨rfl, rfl, rfl⟩
                refine stepsP.cons (fun vals R hpZ => ?_) ?_
                · rw [(envs_of_sat (l := [(0, ptr b5 1)]) ⟨hpZ 0 (by decide), trivial⟩).symm]
                  refine XG.op (XOp.load1 (v := sv) Tryz.isAgg37 rfl (Rd.own [_] rfl rfl) ?_)
                  exact ⟨rfl, rfl, rfl⟩
                refine stepsP.cons (fun vals R hpZ => ?_) ?_
                · refine XG.op (XOp.loadN [uv] Tryz.isAgg48 Tryz.sizeOf48 rfl rfl (Rd.ownN [_, _, _] rfl rfl) ?_)
                  exact ⟨rfl, rfl, rfl⟩
                refine stepsP.cons (fun vals R hpZ => ?_) ?_
                · refine XG.op (XOp.move (cv) rfl ?_)
                  exact ⟨rfl, rfl, rfl⟩
                refine stepsP.cons (fun vals R hpZ => ?_) ?_
                · refine XG.op (XOp.fieldP (b := b2) (1) Tryz.runUnderlying39 rfl Tryz.sizeOf37 (by decide) rfl rfl ?_)
                  exact ⟨rfl, rfl, rfl⟩
                refine stepsP.cons (fun vals R hpZ => ?_) ?_
                · rw [(envs_of_sat (l := [(4, ptr b2 1)]) ⟨hpZ 4 (by decide), trivial⟩).symm]
                  refine XG.op (XOp.load1 (v := xsv) Tryz.isAgg37 rfl (Rd.own [_, _, _, _] rfl rfl) ?_)
                  exact ⟨rfl, rfl, rfl⟩
                refine stepsP.cons (fun vals R hpZ => ?_) ?_
                · refine XG.op (XOp.move (.int .i64 (((k : Nat) : Int))) rfl ?_)
                  exact ⟨rfl, rfl, rfl⟩
                refine stepsP.cons (fun vals R hpZ => ?_) ?_
                · rw [(envs_of_sat (l := [(5, xsv), (6, (.int .i64 (((k : Nat) : Int)) : Value))]) ⟨hpZ 5 (by decide), hpZ 6 (by decide), trivial⟩).symm]
                  refine XG.op (XOp.indexS (v := xsv) (i := ((k : Nat) : Int)) (n := (xs).length) k Tryz.runUnderlying37 Tryz.sizeOf78 rfl rfl rfl hxs.slv (by omega) rfl ?_)
                  exact ⟨rfl, rfl, rfl⟩
                refine stepsP.cons (fun vals R hpZ => ?_) ?_
                · rw [(envs_of_sat (l := [(7, (.pointer (some (elemA xsv (k * 3))) : Value))]) ⟨hpZ 7 (by decide), trivial⟩).symm]
                  refine XG.op (XOp.fieldE (v := xsv) (k * 3) Tryz.runUnderlying78 rfl Tryz.sizeOf2 (by decide) rfl rfl ?_)
                  exact ⟨rfl, rfl, rfl⟩
                refine stepsP.cons (fun vals R hpZ => ?_) ?_
                · rw [(envs_of_sat (l := [(8, (.pointer (some (elemA xsv (k * 3))) : Value))]) ⟨hpZ 8 (by decide), trivial⟩).symm]
                  refine XG.op (XOp.load1 (v := .int .i64 ((xs.getD k (0, 0, [])).1)) Tryz.isAgg2 rfl (hr2 _) ?_)
                  exact ⟨rfl, rfl, rfl⟩
                refine stepsP.cons (fun vals R hpZ => ?_) ?_
                · rw [(envs_of_sat (l := [(2, (.agg #[uv] : Value)), (3, cv), (9, (.int .i64 ((xs.getD k (0, 0, [])).1) : Value))]) ⟨hpZ 2 (by decide), hpZ 3 (by decide), hpZ 9 (by decide), trivial⟩).symm]
                  refine XG.op (XOp.call (args := [.agg #[uv], cv, .int .i64 ((((xs.getD k (0, 0, [])).1).toNat : Nat) : Int)]) Tryz.call40 (by rw [show ((((xs.getD k (0, 0, [])).1).toNat : Nat) : Int) = (xs.getD k (0, 0, [])).1 from by omega]; rfl) (l7Moved_spec (p := ((xs.getD k (0, 0, [])).1).toNat) hu hcv (hp := (by have := hak (by omega); omega)) (hsl := (by first | assumption | rfl | omega | (left; simp; done) | (right; simp; done))) (hsb := (hsk2)) (htl := (by first | assumption | rfl | omega | (left; simp; done) | (right; simp; done))) (htg := (fun k hk => termOk_ge hno hk))) ?_)
                  rintro _ _ _ _ ⟨rfl, rfl, rfl⟩
                  exact ⟨rfl, rfl, rfl⟩
                refine stepsP.cons (fun vals R hpZ => ?_) ?_
                · refine XG.op (XOp.fieldP (b := b2) (1) Tryz.runUnderlying39 rfl Tryz.sizeOf37 (by decide) rfl rfl ?_)
                  exact ⟨rfl, rfl, rfl⟩
                refine stepsP.cons (fun vals R hpZ => ?_) ?_
                · rw [(envs_of_sat (l := [(11, ptr b2 1)]) ⟨hpZ 11 (by decide), trivial⟩).symm]
                  refine XG.op (XOp.load1 (v := xsv) Tryz.isAgg37 rfl (Rd.own [_, _, _, _] rfl rfl) ?_)
                  exact ⟨rfl, rfl, rfl⟩
                refine stepsP.cons (fun vals R hpZ => ?_) ?_
                · refine XG.op (XOp.move (.int .i64 (((k : Nat) : Int))) rfl ?_)
                  exact ⟨rfl, rfl, rfl⟩
                refine stepsP.cons (fun vals R hpZ => ?_) ?_
                · rw [(envs_of_sat (l := [(12, xsv), (13, (.int .i64 (((k : Nat) : Int)) : Value))]) ⟨hpZ 12 (by decide), hpZ 13 (by decide), trivial⟩).symm]
                  refine XG.op (XOp.indexS (v := xsv) (i := ((k : Nat) : Int)) (n := (xs).length) k Tryz.runUnderlying37 Tryz.sizeOf78 rfl rfl rfl hxs.slv (by omega) rfl ?_)
                  exact ⟨rfl, rfl, rfl⟩
                refine stepsP.cons (fun vals R hpZ => ?_) ?_
                · rw [(envs_of_sat (l := [(14, (.pointer (some (elemA xsv (k * 3))) : Value))]) ⟨hpZ 14 (by decide), trivial⟩).symm]
                  refine XG.op (XOp.fieldE (v := xsv) (k * 3 + 1) Tryz.runUnderlying78 rfl Tryz.sizeOf2 (by decide) rfl rfl ?_)
                  exact ⟨rfl, rfl, rfl⟩
                refine stepsP.cons (fun vals R hpZ => ?_) ?_
                · rw [(envs_of_sat (l := [(15, (.pointer (some (elemA xsv (k * 3 + 1))) : Value))]) ⟨hpZ 15 (by decide), trivial⟩).symm]
                  refine XG.op (XOp.load1 (v := .int .i64 ((xs.getD k (0, 0, [])).2.1)) Tryz.isAgg2 rfl (hr3 _) ?_)
                  exact ⟨rfl, rfl, rfl⟩
                refine stepsP.cons (fun vals R hpZ => ?_) ?_
                · refine XG.op (XOp.move (u1) rfl ?_)
                  exact ⟨rfl, rfl, rfl⟩
                refine stepsP.cons (fun vals R hpZ => ?_) ?_
                · rw [(envs_of_sat (l := [(10, (.int .i64 (((movedL u cur (((xs.getD k (0, 0, [])).1).toNat) : Nat) : Int)) : Value)), (16, (.int .i64 ((xs.getD k (0, 0, [])).2.1) : Value)), (17, u1)]) ⟨hpZ 10 (by decide), hpZ 16 (by decide), hpZ 17 (by decide), trivial⟩).symm]
                  refine XG.op (XOp.build [.int .i64 (((movedL u cur (((xs.getD k (0, 0, [])).1).toNat) : Nat) : Int)), .int .i64 ((xs.getD k (0, 0, [])).2.1), u1] [.int .i64 (0), .int .i64 (0), (.slice none 0 0)] [(0, 1), (1, 1), (2, 1)] [(0, [.int .i64 (((movedL u cur (((xs.getD k (0, 0, [])).1).toNat) : Nat) : Int))]), (1, [.int .i64 ((xs.getD k (0, 0, [])).2.1)]), (2, [u1])] Tryz.runUnderlying78 Tryz.zeroValue78 rfl (.cons rfl Tryz.sizeOf2 (.cons rfl Tryz.sizeOf2 (.cons rfl Tryz.sizeOf22 PlacesAre.nil))) rfl (.cons rfl (.cons rfl (.cons (cells_one (IntsF.isSl f7_1hr)) CellsAre.nil))) ?_)
                  exact ⟨rfl, rfl, rfl⟩
                refine stepsP.cons (fun vals R hpZ => ?_) ?_
                · rw [(envs_of_sat (l := [(18, (.agg #[.int .i64 (((movedL u cur (((xs.getD k (0, 0, [])).1).toNat) : Nat) : Int)), .int .i64 ((xs.getD k (0, 0, [])).2.1), u1] : Value))]) ⟨hpZ 18 (by decide), trivial⟩).symm]
                  refine XG.op (XOp.buildSlice (s := 3) [.int .i64 (((movedL u cur (((xs.getD k (0, 0, [])).1).toNat) : Nat) : Int)), .int .i64 ((xs.getD k (0, 0, [])).2.1), u1] [.int .i64 (0), .int .i64 (0), (.slice none 0 0)] [(0, [.int .i64 (((movedL u cur (((xs.getD k (0, 0, [])).1).toNat) : Nat) : Int)), .int .i64 ((xs.getD k (0, 0, [])).2.1), u1])] Tryz.runUnderlying37 Tryz.sizeOf78 Tryz.zeroValue78 rfl (by decide) rfl (.cons rfl CellsAre.nil) rfl ?_)
                  intro v2 hv2
                  exact ⟨rfl, hv2, rfl⟩
                exact stepsP.nil
              · intro vals hphi
                have e0 : vals 0 = ptr b5 1 := hphi 0 (by decide)
                have e1 : vals 1 = sv := hphi 1 (by decide)
                have e2 : vals 2 = (.agg #[uv] : Value) := hphi 2 (by decide)
                have e3 : vals 3 = cv := hphi 3 (by decide)
                have e4 : vals 4 = ptr b2 1 := hphi 4 (by decide)
                have e5 : vals 5 = xsv := hphi 5 (by decide)
                have e6 : vals 6 = (.int .i64 (((k : Nat) : Int)) : Value) := hphi 6 (by decide)
                have e7 : vals 7 = (.pointer (some (elemA xsv (k * 3))) : Value) := hphi 7 (by decide)
                have e8 : vals 8 = (.pointer (some (elemA xsv (k * 3))) : Value) := hphi 8 (by decide)
                have e9 : vals 9 = (.int .i64 ((xs.getD k (0, 0, [])).1) : Value) := hphi 9 (by decide)
                have e10 : vals 10 = (.int .i64 (((movedL u cur (((xs.getD k (0, 0, [])).1).toNat) : Nat) : Int)) : Value) := hphi 10 (by decide)
                have e11 : vals 11 = ptr b2 1 := hphi 11 (by decide)
                have e12 : vals 12 = xsv := hphi 12 (by decide)
                have e13 : vals 13 = (.int .i64 (((k : Nat) : Int)) : Value) := hphi 13 (by decide)
                have e14 : vals 14 = (.pointer (some (elemA xsv (k * 3))) : Value) := hphi 14 (by decide)
                have e15 : vals 15 = (.pointer (some (elemA xsv (k * 3 + 1))) : Value) := hphi 15 (by decide)
                have e16 : vals 16 = (.int .i64 ((xs.getD k (0, 0, [])).2.1) : Value) := hphi 16 (by decide)
                have e17 : vals 17 = u1 := hphi 17 (by decide)
                have e18 : vals 18 = (.agg #[.int .i64 (((movedL u cur (((xs.getD k (0, 0, [])).1).toNat) : Nat) : Int)), .int .i64 ((xs.getD k (0, 0, [])).2.1), u1] : Value) := hphi 18 (by decide)
                have f19 : ∃ b, (vals 19) = .slice (some ⟨b, 0, none⟩) 1 1 := hphi 19 (by decide)
                generalize hu19 : vals 19 = u2 at f19
                rw [(envs_of_sat (l := [(0, ptr b5 1), (1, sv), (2, (.agg #[uv] : Value)), (3, cv), (4, ptr b2 1), (5, xsv), (6, (.int .i64 (((k : Nat) : Int)) : Value)), (7, (.pointer (some (elemA xsv (k * 3))) : Value)), (8, (.pointer (some (elemA xsv (k * 3))) : Value)), (9, (.int .i64 ((xs.getD k (0, 0, [])).1) : Value)), (10, (.int .i64 (((movedL u cur (((xs.getD k (0, 0, [])).1).toNat) : Nat) : Int)) : Value)), (11, ptr b2 1), (12, xsv), (13, (.int .i64 (((k : Nat) : Int)) : Value)), (14, (.pointer (some (elemA xsv (k * 3))) : Value)), (15, (.pointer (some (elemA xsv (k * 3 + 1))) : Value)), (16, (.int .i64 ((xs.getD k (0, 0, [])).2.1) : Value)), (17, u1), (18, (.agg #[.int .i64 (((movedL u cur (((xs.getD k (0, 0, [])).1).toNat) : Nat) : Int)), .int .i64 ((xs.getD k (0, 0, [])).2.1), u1] : Value)), (19, u2)]) ⟨e0, e1, e2, e3, e4, e5, e6, e7, e8, e9, e10, e11, e12, e13, e14, e15, e16, e17, e18, hu19, trivial⟩).symm]
                show XL _ _ _ _ _ _ _ (slH 78 3 u2 1 [.int .i64 (((movedL u cur (((xs.getD k (0, 0, [])).1).toNat) : Nat) : Int)), .int .i64 ((xs.getD k (0, 0, [])).2.1), u1] :: slH 78 3 sv m cs :: cellsH b5 [x1, sv] 39 :: cellsH b4 [(.slice none 0 0), (.slice none 0 0)] 39 :: cellsH b3 [uv] 48 :: cellsH b2 [fv, xsv] 39 :: cellsH b1 [arv, rsv] 45 :: L)
                refine XL.cons (XOp.append (m := 1) (bytes := 40) (cs := cs) [_] _ [.int .i64 (((movedL u cur (((xs.getD k (0, 0, [])).1).toNat) : Nat) : Int)), .int .i64 ((xs.getD k (0, 0, [])).2.1), u1] Tryz.runUnderlying37 Tryz.typeInfo78 rfl rfl rfl rfl rfl rfl rfl (SlV.own [] rfl) rfl (Rd.lit [] rfl) (ones_cons rfl (ones_cons rfl (ones_cons (one_sl (IntsF.isSl f7_1hr)) ones_nil))) (by (try simp only [List.length_append, List.length_nil, List.length_cons, List.length_singleton]); omega) (by (try simp only [List.length_append, List.length_nil, List.length_cons, List.length_singleton]); omega) ?_)
                intro v3 hs1 hn1 hm1
                have hc1 := StepsC.snoc hC (i := ((movedL u cur (((xs.getD k (0, 0, [])).1).toNat) : Nat) : Int)) (j := (xs.getD k (0, 0, [])).2.1) f7_1hr
                refine XL.cons (XOp.fieldP (b := b5) (1) Tryz.runUnderlying39 rfl Tryz.sizeOf37 (by decide) rfl rfl ?_)
                refine XL.cons (XOp.store1 (v := v3) [_, _] _ [x1, v3] Tryz.sizeOf37 rfl rfl (one_sl hs1) rfl rfl rfl ?_)
                refine XL.nil ?_
                refine X.region ?_
                refine XL.cons (XOp.fieldP (b := b2) (1) Tryz.runUnderlying39 rfl Tryz.sizeOf37 (by decide) rfl rfl ?_)
                refine XL.cons (XOp.load1 (v := xsv) Tryz.isAgg37 rfl (Rd.own [_, _, _, _, _] rfl rfl) ?_)
                refine XL.cons (XOp.move (.int .i64 (((k : Nat) : Int))) rfl ?_)
                refine XL.cons (XOp.indexS (v := xsv) (i := ((k : Nat) : Int)) (n := (xs).length) k Tryz.runUnderlying37 Tryz.sizeOf78 rfl rfl rfl hxs.slv (by omega) rfl ?_)
                refine XL.cons (XOp.fieldE (v := xsv) (k * 3 + 2) Tryz.runUnderlying78 rfl Tryz.sizeOf22 (by decide) rfl rfl ?_)
                refine XL.cons (XOp.load1 (v := a1) Tryz.isAgg22 rfl (hr4 _) ?_)
                refine XL.cons (XOp.assign (a1) rfl ?_)
                refine XL.nil ?_
                refine X.region ?_
                refine XL.cons (XOp.move (.int .i64 (((k : Nat) : Int))) rfl ?_)
                refine XL.cons (XOp.addR (a := ((k : Nat) : Int)) (b := 1) (((k + 1 : Nat) : Int)) rfl rfl (by omega) (by omega) ?_)
                refine XL.cons (XOp.assign (.int .i64 (((k + 1 : Nat) : Int))) rfl ?_)
                refine XL.nil ?_
                exact ⟨(k + 1, a1, (xs.getD k (0, 0, [])).2.2, v3, ss ++ [(((movedL u cur (((xs.getD k (0, 0, [])).1).toNat) : Nat) : Int), (xs.getD k (0, 0, [])).2.1, (fillL u ((xs.getD k (0, 0, [])).2.2)).getD [])], cs ++ [.int .i64 (((movedL u cur (((xs.getD k (0, 0, [])).1).toNat) : Nat) : Int)), .int .i64 ((xs.getD k (0, 0, [])).2.1), u1], (m) + 1, F4), _, (FLe.trans leG1 le4), (FLe.refl _), ⟨rfl, rfl, rfl, rfl, rfl, rfl, trivial⟩, (Sub.drop (Sub.cons (Sub.cons (Sub.cons (Sub.cons (Sub.cons (Sub.cons (Sub.refl _)))))))), ⟨rfl, (FLe.trans leG1 le4), (ha1), (by (try dsimp only) <;> omega), (by (try dsimp only); exact (nowL_succ (by omega)).symm), (hs1), (hc1), (by (try dsimp only); rw [List.length_append]; simp only [List.length_singleton]; omega), (by (try dsimp only); exact undGo_next (by omega) hgo hpu1), (by (try dsimp only) <;> omega)⟩, (by omega)⟩
        · refine X.exit (thenQ_exit (thenQ_exit (blockQ_exit ?_)))
          refine X.seq ?_
          refine X.region ?_
          refine XL.cons (XOp.loadN [x1, sv] Tryz.isAgg39 Tryz.sizeOf39 rfl rfl (Rd.ownN [_] rfl rfl) ?_)
          refine XL.cons (XOp.storeN (vs := [x1, sv]) [_, _] _ [x1, sv] Tryz.sizeOf39 rfl rfl rfl (ones_cons (one_sl (IntsF.isSl hr1)) (ones_cons (one_sl hsv) ones_nil)) rfl rfl rfl ?_)
          refine XL.cons (XOp.assign (.bool (true)) rfl ?_)
          refine XL.nil ?_
          refine X.freezeF [] _ _ rfl (fun F5 le5 hz1 => ?_)
          replace har := har.mono le5
          replace hrs := hrs.mono le5
          replace hf := hf.mono le5
          replace hxs := hxs.mono le5
          replace hu := hu.mono le5
          replace hr1 := hr1.mono le5
          replace hcv := hcv.mono le5
          replace hC := hC.mono le5
          have hf1 : StepsF F5 sv ss := CO.fz hC (by first | rfl | simp | omega) hz1.fz
          refine X.ret (retEnd (L' := L) [.agg #[x1, sv], .bool (true)] (.tuple #[.agg #[x1, sv], .bool (true)]) (.cell rfl (loadNV [x1, sv] Tryz.isAgg39 Tryz.sizeOf39 rfl (Rd.ownN [_] rfl rfl)) (.tmp rfl .nil)) rfl (FLe.trans (FLe.trans le1 leG1) le5) (FLe.refl _) (Sub.drop (Sub.drop (Sub.drop (Sub.drop (Sub.drop (Sub.refl _)))))) ?_)
          have e := undB_yes hwk hsk hpf1 (undGo_end (by omega) hgo)
          exact ⟨_, _, by rw [e], by rw [e]; exact hr1, by rw [e]; exact hf1, rfl⟩

/- laws.FnExactWalkUnder -/
set_option maxRecDepth 20000 in
theorem FnExactWalkUnder_does {F : FH} {L : List HP} {arv : Value} {ar : List Int} (har : IntsF F arv ar) {rsv : Value} {rs : List (List Int × List Int)} (hrs : PairsF F rsv rs) {fv : Value} {f : List Int} (hf : IntsF F fv f) {xsv : Value} {xs : List StepT} (hxs : StepsF F xsv xs) {sv : Value} {s : List (List Int)} (hs : RowsF F sv s) (hlar : ar.length ≤ 9223372036854775807) (hlrs : rs.length ≤ 9223372036854775807) (hbrs : ∀ i, i < rs.length → (rs.getD i ([], [])).1.length ≤ 9223372036854775807 ∧ (rs.getD i ([], [])).2.length ≤ 9223372036854775807) (hlf : f.length ≤ 9223372036854775807) (hlxs : xs.length ≤ 9223372036854775807) (hbxs : ∀ i, i < xs.length → (xs.getD i (0, 0, [])).2.2.length ≤ 9223372036854775807) (hls : s.length ≤ 9223372036854775807) (hbs : ∀ i, i < s.length → (s.getD i []).length ≤ 9223372036854775807) :
    Does Tryz.prog 3 [.agg #[arv, rsv], .agg #[fv, xsv], .agg #[sv]] F (L) (fun v F' L' => (.bool (true) : Value) = v ∧ F = F' ∧ L = L') := by
  refine Does.of_X Tryz.func3 rfl rfl rfl ?_
  have hnc := undB_bounds (ar := ar) (rs := rs) (f := f) (ss := xs) (s := s)
  have hnd := hnc.2.1
  have hne := hnc.2.2
  refine X.seq ?_
  refine X.region ?_
  refine XL.cons (XOp.box [arv, rsv] rfl rfl ?_)
  intro b1
  refine XL.cons (XOp.box [fv, xsv] rfl rfl ?_)
  intro b2
  refine XL.cons (XOp.box [sv] rfl rfl ?_)
  intro b3
  refine XL.cons (XOp.assign (.bool (false)) rfl ?_)
  refine XL.nil ?_
  refine X.seq ?_
  refine X.region ?_
  refine XL.cons (XOp.assign (.int .i64 (1048576)) rfl ?_)
  refine XL.nil ?_
  refine X.seq ?_
  refine X.region ?_
  refine XL.cons (XOp.loadN [arv, rsv] Tryz.isAgg27 Tryz.sizeOf27 rfl rfl (Rd.ownN [_, _] rfl rfl) ?_)
  refine XL.cons (XOp.move (.int .i64 (1048576)) rfl ?_)
  refine XL.cons (XOp.call (args := [.agg #[arv, rsv], .int .i64 (1048576)]) Tryz.call5 rfl (szSystem_spec (z := 1048576) har hrs (hz := (by first | assumption | rfl | omega | (left; simp; done) | (right; simp; done))) (hal := (by first | assumption | rfl | omega | (left; simp; done) | (right; simp; done))) (hrl := (by first | assumption | rfl | omega | (left; simp; done) | (right; simp; done))) (hrb := (by first | assumption | rfl | omega | (left; simp; done) | (right; simp; done)))) ?_)
  rintro _ _ _ _ ⟨rfl, rfl, rfl⟩
  refine XL.cons (XOp.assign (.int .i64 (dec 1048576 (ar.length + szR rs))) rfl ?_)
  refine XL.nil ?_
  refine X.seq ?_
  refine X.seq ?_
  refine X.region ?_
  refine XL.cons (XOp.move (.int .i64 (dec 1048576 (ar.length + szR rs))) rfl ?_)
  refine XL.cons (XOp.lss (a := dec 1048576 (ar.length + szR rs)) (b := 0) rfl rfl ?_)
  refine XL.nil ?_
  refine X.condD (p := (dec 1048576 (ar.length + szR rs) : Int) < 0) rfl (fun h1 => ?_) (fun h1 => ?_)
  · refine X.seq ?_
    refine X.region ?_
    refine XL.cons (XOp.assign (.bool (true)) rfl ?_)
    refine XL.nil ?_
    refine X.ret (thenQ_ret (retEnd (L' := L) [.bool (true)] (.bool (true)) (.tmp rfl .nil) rfl (FLe.refl _) (FLe.refl _) (Sub.drop (Sub.drop (Sub.drop (Sub.refl _)))) ?_))
    exact ⟨rfl, rfl, rfl⟩
  · have hd1 := dec_le2 h1 (by omega)
    have hzrs := szR_le (rs := rs)
    have hirs := hzrs.2
    have hcrs : ∀ i, i < rs.length → (rs.getD i ([], [])).1.length ≤ 4000000 ∧ (rs.getD i ([], [])).2.length ≤ 4000000 := fun i hi => by have := hirs i hi; omega
    have hfrs := flatPair_len rs
    refine X.skip ?_
    refine X.seq ?_
    refine X.region ?_
    refine XL.cons (XOp.loadN [fv, xsv] Tryz.isAgg30 Tryz.sizeOf30 rfl rfl (Rd.ownN [_] rfl rfl) ?_)
    refine XL.cons (XOp.move (.int .i64 (dec 1048576 (ar.length + szR rs))) rfl ?_)
    refine XL.cons (XOp.call (args := [.agg #[fv, xsv], .int .i64 (dec 1048576 (ar.length + szR rs))]) Tryz.call6 rfl (szWalk_spec (z := dec 1048576 (ar.length + szR rs)) hf hxs (hz := (by first | assumption | rfl | omega | (left; simp; done) | (right; simp; done))) (hal := (by first | assumption | rfl | omega | (left; simp; done) | (right; simp; done))) (hrl := (by first | assumption | rfl | omega | (left; simp; done) | (right; simp; done))) (hrb := (by first | assumption | rfl | omega | (left; simp; done) | (right; simp; done)))) ?_)
    rintro _ _ _ _ ⟨rfl, rfl, rfl⟩
    refine XL.cons (XOp.assign (.int .i64 (dec (dec 1048576 (ar.length + szR rs)) (f.length + szG lenS xs))) rfl ?_)
    refine XL.nil ?_
    refine X.seq ?_
    refine X.seq ?_
    refine X.region ?_
    refine XL.cons (XOp.move (.int .i64 (dec (dec 1048576 (ar.length + szR rs)) (f.length + szG lenS xs))) rfl ?_)
    refine XL.cons (XOp.lss (a := dec (dec 1048576 (ar.length + szR rs)) (f.length + szG lenS xs)) (b := 0) rfl rfl ?_)
    refine XL.nil ?_
    refine X.condD (p := (dec (dec 1048576 (ar.length + szR rs)) (f.length + szG lenS xs) : Int) < 0) rfl (fun h2 => ?_) (fun h2 => ?_)
    · refine X.seq ?_
      refine X.region ?_
      refine XL.cons (XOp.assign (.bool (true)) rfl ?_)
      refine XL.nil ?_
      refine X.ret (thenQ_ret (retEnd (L' := L) [.bool (true)] (.bool (true)) (.tmp rfl .nil) rfl (FLe.refl _) (FLe.refl _) (Sub.drop (Sub.drop (Sub.drop (Sub.refl _)))) ?_))
      exact ⟨rfl, rfl, rfl⟩
    · have hd2 := dec_le2 h2 (by omega)
      have hzxs := szG_le (f := lenS) (l := xs) ((0 : Int), (0 : Int), ([] : List Int))
      have hixs := hzxs.2
      have hcxs : ∀ i, i < xs.length → (xs.getD i (0, 0, [])).2.2.length ≤ 4000000 := fun i hi => by have h9 := hixs i hi; have h8 : lenS (xs.getD i (0, 0, [])) = (xs.getD i (0, 0, [])).2.2.length := rfl; omega
      have hfxs := flatStep_len xs
      have hq9xs : szG lenS xs = xs.length + gTo lenS xs xs.length := rfl
      refine X.skip ?_
      refine X.seq ?_
      refine X.region ?_
      refine XL.cons (XOp.loadN [sv] Tryz.isAgg33 Tryz.sizeOf33 rfl rfl (Rd.ownN [] rfl rfl) ?_)
      refine XL.cons (XOp.move (.int .i64 (dec (dec 1048576 (ar.length + szR rs)) (f.length + szG lenS xs))) rfl ?_)
      refine XL.cons (XOp.call (args := [.agg #[sv], .int .i64 (dec (dec 1048576 (ar.length + szR rs)) (f.length + szG lenS xs))]) Tryz.call7 rfl (szSubst_spec (z := dec (dec 1048576 (ar.length + szR rs)) (f.length + szG lenS xs)) hs (hz := (by first | assumption | rfl | omega | (left; simp; done) | (right; simp; done))) (hrl := (by first | assumption | rfl | omega | (left; simp; done) | (right; simp; done))) (hrb := (by first | assumption | rfl | omega | (left; simp; done) | (right; simp; done)))) ?_)
      rintro _ _ _ _ ⟨rfl, rfl, rfl⟩
      refine XL.cons (XOp.assign (.int .i64 (dec (dec (dec 1048576 (ar.length + szR rs)) (f.length + szG lenS xs)) (szG lenR s))) rfl ?_)
      refine XL.nil ?_
      refine X.seq ?_
      refine X.seq ?_
      refine X.region ?_
      refine XL.cons (XOp.move (.int .i64 (dec (dec (dec 1048576 (ar.length + szR rs)) (f.length + szG lenS xs)) (szG lenR s))) rfl ?_)
      refine XL.cons (XOp.lss (a := dec (dec (dec 1048576 (ar.length + szR rs)) (f.length + szG lenS xs)) (szG lenR s)) (b := 0) rfl rfl ?_)
      refine XL.nil ?_
      refine X.condD (p := (dec (dec (dec 1048576 (ar.length + szR rs)) (f.length + szG lenS xs)) (szG lenR s) : Int) < 0) rfl (fun h3 => ?_) (fun h3 => ?_)
      · refine X.seq ?_
        refine X.region ?_
        refine XL.cons (XOp.assign (.bool (true)) rfl ?_)
        refine XL.nil ?_
        refine X.ret (thenQ_ret (retEnd (L' := L) [.bool (true)] (.bool (true)) (.tmp rfl .nil) rfl (FLe.refl _) (FLe.refl _) (Sub.drop (Sub.drop (Sub.drop (Sub.refl _)))) ?_))
        exact ⟨rfl, rfl, rfl⟩
      · have hd3 := dec_le2 h3 (by omega)
        have hzs := szG_le (f := lenR) (l := s) ([] : List Int)
        have his := hzs.2
        have hcs : ∀ i, i < s.length → (s.getD i []).length ≤ 4000000 := fun i hi => by have h9 := his i hi; have h8 : lenR (s.getD i []) = (s.getD i []).length := rfl; omega
        have hfs := flatRow_len s
        have hq9s : szG lenR s = s.length + gTo lenR s s.length := rfl
        refine X.skip ?_
        refine X.seq ?_
        refine X.drawG [cellsH b3 [sv] 33, cellsH b2 [fv, xsv] 30, cellsH b1 [arv, rsv] 27] L 12 [[], [], [], [], [], [], [], [6], [6], [], [], [6, 10]] [[], [0], [], [2], [], [4], [1, 3, 5], [6], [6, 7], [6, 7], [], [6, 8, 10]] [[], [], [], [], [], [], [], [], [], [], [], [10]] (phiG [fun FF us v => v = (.agg #[arv, rsv] : Value), fun FF us v => (.agg #[((aggAt v 0)), ((aggAt v 1))] : Value) = v ∧ (IntsF FF ((aggAt v 0)) ar) ∧ (PairsF FF ((aggAt v 1)) rs), fun FF us v => v = (.agg #[fv, xsv] : Value), fun FF us v => (.agg #[((aggAt v 0)), ((aggAt v 1))] : Value) = v ∧ (IntsF FF ((aggAt v 0)) f) ∧ (StepsF FF ((aggAt v 1)) xs), fun FF us v => v = (.agg #[sv] : Value), fun FF us v => (.agg #[((aggAt v 0))] : Value) = v ∧ (RowsF FF ((aggAt v 0)) s), fun FF us v => (.tuple #[.agg #[((aggAt (tupAt v 0) 0)), ((aggAt (tupAt v 0) 1))], .bool ((undB ar rs f xs s).2.2)] : Value) = v ∧ (IntsF FF ((aggAt (tupAt v 0) 0)) (undB ar rs f xs s).1) ∧ (StepsF FF ((aggAt (tupAt v 0) 1)) (undB ar rs f xs s).2.1), fun FF us v => v = (.tuple #[.agg #[((aggAt (tupAt (us.getD 0 undef) 0) 0)), ((aggAt (tupAt (us.getD 0 undef) 0) 1))], .bool ((undB ar rs f xs s).2.2)] : Value), fun FF us v => v = (.agg #[((aggAt (tupAt (us.getD 0 undef) 0) 0)), ((aggAt (tupAt (us.getD 0 undef) 0) 1))] : Value), fun FF us v => v = (.bool ((undB ar rs f xs s).2.2) : Value), fun FF us v => v = ptr (blk v) 0, fun FF us v => True]) (ownL [fun us v => [], fun us v => [], fun us v => [], fun us v => [], fun us v => [], fun us v => [], fun us v => [], fun us v => [], fun us v => [], fun us v => [], fun us v => [cellsH (blk v) [(.slice none 0 0), (.slice none 0 0)] 39], fun us v => [cellsH (blk (us.getD 1 undef)) [((aggAt (tupAt (us.getD 0 undef) 0) 0)), ((aggAt (tupAt (us.getD 0 undef) 0) 1))] 39]]) mixed rfl rfl (by kernel_rfl) (by kernel_rfl) (MonoG.get (MonoG.cons (fun le h => h) (MonoG.cons (fun le h => ⟨h.1, h.2.1.mono le, h.2.2.mono le⟩) (MonoG.cons (fun le h => h) (MonoG.cons (fun le h => ⟨h.1, h.2.1.mono le, h.2.2.mono le⟩) (MonoG.cons (fun le h => h) (MonoG.cons (fun le h => ⟨h.1, h.2.mono le⟩) (MonoG.cons (fun le h => ⟨h.1, h.2.1.mono le, h.2.2.mono le⟩) (MonoG.cons (fun le h => h) (MonoG.cons (fun le h => h) (MonoG.cons (fun le h => h) (MonoG.cons (fun le h => h) (MonoG.cons (fun le h => h) MonoG.nil))))))))))))) ?_ ?_
        · refine stepsG.cons (fun vals Fs R leFs hpZ => ?_) ?_
          · replace har := har.mono leFs
            replace hrs := hrs.mono leFs
            replace hf := hf.mono leFs
            replace hxs := hxs.mono leFs
            replace hs := hs.mono leFs
            refine XG.op (XOp.loadN [arv, rsv] Tryz.isAgg27 Tryz.sizeOf27 rfl rfl (Rd.ownN [_, _] rfl rfl) ?_)
            exact ⟨rfl, rfl⟩
          refine stepsG.cons (fun vals Fs R leFs hpZ => ?_) ?_
          · have e0 : vals 0 = (.agg #[arv, rsv] : Value) := hpZ 0 (by decide)
            replace har := har.mono leFs
            replace hrs := hrs.mono leFs
            replace hf := hf.mono leFs
            replace hxs := hxs.mono leFs
            replace hs := hs.mono leFs
            rw [(envs_of_sat (l := [(0, (.agg #[arv, rsv] : Value))]) ⟨e0, trivial⟩).symm]
            refine XG.op (XOp.call (args := [.agg #[arv, rsv]]) Tryz.call9 rfl (toSystem_spec har hrs (hla := (by first | assumption | rfl | omega | (left; simp; done) | (right; simp; done))) (hrl := (by first | assumption | rfl | omega | (left; simp; done) | (right; simp; done))) (hrb := (by first | assumption | rfl | omega | (left; simp; done) | (right; simp; done)))) ?_)
            rintro _ F5 _ le5 ⟨x8, x9, rfl, hr11, hr12, hr13, rfl⟩
            replace har := har.mono le5
            replace hrs := hrs.mono le5
            replace hf := hf.mono le5
            replace hxs := hxs.mono le5
            replace hs := hs.mono le5
            exact ⟨⟨rfl, hr11, hr12⟩, rfl⟩
          refine stepsG.cons (fun vals Fs R leFs hpZ => ?_) ?_
          · replace har := har.mono leFs
            replace hrs := hrs.mono leFs
            replace hf := hf.mono leFs
            replace hxs := hxs.mono leFs
            replace hs := hs.mono leFs
            refine XG.op (XOp.loadN [fv, xsv] Tryz.isAgg30 Tryz.sizeOf30 rfl rfl (Rd.ownN [_] rfl rfl) ?_)
            exact ⟨rfl, rfl⟩
          refine stepsG.cons (fun vals Fs R leFs hpZ => ?_) ?_
          · have e2 : vals 2 = (.agg #[fv, xsv] : Value) := hpZ 2 (by decide)
            replace har := har.mono leFs
            replace hrs := hrs.mono leFs
            replace hf := hf.mono leFs
            replace hxs := hxs.mono leFs
            replace hs := hs.mono leFs
            rw [(envs_of_sat (l := [(2, (.agg #[fv, xsv] : Value))]) ⟨e2, trivial⟩).symm]
            refine XG.op (XOp.call (args := [.agg #[fv, xsv]]) Tryz.call10 rfl (toWalk_spec hf hxs (hfl := (by first | assumption | rfl | omega | (left; simp; done) | (right; simp; done))) (hsl := (by first | assumption | rfl | omega | (left; simp; done) | (right; simp; done))) (hsb := (by first | assumption | rfl | omega | (left; simp; done) | (right; simp; done)))) ?_)
            rintro _ F6 _ le6 ⟨x10, x11, rfl, hr14, hr15, hr16, rfl⟩
            replace har := har.mono le6
            replace hrs := hrs.mono le6
            replace hf := hf.mono le6
            replace hxs := hxs.mono le6
            replace hs := hs.mono le6
            exact ⟨⟨rfl, hr14, hr15⟩, rfl⟩
          refine stepsG.cons (fun vals Fs R leFs hpZ => ?_) ?_
          · replace har := har.mono leFs
            replace hrs := hrs.mono leFs
            replace hf := hf.mono leFs
            replace hxs := hxs.mono leFs
            replace hs := hs.mono leFs
            refine XG.op (XOp.loadN [sv] Tryz.isAgg33 Tryz.sizeOf33 rfl rfl (Rd.ownN [] rfl rfl) ?_)
            exact ⟨rfl, rfl⟩
          refine stepsG.cons (fun vals Fs R leFs hpZ => ?_) ?_
          · have e4 : vals 4 = (.agg #[sv] : Value) := hpZ 4 (by decide)
            replace har := har.mono leFs
            replace hrs := hrs.mono leFs
            replace hf := hf.mono leFs
            replace hxs := hxs.mono leFs
            replace hs := hs.mono leFs
            rw [(envs_of_sat (l := [(4, (.agg #[sv] : Value))]) ⟨e4, trivial⟩).symm]
            refine XG.op (XOp.call (args := [.agg #[sv]]) Tryz.call11 rfl (toSubst_spec hs (hsl := (by first | assumption | rfl | omega | (left; simp; done) | (right; simp; done))) (hsb := (by first | assumption | rfl | omega | (left; simp; done) | (right; simp; done)))) ?_)
            rintro _ F7 _ le7 ⟨x12, rfl, hr17, hr18, rfl⟩
            replace har := har.mono le7
            replace hrs := hrs.mono le7
            replace hf := hf.mono le7
            replace hxs := hxs.mono le7
            replace hs := hs.mono le7
            exact ⟨⟨rfl, hr17⟩, rfl⟩
          refine stepsG.cons (fun vals Fs R leFs hpZ => ?_) ?_
          · obtain ⟨e1, f1_1hr1, f1_1hr2⟩ := hpZ 1 (by decide)
            obtain ⟨e3, f3_1hr1, f3_1hr2⟩ := hpZ 3 (by decide)
            obtain ⟨e5, f5_1hr⟩ := hpZ 5 (by decide)
            replace har := har.mono leFs
            replace hrs := hrs.mono leFs
            replace hf := hf.mono leFs
            replace hxs := hxs.mono leFs
            replace hs := hs.mono leFs
            rw [(envs_of_sat (l := [(1, (.agg #[((aggAt (vals 1) 0)), ((aggAt (vals 1) 1))] : Value)), (3, (.agg #[((aggAt (vals 3) 0)), ((aggAt (vals 3) 1))] : Value)), (5, (.agg #[((aggAt (vals 5) 0))] : Value))]) ⟨(e1).symm, (e3).symm, (e5).symm, trivial⟩).symm]
            refine XG.op (XOp.call (args := [.agg #[((aggAt (vals 1) 0)), ((aggAt (vals 1) 1))], .agg #[((aggAt (vals 3) 0)), ((aggAt (vals 3) 1))], .agg #[((aggAt (vals 5) 0))]]) Tryz.call8 rfl (sWalkUnder_spec f1_1hr1 f1_1hr2 f3_1hr1 f3_1hr2 f5_1hr (hla := (by first | assumption | rfl | omega | (left; simp; done) | (right; simp; done))) (hlr := (by first | assumption | rfl | omega | (left; simp; done) | (right; simp; done))) (hrb := (by first | assumption | rfl | omega | (left; simp; done) | (right; simp; done))) (hlf := (by first | assumption | rfl | omega | (left; simp; done) | (right; simp; done))) (hlss := (by first | assumption | rfl | omega | (left; simp; done) | (right; simp; done))) (hsb := (by first | assumption | rfl | omega | (left; simp; done) | (right; simp; done))) (hlrow := (by first | assumption | rfl | omega | (left; simp; done) | (right; simp; done))) (hrowb := (by first | assumption | rfl | omega | (left; simp; done) | (right; simp; done)))) ?_)
            rintro _ F8 _ le8 ⟨x13, x14, rfl, hr19, hr20, rfl⟩
            replace har := har.mono le8
            replace hrs := hrs.mono le8
            replace hf := hf.mono le8
            replace hxs := hxs.mono le8
            replace hs := hs.mono le8
            replace f1_1hr1 := f1_1hr1.mono le8
            replace f1_1hr2 := f1_1hr2.mono le8
            replace f3_1hr1 := f3_1hr1.mono le8
            replace f3_1hr2 := f3_1hr2.mono le8
            replace f5_1hr := f5_1hr.mono le8
            exact ⟨⟨rfl, hr19, hr20⟩, rfl⟩
          refine stepsG.cons (fun vals Fs R leFs hpZ => ?_) ?_
          · obtain ⟨e6, f6_1hr1, f6_1hr2⟩ := hpZ 6 (by decide)
            rw [(envs_of_sat (l := [(6, (.tuple #[.agg #[((aggAt (tupAt (vals 6) 0) 0)), ((aggAt (tupAt (vals 6) 0) 1))], .bool ((undB ar rs f xs s).2.2)] : Value))]) ⟨(e6).symm, trivial⟩).symm]
            refine XG.op (XOp.move (.tuple #[.agg #[((aggAt (tupAt (vals 6) 0) 0)), ((aggAt (tupAt (vals 6) 0) 1))], .bool ((undB ar rs f xs s).2.2)]) rfl ?_)
            exact ⟨rfl, rfl⟩
          refine stepsG.cons (fun vals Fs R leFs hpZ => ?_) ?_
          · obtain ⟨e6, f6_1hr1, f6_1hr2⟩ := hpZ 6 (by decide)
            have e7 : vals 7 = (.tuple #[.agg #[((aggAt (tupAt (vals 6) 0) 0)), ((aggAt (tupAt (vals 6) 0) 1))], .bool ((undB ar rs f xs s).2.2)] : Value) := hpZ 7 (by decide)
            rw [(envs_of_sat (l := [(6, (.tuple #[.agg #[((aggAt (tupAt (vals 6) 0) 0)), ((aggAt (tupAt (vals 6) 0) 1))], .bool ((undB ar rs f xs s).2.2)] : Value)), (7, (.tuple #[.agg #[((aggAt (tupAt (vals 6) 0) 0)), ((aggAt (tupAt (vals 6) 0) 1))], .bool ((undB ar rs f xs s).2.2)] : Value))]) ⟨(e6).symm, e7, trivial⟩).symm]
            refine XG.op (XOp.extract (.agg #[((aggAt (tupAt (vals 6) 0) 0)), ((aggAt (tupAt (vals 6) 0) 1))]) rfl rfl ?_)
            exact ⟨rfl, rfl⟩
          refine stepsG.cons (fun vals Fs R leFs hpZ => ?_) ?_
          · obtain ⟨e6, f6_1hr1, f6_1hr2⟩ := hpZ 6 (by decide)
            have e7 : vals 7 = (.tuple #[.agg #[((aggAt (tupAt (vals 6) 0) 0)), ((aggAt (tupAt (vals 6) 0) 1))], .bool ((undB ar rs f xs s).2.2)] : Value) := hpZ 7 (by decide)
            rw [(envs_of_sat (l := [(6, (.tuple #[.agg #[((aggAt (tupAt (vals 6) 0) 0)), ((aggAt (tupAt (vals 6) 0) 1))], .bool ((undB ar rs f xs s).2.2)] : Value)), (7, (.tuple #[.agg #[((aggAt (tupAt (vals 6) 0) 0)), ((aggAt (tupAt (vals 6) 0) 1))], .bool ((undB ar rs f xs s).2.2)] : Value))]) ⟨(e6).symm, e7, trivial⟩).symm]
            refine XG.op (XOp.extract (.bool ((undB ar rs f xs s).2.2)) rfl rfl ?_)
            exact ⟨rfl, rfl⟩
          refine stepsG.cons (fun vals Fs R leFs hpZ => ?_) ?_
          · replace har := har.mono leFs
            replace hrs := hrs.mono leFs
            replace hf := hf.mono leFs
            replace hxs := hxs.mono leFs
            replace hs := hs.mono leFs
            refine XG.op (XOp.alloc [(.slice none 0 0), (.slice none 0 0)] Tryz.zeroValue39 rfl ?_)
            intro b5
            exact ⟨rfl, rfl⟩
          refine stepsG.cons (fun vals Fs R leFs hpZ => ?_) ?_
          · obtain ⟨e6, f6_1hr1, f6_1hr2⟩ := hpZ 6 (by decide)
            have e8 : vals 8 = (.agg #[((aggAt (tupAt (vals 6) 0) 0)), ((aggAt (tupAt (vals 6) 0) 1))] : Value) := hpZ 8 (by decide)
            have e10 : vals 10 = ptr (blk (vals 10)) 0 := hpZ 10 (by decide)
            replace har := har.mono leFs
            replace hrs := hrs.mono leFs
            replace hf := hf.mono leFs
            replace hxs := hxs.mono leFs
            replace hs := hs.mono leFs
            rw [(envs_of_sat (l := [(6, (.tuple #[.agg #[((aggAt (tupAt (vals 6) 0) 0)), ((aggAt (tupAt (vals 6) 0) 1))], .bool ((undB ar rs f xs s).2.2)] : Value)), (8, (.agg #[((aggAt (tupAt (vals 6) 0) 0)), ((aggAt (tupAt (vals 6) 0) 1))] : Value)), (10, ptr (blk (vals 10)) 0)]) ⟨(e6).symm, e8, e10, trivial⟩).symm]
            show XG _ _ _ _ _ (cellsH (blk (vals 10)) [(.slice none 0 0), (.slice none 0 0)] 39 :: ([cellsH b3 [sv] 33, cellsH b2 [fv, xsv] 30, cellsH b1 [arv, rsv] 27] ++ R)) _
            refine XG.op (XOp.storeN (vs := [((aggAt (tupAt (vals 6) 0) 0)), ((aggAt (tupAt (vals 6) 0) 1))]) [] _ [((aggAt (tupAt (vals 6) 0) 0)), ((aggAt (tupAt (vals 6) 0) 1))] Tryz.sizeOf39 rfl rfl rfl (ones_cons (one_sl (IntsF.isSl f6_1hr1)) (ones_cons (one_sl (StepsF.isSl f6_1hr2)) ones_nil)) rfl rfl rfl ?_)
            exact ⟨trivial, rfl⟩
          exact stepsG.nil
        · intro vals F9 le9 hphi
          have e0 : vals 0 = (.agg #[arv, rsv] : Value) := hphi 0 (by decide)
          obtain ⟨e1, f1_1hr1, f1_1hr2⟩ := hphi 1 (by decide)
          have e2 : vals 2 = (.agg #[fv, xsv] : Value) := hphi 2 (by decide)
          obtain ⟨e3, f3_1hr1, f3_1hr2⟩ := hphi 3 (by decide)
          have e4 : vals 4 = (.agg #[sv] : Value) := hphi 4 (by decide)
          obtain ⟨e5, f5_1hr⟩ := hphi 5 (by decide)
          obtain ⟨e6, f6_1hr1, f6_1hr2⟩ := hphi 6 (by decide)
          have e7 : vals 7 = (.tuple #[.agg #[((aggAt (tupAt (vals 6) 0) 0)), ((aggAt (tupAt (vals 6) 0) 1))], .bool ((undB ar rs f xs s).2.2)] : Value) := hphi 7 (by decide)
          have e8 : vals 8 = (.agg #[((aggAt (tupAt (vals 6) 0) 0)), ((aggAt (tupAt (vals 6) 0) 1))] : Value) := hphi 8 (by decide)
          have e9 : vals 9 = (.bool ((undB ar rs f xs s).2.2) : Value) := hphi 9 (by decide)
          have e10 : vals 10 = ptr (blk (vals 10)) 0 := hphi 10 (by decide)
          generalize hu1 : ((aggAt (vals 1) 0)) = u1 at e0 e1 f1_1hr1 f1_1hr2 e2 e3 f3_1hr1 f3_1hr2 e4 e5 f5_1hr e6 f6_1hr1 f6_1hr2 e7 e8 e9 e10
          generalize hu2 : ((aggAt (vals 1) 1)) = u2 at e0 e1 f1_1hr1 f1_1hr2 e2 e3 f3_1hr1 f3_1hr2 e4 e5 f5_1hr e6 f6_1hr1 f6_1hr2 e7 e8 e9 e10
          generalize hu3 : ((aggAt (vals 3) 0)) = u3 at e0 e1 f1_1hr1 f1_1hr2 e2 e3 f3_1hr1 f3_1hr2 e4 e5 f5_1hr e6 f6_1hr1 f6_1hr2 e7 e8 e9 e10
          generalize hu4 : ((aggAt (vals 3) 1)) = u4 at e0 e1 f1_1hr1 f1_1hr2 e2 e3 f3_1hr1 f3_1hr2 e4 e5 f5_1hr e6 f6_1hr1 f6_1hr2 e7 e8 e9 e10
          generalize hu5 : ((aggAt (vals 5) 0)) = u5 at e0 e1 f1_1hr1 f1_1hr2 e2 e3 f3_1hr1 f3_1hr2 e4 e5 f5_1hr e6 f6_1hr1 f6_1hr2 e7 e8 e9 e10
          generalize hu6 : ((aggAt (tupAt (vals 6) 0) 0)) = u6 at e0 e1 f1_1hr1 f1_1hr2 e2 e3 f3_1hr1 f3_1hr2 e4 e5 f5_1hr e6 f6_1hr1 f6_1hr2 e7 e8 e9 e10
          generalize hu7 : ((aggAt (tupAt (vals 6) 0) 1)) = u7 at e0 e1 f1_1hr1 f1_1hr2 e2 e3 f3_1hr1 f3_1hr2 e4 e5 f5_1hr e6 f6_1hr1 f6_1hr2 e7 e8 e9 e10
          generalize hu8 : blk (vals 10) = b6 at e0 e1 f1_1hr1 f1_1hr2 e2 e3 f3_1hr1 f3_1hr2 e4 e5 f5_1hr e6 f6_1hr1 f6_1hr2 e7 e8 e9 e10
          rw [(envs_of_sat (l := [(0, (.agg #[arv, rsv] : Value)), (1, (.agg #[u1, u2] : Value)), (2, (.agg #[fv, xsv] : Value)), (3, (.agg #[u3, u4] : Value)), (4, (.agg #[sv] : Value)), (5, (.agg #[u5] : Value)), (6, (.tuple #[.agg #[u6, u7], .bool ((undB ar rs f xs s).2.2)] : Value)), (7, (.tuple #[.agg #[u6, u7], .bool ((undB ar rs f xs s).2.2)] : Value)), (8, (.agg #[u6, u7] : Value)), (9, (.bool ((undB ar rs f xs s).2.2) : Value)), (10, ptr b6 0)]) ⟨e0, (e1).symm, e2, (e3).symm, e4, (e5).symm, (e6).symm, e7, e8, e9, e10, trivial⟩).symm]
          replace har := har.mono le9
          replace hrs := hrs.mono le9
          replace hf := hf.mono le9
          replace hxs := hxs.mono le9
          replace hs := hs.mono le9
          show XL _ _ _ _ _ _ _ (cellsH b6 [u6, u7] 39 :: cellsH b3 [sv] 33 :: cellsH b2 [fv, xsv] 30 :: cellsH b1 [arv, rsv] 27 :: L)
          refine XL.cons (XOp.assign (.bool ((undB ar rs f xs s).2.2)) rfl ?_)
          refine XL.nil ?_
          refine X.seq ?_
          refine X.region ?_
          refine XL.cons (XOp.loadN [arv, rsv] Tryz.isAgg27 Tryz.sizeOf27 rfl rfl (Rd.ownN [_, _, _] rfl rfl) ?_)
          refine XL.cons (XOp.thawL ?_)
          refine id (XOp.call (args := [.agg #[arv, rsv]]) Tryz.call9 rfl (toSystem_spec har hrs (hla := (by first | assumption | rfl | omega | (left; simp; done) | (right; simp; done))) (hrl := (by first | assumption | rfl | omega | (left; simp; done) | (right; simp; done))) (hrb := (by first | assumption | rfl | omega | (left; simp; done) | (right; simp; done)))) ?_)
          rintro _ F10 _ le10 ⟨x15, x16, rfl, hr21, hr22, hr23, rfl⟩
          refine ⟨[intsH 2 x15 ar, pairsD 2 110 x16 rs], hr23, ?_⟩
          show XL _ _ _ _ _ _ _ (intsH 2 x15 ar :: pairsD 2 110 x16 rs :: cellsH b6 [u6, u7] 39 :: cellsH b3 [sv] 33 :: cellsH b2 [fv, xsv] 30 :: cellsH b1 [arv, rsv] 27 :: L)
          refine XL.cons (XOp.alloc [(.slice none 0 0), (.slice none 0 0)] Tryz.zeroValue45 rfl ?_)
          intro b7
          refine XL.cons (XOp.storeN (vs := [x15, x16]) [] _ [x15, x16] Tryz.sizeOf45 rfl rfl rfl (ones_cons (one_sl (IntsF.isSl hr21)) (ones_cons (one_sl (PairsF.isSl hr22)) ones_nil)) rfl rfl rfl ?_)
          refine XL.nil ?_
          refine X.seq ?_
          refine X.region ?_
          refine XL.cons (XOp.loadN [fv, xsv] Tryz.isAgg30 Tryz.sizeOf30 rfl rfl (Rd.ownN [_, _, _, _, _] rfl rfl) ?_)
          refine XL.cons (XOp.thawL ?_)
          refine id (XOp.call (args := [.agg #[fv, xsv]]) Tryz.call10 rfl (toWalk_spec hf hxs (hfl := (by first | assumption | rfl | omega | (left; simp; done) | (right; simp; done))) (hsl := (by first | assumption | rfl | omega | (left; simp; done) | (right; simp; done))) (hsb := (by first | assumption | rfl | omega | (left; simp; done) | (right; simp; done)))) ?_)
          rintro _ F11 _ le11 ⟨x17, x18, rfl, hr24, hr25, hr26, rfl⟩
          refine ⟨[intsH 2 x17 f, stepsD 2 78 x18 xs], hr26, ?_⟩
          show XL _ _ _ _ _ _ _ (intsH 2 x17 f :: stepsD 2 78 x18 xs :: cellsH b7 [x15, x16] 45 :: intsH 2 x15 ar :: pairsD 2 110 x16 rs :: cellsH b6 [u6, u7] 39 :: cellsH b3 [sv] 33 :: cellsH b2 [fv, xsv] 30 :: cellsH b1 [arv, rsv] 27 :: L)
          refine XL.cons (XOp.alloc [(.slice none 0 0), (.slice none 0 0)] Tryz.zeroValue39 rfl ?_)
          intro b8
          refine XL.cons (XOp.storeN (vs := [x17, x18]) [] _ [x17, x18] Tryz.sizeOf39 rfl rfl rfl (ones_cons (one_sl (IntsF.isSl hr24)) (ones_cons (one_sl (StepsF.isSl hr25)) ones_nil)) rfl rfl rfl ?_)
          refine XL.nil ?_
          refine X.seq ?_
          refine X.region ?_
          refine XL.cons (XOp.loadN [sv] Tryz.isAgg33 Tryz.sizeOf33 rfl rfl (Rd.ownN [_, _, _, _, _, _, _] rfl rfl) ?_)
          refine XL.cons (XOp.thawL ?_)
          refine id (XOp.call (args := [.agg #[sv]]) Tryz.call11 rfl (toSubst_spec hs (hsl := (by first | assumption | rfl | omega | (left; simp; done) | (right; simp; done))) (hsb := (by first | assumption | rfl | omega | (left; simp; done) | (right; simp; done)))) ?_)
          rintro _ F12 _ le12 ⟨x19, rfl, hr27, hr28, rfl⟩
          refine ⟨[rowsD 2 22 x19 s], hr28, ?_⟩
          show XL _ _ _ _ _ _ _ (rowsD 2 22 x19 s :: cellsH b8 [x17, x18] 39 :: intsH 2 x17 f :: stepsD 2 78 x18 xs :: cellsH b7 [x15, x16] 45 :: intsH 2 x15 ar :: pairsD 2 110 x16 rs :: cellsH b6 [u6, u7] 39 :: cellsH b3 [sv] 33 :: cellsH b2 [fv, xsv] 30 :: cellsH b1 [arv, rsv] 27 :: L)
          refine XL.cons (XOp.alloc [(.slice none 0 0)] Tryz.zeroValue48 rfl ?_)
          intro b9
          refine XL.cons (XOp.storeN (vs := [x19]) [] _ [x19] Tryz.sizeOf48 rfl rfl rfl (ones_cons (one_sl (RowsF.isSl hr27)) ones_nil) rfl rfl rfl ?_)
          refine XL.nil ?_
          refine X.seq ?_
          refine X.region ?_
          refine XL.cons (XOp.loadN [x15, x16] Tryz.isAgg45 Tryz.sizeOf45 rfl rfl (Rd.ownN [_, _, _, _, _] rfl rfl) ?_)
          refine XL.cons (XOp.loadN [x17, x18] Tryz.isAgg39 Tryz.sizeOf39 rfl rfl (Rd.ownN [_, _] rfl rfl) ?_)
          refine XL.cons (XOp.loadN [x19] Tryz.isAgg48 Tryz.sizeOf48 rfl rfl (Rd.ownN [] rfl rfl) ?_)
          refine XL.cons (XOp.lend [_, _, _, _, _, _] _ _ rfl (fun F13 le13 hz1 => ?_))
          refine id (XOp.lend [_, _, _, _, _, _] _ _ rfl (fun F14 le14 hz2 => ?_))
          refine id (XOp.lend [_, _, _] _ _ rfl (fun F15 le15 hz3 => ?_))
          refine id (XOp.lend [_, _, _] _ _ rfl (fun F16 le16 hz4 => ?_))
          refine id (XOp.lend [_] _ _ rfl (fun F17 le17 hz5 => ?_))
          have hf1 : IntsF _ x15 ar := (intsH.fz (xs := ar) hz1).mono (FLe.trans (FLe.trans (FLe.trans le14 le15) le16) le17)
          have hf2 : PairsF _ x16 rs := (pairsD.fz hz2).mono (FLe.trans (FLe.trans le15 le16) le17)
          have hf3 : IntsF _ x17 f := (intsH.fz (xs := f) hz3).mono (FLe.trans le16 le17)
          have hf4 : StepsF _ x18 xs := (stepsD.fz hz4).mono le17
          have hf5 : RowsF _ x19 s := rowsD.fz hz5
          refine id (XOp.thawL ?_)
          refine id (XOp.call (args := [.agg #[x15, x16], .agg #[x17, x18], .agg #[x19]]) Tryz.call12 rfl (WalkUnder_spec hf1 hf2 hf3 hf4 hf5 (hlf := (by first | assumption | rfl | omega | (left; simp; done) | (right; simp; done))) (hsb := (by first | assumption | rfl | omega | (left; simp; done) | (right; simp; done)))) ?_)
          rintro _ F18 _ le18 ⟨x20, x21, rfl, hr29, hr30, hr31, rfl⟩
          refine ⟨[intsH 2 x20 ((undB ar rs f xs s).1), stepsD 2 78 x21 ((undB ar rs f xs s).2.1)], hr31, ?_⟩
          show XL _ _ _ _ _ _ _ (intsH 2 x15 ar :: pairsD 2 110 x16 rs :: intsH 2 x17 f :: stepsD 2 78 x18 xs :: rowsD 2 22 x19 s :: intsH 2 x20 ((undB ar rs f xs s).1) :: stepsD 2 78 x21 ((undB ar rs f xs s).2.1) :: cellsH b9 [x19] 48 :: cellsH b8 [x17, x18] 39 :: cellsH b7 [x15, x16] 45 :: cellsH b6 [u6, u7] 39 :: cellsH b3 [sv] 33 :: cellsH b2 [fv, xsv] 30 :: cellsH b1 [arv, rsv] 27 :: L)
          refine XL.cons (XOp.move (.tuple #[.agg #[x20, x21], .bool ((undB ar rs f xs s).2.2)]) rfl ?_)
          refine XL.cons (XOp.extract (.agg #[x20, x21]) rfl rfl ?_)
          refine XL.cons (XOp.extract (.bool ((undB ar rs f xs s).2.2)) rfl rfl ?_)
          refine XL.cons (XOp.alloc [(.slice none 0 0), (.slice none 0 0)] Tryz.zeroValue39 rfl ?_)
          intro b10
          refine XL.cons (XOp.storeN (vs := [x20, x21]) [] _ [x20, x21] Tryz.sizeOf39 rfl rfl rfl (ones_cons (one_sl (IntsF.isSl hr29)) (ones_cons (one_sl (StepsF.isSl hr30)) ones_nil)) rfl rfl rfl ?_)
          refine XL.cons (XOp.assign (.bool ((undB ar rs f xs s).2.2)) rfl ?_)
          refine XL.nil ?_
          refine X.seq ?_
          refine X.seq ?_
          refine X.region ?_
          refine XL.cons (XOp.loadN [x20, x21] Tryz.isAgg39 Tryz.sizeOf39 rfl rfl (Rd.ownN [] rfl rfl) ?_)
          refine XL.cons (XOp.loadN [u6, u7] Tryz.isAgg39 Tryz.sizeOf39 rfl rfl (Rd.ownN [_, _, _, _, _, _, _, _, _, _, _] rfl rfl) ?_)
          refine XL.cons (XOp.lend [_, _, _, _, _, _] _ _ rfl (fun F19 le19 hz6 => ?_))
          refine id (XOp.lend [_, _, _, _, _, _] _ _ rfl (fun F20 le20 hz7 => ?_))
          have hf6 : IntsF _ x20 ((undB ar rs f xs s).1) := (intsH.fz (xs := (undB ar rs f xs s).1) hz6).mono le20
          have hf7 : StepsF _ x21 ((undB ar rs f xs s).2.1) := stepsD.fz hz7
          refine id (XOp.call (args := [.agg #[x20, x21], .agg #[u6, u7]]) Tryz.call13 rfl (eqWalk_spec hf6 hf7 ((f6_1hr1.mono (FLe.trans le19 le20))) ((f6_1hr2.mono (FLe.trans le19 le20))) (hfl := (by first | assumption | rfl | omega | (left; simp; done) | (right; simp; done))) (hal := (by first | assumption | rfl | omega | (left; simp; done) | (right; simp; done))) (hbd := (by first | assumption | exact fun i hi => by have := hnd i hi; omega))) ?_)
          rintro _ _ _ _ ⟨rfl, rfl, rfl⟩
          show XL _ _ _ _ _ _ _ (intsH 2 x20 ((undB ar rs f xs s).1) :: stepsD 2 78 x21 ((undB ar rs f xs s).2.1) :: cellsH b10 [x20, x21] 39 :: intsH 2 x15 ar :: pairsD 2 110 x16 rs :: intsH 2 x17 f :: stepsD 2 78 x18 xs :: rowsD 2 22 x19 s :: cellsH b9 [x19] 48 :: cellsH b8 [x17, x18] 39 :: cellsH b7 [x15, x16] 45 :: cellsH b6 [u6, u7] 39 :: cellsH b3 [sv] 33 :: cellsH b2 [fv, xsv] 30 :: cellsH b1 [arv, rsv] 27 :: L)
          refine XL.cons (XOp.notD (p := ((undB ar rs f xs s).1) = ((undB ar rs f xs s).1) ∧ ((undB ar rs f xs s).2.1) = ((undB ar rs f xs s).2.1)) rfl ?_)
          refine XL.cons (XOp.move (.bool (decide (¬(((undB ar rs f xs s).1) = ((undB ar rs f xs s).1) ∧ ((undB ar rs f xs s).2.1) = ((undB ar rs f xs s).2.1))))) rfl ?_)
          by_cases h4 : ¬(((undB ar rs f xs s).1) = ((undB ar rs f xs s).1) ∧ ((undB ar rs f xs s).2.1) = ((undB ar rs f xs s).2.1))
          · exact absurd (by first | rfl | exact ⟨rfl, rfl⟩ | exact ⟨⟨rfl, rfl⟩, rfl, rfl⟩ | simp) h4
          · refine XL.yes (t := 62) rfl (congrArg Value.bool (decide_eq_false h4)) (XOp.move (.bool ((undB ar rs f xs s).2.2)) rfl ?_)
            refine XL.yes (t := 62) rfl (congrArg Value.bool (decide_eq_false h4)) (XOp.move (.bool ((undB ar rs f xs s).2.2)) rfl ?_)
            refine XL.yes (t := 62) rfl (congrArg Value.bool (decide_eq_false h4)) (XOp.neB (a := (undB ar rs f xs s).2.2) (b := (undB ar rs f xs s).2.2) Tryz.runUnderlying4 rfl rfl ?_)
            refine XL.cons (XOp.pickF (.bool (decide (((undB ar rs f xs s).2.2) ≠ ((undB ar rs f xs s).2.2)))) (congrArg Value.bool (decide_eq_false h4)) rfl ?_)
            refine XL.nil ?_
            refine X.condD (p := ((undB ar rs f xs s).2.2) ≠ ((undB ar rs f xs s).2.2)) rfl (fun h5 => ?_) (fun h5 => ?_)
            · exact absurd rfl h5
            · refine X.skip ?_
              refine X.seq ?_
              refine X.seq ?_
              refine X.drawG [intsH 2 x20 ((undB ar rs f xs s).1), stepsD 2 78 x21 ((undB ar rs f xs s).2.1), cellsH b10 [x20, x21] 39, intsH 2 x15 ar, pairsD 2 110 x16 rs, intsH 2 x17 f, stepsD 2 78 x18 xs, rowsD 2 22 x19 s, cellsH b9 [x19] 48, cellsH b8 [x17, x18] 39, cellsH b7 [x15, x16] 45, cellsH b6 [u6, u7] 39, cellsH b3 [sv] 33, cellsH b2 [fv, xsv] 30, cellsH b1 [arv, rsv] 27] L 3 [[], [], []] [[], [], [1]] [[], [], []] (phiG [fun FF us v => v = (.agg #[x15, x16] : Value), fun FF us v => v = (.agg #[arv, rsv] : Value), fun FF us v => (.agg #[((aggAt v 0)), ((aggAt v 1))] : Value) = v ∧ (IntsF FF ((aggAt v 0)) ar) ∧ (PairsF FF ((aggAt v 1)) rs)]) (ownL [fun us v => [], fun us v => [], fun us v => []]) mixed rfl rfl (by kernel_rfl) (by kernel_rfl) (MonoG.get (MonoG.cons (fun le h => h) (MonoG.cons (fun le h => h) (MonoG.cons (fun le h => ⟨h.1, h.2.1.mono le, h.2.2.mono le⟩) MonoG.nil)))) ?_ ?_
              · refine stepsG.cons (fun vals Fs R leFs hpZ => ?_) ?_
                · replace har := har.mono leFs
                  replace hrs := hrs.mono leFs
                  replace hf := hf.mono leFs
                  replace hxs := hxs.mono leFs
                  replace hs := hs.mono leFs
                  replace f1_1hr1 := f1_1hr1.mono leFs
                  replace f1_1hr2 := f1_1hr2.mono leFs
                  replace f3_1hr1 := f3_1hr1.mono leFs
                  replace f3_1hr2 := f3_1hr2.mono leFs
                  replace f5_1hr := f5_1hr.mono leFs
                  replace f6_1hr1 := f6_1hr1.mono leFs
                  replace f6_1hr2 := f6_1hr2.mono leFs
                  refine XG.op (XOp.loadN [x15, x16] Tryz.isAgg45 Tryz.sizeOf45 rfl rfl (Rd.ownN [_, _, _, _, _, _, _, _, _, _] rfl rfl) ?_)
                  exact ⟨rfl, rfl⟩
                refine stepsG.cons (fun vals Fs R leFs hpZ => ?_) ?_
                · replace har := har.mono leFs
                  replace hrs := hrs.mono leFs
                  replace hf := hf.mono leFs
                  replace hxs := hxs.mono leFs
                  replace hs := hs.mono leFs
                  replace f1_1hr1 := f1_1hr1.mono leFs
                  replace f1_1hr2 := f1_1hr2.mono leFs
                  replace f3_1hr1 := f3_1hr1.mono leFs
                  replace f3_1hr2 := f3_1hr2.mono leFs
                  replace f5_1hr := f5_1hr.mono leFs
                  replace f6_1hr1 := f6_1hr1.mono leFs
                  replace f6_1hr2 := f6_1hr2.mono leFs
                  refine XG.op (XOp.loadN [arv, rsv] Tryz.isAgg27 Tryz.sizeOf27 rfl rfl (Rd.ownN [_, _, _, _, _, _, _, _, _, _, _, _, _, _] rfl rfl) ?_)
                  exact ⟨rfl, rfl⟩
                refine stepsG.cons (fun vals Fs R leFs hpZ => ?_) ?_
                · have e1 : vals 1 = (.agg #[arv, rsv] : Value) := hpZ 1 (by decide)
                  replace har := har.mono leFs
                  replace hrs := hrs.mono leFs
                  replace hf := hf.mono leFs
                  replace hxs := hxs.mono leFs
                  replace hs := hs.mono leFs
                  replace f1_1hr1 := f1_1hr1.mono leFs
                  replace f1_1hr2 := f1_1hr2.mono leFs
                  replace f3_1hr1 := f3_1hr1.mono leFs
                  replace f3_1hr2 := f3_1hr2.mono leFs
                  replace f5_1hr := f5_1hr.mono leFs
                  replace f6_1hr1 := f6_1hr1.mono leFs
                  replace f6_1hr2 := f6_1hr2.mono leFs
                  rw [(envs_of_sat (l := [(1, (.agg #[arv, rsv] : Value))]) ⟨e1, trivial⟩).symm]
                  refine XG.op (XOp.call (args := [.agg #[arv, rsv]]) Tryz.call9 rfl (toSystem_spec har hrs (hla := (by first | assumption | rfl | omega | (left; simp; done) | (right; simp; done))) (hrl := (by first | assumption | rfl | omega | (left; simp; done) | (right; simp; done))) (hrb := (by first | assumption | rfl | omega | (left; simp; done) | (right; simp; done)))) ?_)
                  rintro _ F22 _ le22 ⟨x24, x25, rfl, hr35, hr36, hr37, rfl⟩
                  replace har := har.mono le22
                  replace hrs := hrs.mono le22
                  replace hf := hf.mono le22
                  replace hxs := hxs.mono le22
                  replace hs := hs.mono le22
                  replace f1_1hr1 := f1_1hr1.mono le22
                  replace f1_1hr2 := f1_1hr2.mono le22
                  replace f3_1hr1 := f3_1hr1.mono le22
                  replace f3_1hr2 := f3_1hr2.mono le22
                  replace f5_1hr := f5_1hr.mono le22
                  replace f6_1hr1 := f6_1hr1.mono le22
                  replace f6_1hr2 := f6_1hr2.mono le22
                  exact ⟨⟨rfl, hr35, hr36⟩, rfl⟩
                exact stepsG.nil
              · intro vals F23 le23 hphi
                have e0 : vals 0 = (.agg #[x15, x16] : Value) := hphi 0 (by decide)
                have e1 : vals 1 = (.agg #[arv, rsv] : Value) := hphi 1 (by decide)
                obtain ⟨e2, f2_2hr1, f2_2hr2⟩ := hphi 2 (by decide)
                generalize hu9 : ((aggAt (vals 2) 0)) = u8 at e0 e1 e2 f2_2hr1 f2_2hr2
                generalize hu10 : ((aggAt (vals 2) 1)) = u9 at e0 e1 e2 f2_2hr1 f2_2hr2
                rw [(envs_of_sat (l := [(0, (.agg #[x15, x16] : Value)), (1, (.agg #[arv, rsv] : Value)), (2, (.agg #[u8, u9] : Value))]) ⟨e0, e1, (e2).symm, trivial⟩).symm]
                replace har := har.mono le23
                replace hrs := hrs.mono le23
                replace hf := hf.mono le23
                replace hxs := hxs.mono le23
                replace hs := hs.mono le23
                replace f1_1hr1 := f1_1hr1.mono le23
                replace f1_1hr2 := f1_1hr2.mono le23
                replace f3_1hr1 := f3_1hr1.mono le23
                replace f3_1hr2 := f3_1hr2.mono le23
                replace f5_1hr := f5_1hr.mono le23
                replace f6_1hr1 := f6_1hr1.mono le23
                replace f6_1hr2 := f6_1hr2.mono le23
                show XL _ _ _ _ _ _ _ (intsH 2 x20 ((undB ar rs f xs s).1) :: stepsD 2 78 x21 ((undB ar rs f xs s).2.1) :: cellsH b10 [x20, x21] 39 :: intsH 2 x15 ar :: pairsD 2 110 x16 rs :: intsH 2 x17 f :: stepsD 2 78 x18 xs :: rowsD 2 22 x19 s :: cellsH b9 [x19] 48 :: cellsH b8 [x17, x18] 39 :: cellsH b7 [x15, x16] 45 :: cellsH b6 [u6, u7] 39 :: cellsH b3 [sv] 33 :: cellsH b2 [fv, xsv] 30 :: cellsH b1 [arv, rsv] 27 :: L)
                refine XL.cons (XOp.lend [_, _, _] _ _ rfl (fun F24 le24 hz8 => ?_))
                refine id (XOp.lend [_, _, _] _ _ rfl (fun F25 le25 hz9 => ?_))
                have hf8 : IntsF _ x15 ar := (intsH.fz (xs := ar) hz8).mono le25
                have hf9 : PairsF _ x16 rs := pairsD.fz hz9
                refine id (XOp.call (args := [.agg #[x15, x16], .agg #[u8, u9]]) Tryz.call14 rfl (eqSystem_spec hf8 hf9 ((f2_2hr1.mono (FLe.trans le24 le25))) ((f2_2hr2.mono (FLe.trans le24 le25))) (hcl := (by first | assumption | rfl | omega | (left; simp; done) | (right; simp; done))) (hal := (by first | assumption | rfl | omega | (left; simp; done) | (right; simp; done))) (hbd := (by first | assumption | rfl | omega | (left; simp; done) | (right; simp; done)))) ?_)
                rintro _ _ _ _ ⟨rfl, rfl, rfl⟩
                show XL _ _ _ _ _ _ _ (intsH 2 x15 ar :: pairsD 2 110 x16 rs :: intsH 2 x20 ((undB ar rs f xs s).1) :: stepsD 2 78 x21 ((undB ar rs f xs s).2.1) :: cellsH b10 [x20, x21] 39 :: intsH 2 x17 f :: stepsD 2 78 x18 xs :: rowsD 2 22 x19 s :: cellsH b9 [x19] 48 :: cellsH b8 [x17, x18] 39 :: cellsH b7 [x15, x16] 45 :: cellsH b6 [u6, u7] 39 :: cellsH b3 [sv] 33 :: cellsH b2 [fv, xsv] 30 :: cellsH b1 [arv, rsv] 27 :: L)
                refine XL.cons (XOp.notD (p := ar = ar ∧ rs = rs) rfl ?_)
                refine XL.nil ?_
                refine X.condD (p := ¬(ar = ar ∧ rs = rs)) rfl (fun h6 => ?_) (fun h6 => ?_)
                · exact absurd (by first | rfl | exact ⟨rfl, rfl⟩ | exact ⟨⟨rfl, rfl⟩, rfl, rfl⟩ | simp) h6
                · refine X.skip ?_
                  refine X.seq ?_
                  refine X.seq ?_
                  refine X.drawG [intsH 2 x15 ar, pairsD 2 110 x16 rs, intsH 2 x20 ((undB ar rs f xs s).1), stepsD 2 78 x21 ((undB ar rs f xs s).2.1), cellsH b10 [x20, x21] 39, intsH 2 x17 f, stepsD 2 78 x18 xs, rowsD 2 22 x19 s, cellsH b9 [x19] 48, cellsH b8 [x17, x18] 39, cellsH b7 [x15, x16] 45, cellsH b6 [u6, u7] 39, cellsH b3 [sv] 33, cellsH b2 [fv, xsv] 30, cellsH b1 [arv, rsv] 27] L 3 [[], [], []] [[], [], [1]] [[], [], []] (phiG [fun FF us v => v = (.agg #[x17, x18] : Value), fun FF us v => v = (.agg #[fv, xsv] : Value), fun FF us v => (.agg #[((aggAt v 0)), ((aggAt v 1))] : Value) = v ∧ (IntsF FF ((aggAt v 0)) f) ∧ (StepsF FF ((aggAt v 1)) xs)]) (ownL [fun us v => [], fun us v => [], fun us v => []]) mixed rfl rfl (by kernel_rfl) (by kernel_rfl) (MonoG.get (MonoG.cons (fun le h => h) (MonoG.cons (fun le h => h) (MonoG.cons (fun le h => ⟨h.1, h.2.1.mono le, h.2.2.mono le⟩) MonoG.nil)))) ?_ ?_
                  · refine stepsG.cons (fun vals Fs R leFs hpZ => ?_) ?_
                    · replace har := har.mono leFs
                      replace hrs := hrs.mono leFs
                      replace hf := hf.mono leFs
                      replace hxs := hxs.mono leFs
                      replace hs := hs.mono leFs
                      replace f1_1hr1 := f1_1hr1.mono leFs
                      replace f1_1hr2 := f1_1hr2.mono leFs
                      replace f3_1hr1 := f3_1hr1.mono leFs
                      replace f3_1hr2 := f3_1hr2.mono leFs
                      replace f5_1hr := f5_1hr.mono leFs
                      replace f6_1hr1 := f6_1hr1.mono leFs
                      replace f6_1hr2 := f6_1hr2.mono leFs
                      replace f2_2hr1 := f2_2hr1.mono leFs
                      replace f2_2hr2 := f2_2hr2.mono leFs
                      refine XG.op (XOp.loadN [x17, x18] Tryz.isAgg39 Tryz.sizeOf39 rfl rfl (Rd.ownN [_, _, _, _, _, _, _, _, _] rfl rfl) ?_)
                      exact ⟨rfl, rfl⟩
                    refine stepsG.cons (fun vals Fs R leFs hpZ => ?_) ?_
                    · replace har := har.mono leFs
                      replace hrs := hrs.mono leFs
                      replace hf := hf.mono leFs
                      replace hxs := hxs.mono leFs
                      replace hs := hs.mono leFs
                      replace f1_1hr1 := f1_1hr1.mono leFs
                      replace f1_1hr2 := f1_1hr2.mono leFs
                      replace f3_1hr1 := f3_1hr1.mono leFs
                      replace f3_1hr2 := f3_1hr2.mono leFs
                      replace f5_1hr := f5_1hr.mono leFs
                      replace f6_1hr1 := f6_1hr1.mono leFs
                      replace f6_1hr2 := f6_1hr2.mono leFs
                      replace f2_2hr1 := f2_2hr1.mono leFs
                      replace f2_2hr2 := f2_2hr2.mono leFs
                      refine XG.op (XOp.loadN [fv, xsv] Tryz.isAgg30 Tryz.sizeOf30 rfl rfl (Rd.ownN [_, _, _, _, _, _, _, _, _, _, _, _, _] rfl rfl) ?_)
                      exact ⟨rfl, rfl⟩
                    refine stepsG.cons (fun vals Fs R leFs hpZ => ?_) ?_
                    · have e1 : vals 1 = (.agg #[fv, xsv] : Value) := hpZ 1 (by decide)
                      replace har := har.mono leFs
                      replace hrs := hrs.mono leFs
                      replace hf := hf.mono leFs
                      replace hxs := hxs.mono leFs
                      replace hs := hs.mono leFs
                      replace f1_1hr1 := f1_1hr1.mono leFs
                      replace f1_1hr2 := f1_1hr2.mono leFs
                      replace f3_1hr1 := f3_1hr1.mono leFs
                      replace f3_1hr2 := f3_1hr2.mono leFs
                      replace f5_1hr := f5_1hr.mono leFs
                      replace f6_1hr1 := f6_1hr1.mono leFs
                      replace f6_1hr2 := f6_1hr2.mono leFs
                      replace f2_2hr1 := f2_2hr1.mono leFs
                      replace f2_2hr2 := f2_2hr2.mono leFs
                      rw [(envs_of_sat (l := [(1, (.agg #[fv, xsv] : Value))]) ⟨e1, trivial⟩).symm]
                      refine XG.op (XOp.call (args := [.agg #[fv, xsv]]) Tryz.call10 rfl (toWalk_spec hf hxs (hfl := (by first | assumption | rfl | omega | (left; simp; done) | (right; simp; done))) (hsl := (by first | assumption | rfl | omega | (left; simp; done) | (right; simp; done))) (hsb := (by first | assumption | rfl | omega | (left; simp; done) | (right; simp; done)))) ?_)
                      rintro _ F27 _ le27 ⟨x28, x29, rfl, hr41, hr42, hr43, rfl⟩
                      replace har := har.mono le27
                      replace hrs := hrs.mono le27
                      replace hf := hf.mono le27
                      replace hxs := hxs.mono le27
                      replace hs := hs.mono le27
                      replace f1_1hr1 := f1_1hr1.mono le27
                      replace f1_1hr2 := f1_1hr2.mono le27
                      replace f3_1hr1 := f3_1hr1.mono le27
                      replace f3_1hr2 := f3_1hr2.mono le27
                      replace f5_1hr := f5_1hr.mono le27
                      replace f6_1hr1 := f6_1hr1.mono le27
                      replace f6_1hr2 := f6_1hr2.mono le27
                      replace f2_2hr1 := f2_2hr1.mono le27
                      replace f2_2hr2 := f2_2hr2.mono le27
                      exact ⟨⟨rfl, hr41, hr42⟩, rfl⟩
                    exact stepsG.nil
                  · intro vals F28 le28 hphi
                    have e0 : vals 0 = (.agg #[x17, x18] : Value) := hphi 0 (by decide)
                    have e1 : vals 1 = (.agg #[fv, xsv] : Value) := hphi 1 (by decide)
                    obtain ⟨e2, f2_3hr1, f2_3hr2⟩ := hphi 2 (by decide)
                    generalize hu11 : ((aggAt (vals 2) 0)) = u10 at e0 e1 e2 f2_3hr1 f2_3hr2
                    generalize hu12 : ((aggAt (vals 2) 1)) = u11 at e0 e1 e2 f2_3hr1 f2_3hr2
                    rw [(envs_of_sat (l := [(0, (.agg #[x17, x18] : Value)), (1, (.agg #[fv, xsv] : Value)), (2, (.agg #[u10, u11] : Value))]) ⟨e0, e1, (e2).symm, trivial⟩).symm]
                    replace har := har.mono le28
                    replace hrs := hrs.mono le28
                    replace hf := hf.mono le28
                    replace hxs := hxs.mono le28
                    replace hs := hs.mono le28
                    replace f1_1hr1 := f1_1hr1.mono le28
                    replace f1_1hr2 := f1_1hr2.mono le28
                    replace f3_1hr1 := f3_1hr1.mono le28
                    replace f3_1hr2 := f3_1hr2.mono le28
                    replace f5_1hr := f5_1hr.mono le28
                    replace f6_1hr1 := f6_1hr1.mono le28
                    replace f6_1hr2 := f6_1hr2.mono le28
                    replace f2_2hr1 := f2_2hr1.mono le28
                    replace f2_2hr2 := f2_2hr2.mono le28
                    show XL _ _ _ _ _ _ _ (intsH 2 x15 ar :: pairsD 2 110 x16 rs :: intsH 2 x20 ((undB ar rs f xs s).1) :: stepsD 2 78 x21 ((undB ar rs f xs s).2.1) :: cellsH b10 [x20, x21] 39 :: intsH 2 x17 f :: stepsD 2 78 x18 xs :: rowsD 2 22 x19 s :: cellsH b9 [x19] 48 :: cellsH b8 [x17, x18] 39 :: cellsH b7 [x15, x16] 45 :: cellsH b6 [u6, u7] 39 :: cellsH b3 [sv] 33 :: cellsH b2 [fv, xsv] 30 :: cellsH b1 [arv, rsv] 27 :: L)
                    refine XL.cons (XOp.lend [_, _, _, _, _] _ _ rfl (fun F29 le29 hz10 => ?_))
                    refine id (XOp.lend [_, _, _, _, _] _ _ rfl (fun F30 le30 hz11 => ?_))
                    have hf10 : IntsF _ x17 f := (intsH.fz (xs := f) hz10).mono le30
                    have hf11 : StepsF _ x18 xs := stepsD.fz hz11
                    refine id (XOp.call (args := [.agg #[x17, x18], .agg #[u10, u11]]) Tryz.call13 rfl (eqWalk_spec hf10 hf11 ((f2_3hr1.mono (FLe.trans le29 le30))) ((f2_3hr2.mono (FLe.trans le29 le30))) (hfl := (by first | assumption | rfl | omega | (left; simp; done) | (right; simp; done))) (hal := (by first | assumption | rfl | omega | (left; simp; done) | (right; simp; done))) (hbd := (by first | assumption | exact fun i hi => by have := hnd i hi; omega))) ?_)
                    rintro _ _ _ _ ⟨rfl, rfl, rfl⟩
                    show XL _ _ _ _ _ _ _ (intsH 2 x17 f :: stepsD 2 78 x18 xs :: intsH 2 x15 ar :: pairsD 2 110 x16 rs :: intsH 2 x20 ((undB ar rs f xs s).1) :: stepsD 2 78 x21 ((undB ar rs f xs s).2.1) :: cellsH b10 [x20, x21] 39 :: rowsD 2 22 x19 s :: cellsH b9 [x19] 48 :: cellsH b8 [x17, x18] 39 :: cellsH b7 [x15, x16] 45 :: cellsH b6 [u6, u7] 39 :: cellsH b3 [sv] 33 :: cellsH b2 [fv, xsv] 30 :: cellsH b1 [arv, rsv] 27 :: L)
                    refine XL.cons (XOp.notD (p := f = f ∧ xs = xs) rfl ?_)
                    refine XL.nil ?_
                    refine X.condD (p := ¬(f = f ∧ xs = xs)) rfl (fun h7 => ?_) (fun h7 => ?_)
                    · exact absurd (by first | rfl | exact ⟨rfl, rfl⟩ | exact ⟨⟨rfl, rfl⟩, rfl, rfl⟩ | simp) h7
                    · refine X.skip ?_
                      refine X.seq ?_
                      refine X.seq ?_
                      refine X.drawG [intsH 2 x17 f, stepsD 2 78 x18 xs, intsH 2 x15 ar, pairsD 2 110 x16 rs, intsH 2 x20 ((undB ar rs f xs s).1), stepsD 2 78 x21 ((undB ar rs f xs s).2.1), cellsH b10 [x20, x21] 39, rowsD 2 22 x19 s, cellsH b9 [x19] 48, cellsH b8 [x17, x18] 39, cellsH b7 [x15, x16] 45, cellsH b6 [u6, u7] 39, cellsH b3 [sv] 33, cellsH b2 [fv, xsv] 30, cellsH b1 [arv, rsv] 27] L 3 [[], [], []] [[], [], [1]] [[], [], []] (phiG [fun FF us v => v = (.agg #[x19] : Value), fun FF us v => v = (.agg #[sv] : Value), fun FF us v => (.agg #[((aggAt v 0))] : Value) = v ∧ (RowsF FF ((aggAt v 0)) s)]) (ownL [fun us v => [], fun us v => [], fun us v => []]) mixed rfl rfl (by kernel_rfl) (by kernel_rfl) (MonoG.get (MonoG.cons (fun le h => h) (MonoG.cons (fun le h => h) (MonoG.cons (fun le h => ⟨h.1, h.2.mono le⟩) MonoG.nil)))) ?_ ?_
                      · refine stepsG.cons (fun vals Fs R leFs hpZ => ?_) ?_
                        · replace har := har.mono leFs
                          replace hrs := hrs.mono leFs
                          replace hf := hf.mono leFs
                          replace hxs := hxs.mono leFs
                          replace hs := hs.mono leFs
                          replace f1_1hr1 := f1_1hr1.mono leFs
                          replace f1_1hr2 := f1_1hr2.mono leFs
                          replace f3_1hr1 := f3_1hr1.mono leFs
                          replace f3_1hr2 := f3_1hr2.mono leFs
                          replace f5_1hr := f5_1hr.mono leFs
                          replace f6_1hr1 := f6_1hr1.mono leFs
                          replace f6_1hr2 := f6_1hr2.mono leFs
                          replace f2_2hr1 := f2_2hr1.mono leFs
                          replace f2_2hr2 := f2_2hr2.mono leFs
                          replace f2_3hr1 := f2_3hr1.mono leFs
                          replace f2_3hr2 := f2_3hr2.mono leFs
                          refine XG.op (XOp.loadN [x19] Tryz.isAgg48 Tryz.sizeOf48 rfl rfl (Rd.ownN [_, _, _, _, _, _, _, _] rfl rfl) ?_)
                          exact ⟨rfl, rfl⟩
                        refine stepsG.cons (fun vals Fs R leFs hpZ => ?_) ?_
                        · replace har := har.mono leFs
                          replace hrs := hrs.mono leFs
                          replace hf := hf.mono leFs
                          replace hxs := hxs.mono leFs
                          replace hs := hs.mono leFs
                          replace f1_1hr1 := f1_1hr1.mono leFs
                          replace f1_1hr2 := f1_1hr2.mono leFs
                          replace f3_1hr1 := f3_1hr1.mono leFs
                          replace f3_1hr2 := f3_1hr2.mono leFs
                          replace f5_1hr := f5_1hr.mono leFs
                          replace f6_1hr1 := f6_1hr1.mono leFs
                          replace f6_1hr2 := f6_1hr2.mono leFs
                          replace f2_2hr1 := f2_2hr1.mono leFs
                          replace f2_2hr2 := f2_2hr2.mono leFs
                          replace f2_3hr1 := f2_3hr1.mono leFs
                          replace f2_3hr2 := f2_3hr2.mono leFs
                          refine XG.op (XOp.loadN [sv] Tryz.isAgg33 Tryz.sizeOf33 rfl rfl (Rd.ownN [_, _, _, _, _, _, _, _, _, _, _, _] rfl rfl) ?_)
                          exact ⟨rfl, rfl⟩
                        refine stepsG.cons (fun vals Fs R leFs hpZ => ?_) ?_
                        · have e1 : vals 1 = (.agg #[sv] : Value) := hpZ 1 (by decide)
                          replace har := har.mono leFs
                          replace hrs := hrs.mono leFs
                          replace hf := hf.mono leFs
                          replace hxs := hxs.mono leFs
                          replace hs := hs.mono leFs
                          replace f1_1hr1 := f1_1hr1.mono leFs
                          replace f1_1hr2 := f1_1hr2.mono leFs
                          replace f3_1hr1 := f3_1hr1.mono leFs
                          replace f3_1hr2 := f3_1hr2.mono leFs
                          replace f5_1hr := f5_1hr.mono leFs
                          replace f6_1hr1 := f6_1hr1.mono leFs
                          replace f6_1hr2 := f6_1hr2.mono leFs
                          replace f2_2hr1 := f2_2hr1.mono leFs
                          replace f2_2hr2 := f2_2hr2.mono leFs
                          replace f2_3hr1 := f2_3hr1.mono leFs
                          replace f2_3hr2 := f2_3hr2.mono leFs
                          rw [(envs_of_sat (l := [(1, (.agg #[sv] : Value))]) ⟨e1, trivial⟩).symm]
                          refine XG.op (XOp.call (args := [.agg #[sv]]) Tryz.call11 rfl (toSubst_spec hs (hsl := (by first | assumption | rfl | omega | (left; simp; done) | (right; simp; done))) (hsb := (by first | assumption | rfl | omega | (left; simp; done) | (right; simp; done)))) ?_)
                          rintro _ F32 _ le32 ⟨x31, rfl, hr46, hr47, rfl⟩
                          replace har := har.mono le32
                          replace hrs := hrs.mono le32
                          replace hf := hf.mono le32
                          replace hxs := hxs.mono le32
                          replace hs := hs.mono le32
                          replace f1_1hr1 := f1_1hr1.mono le32
                          replace f1_1hr2 := f1_1hr2.mono le32
                          replace f3_1hr1 := f3_1hr1.mono le32
                          replace f3_1hr2 := f3_1hr2.mono le32
                          replace f5_1hr := f5_1hr.mono le32
                          replace f6_1hr1 := f6_1hr1.mono le32
                          replace f6_1hr2 := f6_1hr2.mono le32
                          replace f2_2hr1 := f2_2hr1.mono le32
                          replace f2_2hr2 := f2_2hr2.mono le32
                          replace f2_3hr1 := f2_3hr1.mono le32
                          replace f2_3hr2 := f2_3hr2.mono le32
                          exact ⟨⟨rfl, hr46⟩, rfl⟩
                        exact stepsG.nil
                      · intro vals F33 le33 hphi
                        have e0 : vals 0 = (.agg #[x19] : Value) := hphi 0 (by decide)
                        have e1 : vals 1 = (.agg #[sv] : Value) := hphi 1 (by decide)
                        obtain ⟨e2, f2_4hr⟩ := hphi 2 (by decide)
                        generalize hu13 : ((aggAt (vals 2) 0)) = u12 at e0 e1 e2 f2_4hr
                        rw [(envs_of_sat (l := [(0, (.agg #[x19] : Value)), (1, (.agg #[sv] : Value)), (2, (.agg #[u12] : Value))]) ⟨e0, e1, (e2).symm, trivial⟩).symm]
                        replace har := har.mono le33
                        replace hrs := hrs.mono le33
                        replace hf := hf.mono le33
                        replace hxs := hxs.mono le33
                        replace hs := hs.mono le33
                        replace f1_1hr1 := f1_1hr1.mono le33
                        replace f1_1hr2 := f1_1hr2.mono le33
                        replace f3_1hr1 := f3_1hr1.mono le33
                        replace f3_1hr2 := f3_1hr2.mono le33
                        replace f5_1hr := f5_1hr.mono le33
                        replace f6_1hr1 := f6_1hr1.mono le33
                        replace f6_1hr2 := f6_1hr2.mono le33
                        replace f2_2hr1 := f2_2hr1.mono le33
                        replace f2_2hr2 := f2_2hr2.mono le33
                        replace f2_3hr1 := f2_3hr1.mono le33
                        replace f2_3hr2 := f2_3hr2.mono le33
                        show XL _ _ _ _ _ _ _ (intsH 2 x17 f :: stepsD 2 78 x18 xs :: intsH 2 x15 ar :: pairsD 2 110 x16 rs :: intsH 2 x20 ((undB ar rs f xs s).1) :: stepsD 2 78 x21 ((undB ar rs f xs s).2.1) :: cellsH b10 [x20, x21] 39 :: rowsD 2 22 x19 s :: cellsH b9 [x19] 48 :: cellsH b8 [x17, x18] 39 :: cellsH b7 [x15, x16] 45 :: cellsH b6 [u6, u7] 39 :: cellsH b3 [sv] 33 :: cellsH b2 [fv, xsv] 30 :: cellsH b1 [arv, rsv] 27 :: L)
                        refine XL.cons (XOp.lend [_, _, _, _, _, _, _] _ _ rfl (fun F34 le34 hz12 => ?_))
                        have hf12 : RowsF _ x19 s := rowsD.fz hz12
                        refine id (XOp.call (args := [.agg #[x19], .agg #[u12]]) Tryz.call15 rfl (eqSubst_spec hf12 ((f2_4hr.mono le34)) (hal := (by first | assumption | rfl | omega | (left; simp; done) | (right; simp; done))) (hbd := (by first | assumption | rfl | omega | (left; simp; done) | (right; simp; done)))) ?_)
                        rintro _ _ _ _ ⟨rfl, rfl, rfl⟩
                        show XL _ _ _ _ _ _ _ (rowsD 2 22 x19 s :: intsH 2 x17 f :: stepsD 2 78 x18 xs :: intsH 2 x15 ar :: pairsD 2 110 x16 rs :: intsH 2 x20 ((undB ar rs f xs s).1) :: stepsD 2 78 x21 ((undB ar rs f xs s).2.1) :: cellsH b10 [x20, x21] 39 :: cellsH b9 [x19] 48 :: cellsH b8 [x17, x18] 39 :: cellsH b7 [x15, x16] 45 :: cellsH b6 [u6, u7] 39 :: cellsH b3 [sv] 33 :: cellsH b2 [fv, xsv] 30 :: cellsH b1 [arv, rsv] 27 :: L)
                        refine XL.cons (XOp.notD (p := s = s) rfl ?_)
                        refine XL.nil ?_
                        refine X.condD (p := ¬(s = s)) rfl (fun h8 => ?_) (fun h8 => ?_)
                        · exact absurd (by first | rfl | exact ⟨rfl, rfl⟩ | exact ⟨⟨rfl, rfl⟩, rfl, rfl⟩ | simp) h8
                        · refine X.skip ?_
                          refine X.seq ?_
                          refine X.region ?_
                          refine XL.cons (XOp.assign (.int .i64 (1)) rfl ?_)
                          refine XL.nil ?_
                          refine X.seq ?_
                          refine X.region ?_
                          refine XL.cons (XOp.loadN [x15, x16] Tryz.isAgg45 Tryz.sizeOf45 rfl rfl (Rd.ownN [_, _, _, _, _, _, _, _, _, _] rfl rfl) ?_)
                          refine XL.cons (XOp.move (.int .i64 (1)) rfl ?_)
                          refine XL.weaken (Sub.front (A := [_, _, _, _])) ?_
                          show XL _ _ _ _ _ _ _ (pairsD 2 110 x16 rs :: rowsD 2 22 x19 s :: intsH 2 x17 f :: stepsD 2 78 x18 xs :: intsH 2 x15 ar :: intsH 2 x20 ((undB ar rs f xs s).1) :: stepsD 2 78 x21 ((undB ar rs f xs s).2.1) :: cellsH b10 [x20, x21] 39 :: cellsH b9 [x19] 48 :: cellsH b8 [x17, x18] 39 :: cellsH b7 [x15, x16] 45 :: cellsH b6 [u6, u7] 39 :: cellsH b3 [sv] 33 :: cellsH b2 [fv, xsv] 30 :: cellsH b1 [arv, rsv] 27 :: L)
                          refine XL.weaken (Sub.front (A := [_, _, _, _])) ?_
                          show XL _ _ _ _ _ _ _ (intsH 2 x15 ar :: pairsD 2 110 x16 rs :: rowsD 2 22 x19 s :: intsH 2 x17 f :: stepsD 2 78 x18 xs :: intsH 2 x20 ((undB ar rs f xs s).1) :: stepsD 2 78 x21 ((undB ar rs f xs s).2.1) :: cellsH b10 [x20, x21] 39 :: cellsH b9 [x19] 48 :: cellsH b8 [x17, x18] 39 :: cellsH b7 [x15, x16] 45 :: cellsH b6 [u6, u7] 39 :: cellsH b3 [sv] 33 :: cellsH b2 [fv, xsv] 30 :: cellsH b1 [arv, rsv] 27 :: L)
                          refine XL.cons (XOp.call (args := [.agg #[x15, x16], .int .i64 (1)]) Tryz.call16 rfl (markSystem_spec (by (try simp only [List.length_append]); omega) (by omega)) ?_)
                          rintro _ _ _ _ ⟨m1, m2, hm1, hk1, rfl, rfl, rfl⟩
                          have hml1 := congrArg List.length hm1
                          rw [iota_len] at hml1
                          try simp only [List.length_append] at hml1
                          refine XL.cons (XOp.assign (.int .i64 (1 + (((ar) ++ (rs.flatMap flatPair)).length : Int))) rfl ?_)
                          refine XL.nil ?_
                          refine X.seq ?_
                          refine X.region ?_
                          refine XL.cons (XOp.loadN [x17, x18] Tryz.isAgg39 Tryz.sizeOf39 rfl rfl (Rd.ownN [_, _, _, _, _, _, _, _, _] rfl rfl) ?_)
                          refine XL.cons (XOp.move (.int .i64 (1 + (((ar) ++ (rs.flatMap flatPair)).length : Int))) rfl ?_)
                          refine XL.weaken (Sub.front (A := [_, _, _, _])) ?_
                          show XL _ _ _ _ _ _ _ (stepsD 2 78 x18 xs :: intsH 2 x15 m1 :: pairsD 2 110 x16 m2 :: rowsD 2 22 x19 s :: intsH 2 x17 f :: intsH 2 x20 ((undB ar rs f xs s).1) :: stepsD 2 78 x21 ((undB ar rs f xs s).2.1) :: cellsH b10 [x20, x21] 39 :: cellsH b9 [x19] 48 :: cellsH b8 [x17, x18] 39 :: cellsH b7 [x15, x16] 45 :: cellsH b6 [u6, u7] 39 :: cellsH b3 [sv] 33 :: cellsH b2 [fv, xsv] 30 :: cellsH b1 [arv, rsv] 27 :: L)
                          refine XL.weaken (Sub.front (A := [_, _, _, _])) ?_
                          show XL _ _ _ _ _ _ _ (intsH 2 x17 f :: stepsD 2 78 x18 xs :: intsH 2 x15 m1 :: pairsD 2 110 x16 m2 :: rowsD 2 22 x19 s :: intsH 2 x20 ((undB ar rs f xs s).1) :: stepsD 2 78 x21 ((undB ar rs f xs s).2.1) :: cellsH b10 [x20, x21] 39 :: cellsH b9 [x19] 48 :: cellsH b8 [x17, x18] 39 :: cellsH b7 [x15, x16] 45 :: cellsH b6 [u6, u7] 39 :: cellsH b3 [sv] 33 :: cellsH b2 [fv, xsv] 30 :: cellsH b1 [arv, rsv] 27 :: L)
                          refine XL.cons (XOp.call (args := [.agg #[x17, x18], .int .i64 (1 + (((ar) ++ (rs.flatMap flatPair)).length : Int))]) Tryz.call17 rfl (markWalk_spec (by (try simp only [List.length_append]); omega) (by omega)) ?_)
                          rintro _ _ _ _ ⟨m3, m4, hm2, hk2, rfl, rfl, rfl⟩
                          have hml2 := congrArg List.length hm2
                          rw [iota_len] at hml2
                          try simp only [List.length_append] at hml2
                          refine XL.cons (XOp.assign (.int .i64 ((1 + (((ar) ++ (rs.flatMap flatPair)).length : Int)) + (((f) ++ (xs.flatMap flatStep)).length : Int))) rfl ?_)
                          refine XL.nil ?_
                          refine X.seq ?_
                          refine X.region ?_
                          refine XL.cons (XOp.loadN [x19] Tryz.isAgg48 Tryz.sizeOf48 rfl rfl (Rd.ownN [_, _, _, _, _, _, _, _] rfl rfl) ?_)
                          refine XL.cons (XOp.move (.int .i64 ((1 + (((ar) ++ (rs.flatMap flatPair)).length : Int)) + (((f) ++ (xs.flatMap flatStep)).length : Int))) rfl ?_)
                          refine XL.weaken (Sub.front (A := [_, _, _, _])) ?_
                          show XL _ _ _ _ _ _ _ (rowsD 2 22 x19 s :: intsH 2 x17 m3 :: stepsD 2 78 x18 m4 :: intsH 2 x15 m1 :: pairsD 2 110 x16 m2 :: intsH 2 x20 ((undB ar rs f xs s).1) :: stepsD 2 78 x21 ((undB ar rs f xs s).2.1) :: cellsH b10 [x20, x21] 39 :: cellsH b9 [x19] 48 :: cellsH b8 [x17, x18] 39 :: cellsH b7 [x15, x16] 45 :: cellsH b6 [u6, u7] 39 :: cellsH b3 [sv] 33 :: cellsH b2 [fv, xsv] 30 :: cellsH b1 [arv, rsv] 27 :: L)
                          refine XL.cons (XOp.call (args := [.agg #[x19], .int .i64 ((1 + (((ar) ++ (rs.flatMap flatPair)).length : Int)) + (((f) ++ (xs.flatMap flatStep)).length : Int))]) Tryz.call18 rfl (markSubst_spec (by (try simp only [List.length_append]); omega) (by omega)) ?_)
                          rintro _ _ _ _ ⟨m5, hm3, hk3, rfl, rfl, rfl⟩
                          have hml3 := congrArg List.length hm3
                          rw [iota_len] at hml3
                          try simp only [List.length_append] at hml3
                          refine XL.cons (XOp.assign (.int .i64 (((1 + (((ar) ++ (rs.flatMap flatPair)).length : Int)) + (((f) ++ (xs.flatMap flatStep)).length : Int)) + (((s.flatMap flatRow)).length : Int))) rfl ?_)
                          refine XL.nil ?_
                          refine X.seq ?_
                          refine X.seq ?_
                          refine X.region ?_
                          refine XL.cons (XOp.move (.int .i64 (((1 + (((ar) ++ (rs.flatMap flatPair)).length : Int)) + (((f) ++ (xs.flatMap flatStep)).length : Int)) + (((s.flatMap flatRow)).length : Int))) rfl ?_)
                          refine XL.cons (XOp.lss (a := ((1 + (((ar) ++ (rs.flatMap flatPair)).length : Int)) + (((f) ++ (xs.flatMap flatStep)).length : Int)) + (((s.flatMap flatRow)).length : Int)) (b := 0) rfl rfl ?_)
                          refine XL.cons (XOp.move (.bool (decide ((((1 + (((ar) ++ (rs.flatMap flatPair)).length : Int)) + (((f) ++ (xs.flatMap flatStep)).length : Int)) + (((s.flatMap flatRow)).length : Int) : Int) < 0))) rfl ?_)
                          by_cases h9 : (((1 + (((ar) ++ (rs.flatMap flatPair)).length : Int)) + (((f) ++ (xs.flatMap flatStep)).length : Int)) + (((s.flatMap flatRow)).length : Int) : Int) < 0
                          · exact absurd h9 (by omega)
                          · refine XL.yes (t := 93) rfl (congrArg Value.bool (decide_eq_false h9)) (XOp.loadN [x20, x21] Tryz.isAgg39 Tryz.sizeOf39 rfl rfl (Rd.ownN [_, _, _, _, _, _, _] rfl rfl) ?_)
                            refine XL.yes (t := 93) rfl (congrArg Value.bool (decide_eq_false h9)) (XOp.loadN [u6, u7] Tryz.isAgg39 Tryz.sizeOf39 rfl rfl (Rd.ownN [_, _, _, _, _, _, _, _, _, _, _] rfl rfl) ?_)
                            refine XL.yes (t := 93) rfl (congrArg Value.bool (decide_eq_false h9)) (XOp.lend [_, _, _, _, _] _ _ rfl (fun F35 le35 hz13 => ?_))
                            refine id (XOp.lend [_, _, _, _, _] _ _ rfl (fun F36 le36 hz14 => ?_))
                            have hf13 : IntsF _ x20 ((undB ar rs f xs s).1) := (intsH.fz (xs := (undB ar rs f xs s).1) hz13).mono le36
                            have hf14 : StepsF _ x21 ((undB ar rs f xs s).2.1) := stepsD.fz hz14
                            refine id (XOp.call (args := [.agg #[x20, x21], .agg #[u6, u7]]) Tryz.call13 rfl (eqWalk_spec hf13 hf14 ((f6_1hr1.mono (FLe.trans le35 le36))) ((f6_1hr2.mono (FLe.trans le35 le36))) (hfl := (by first | assumption | rfl | omega | (left; simp; done) | (right; simp; done))) (hal := (by first | assumption | rfl | omega | (left; simp; done) | (right; simp; done))) (hbd := (by first | assumption | exact fun i hi => by have := hnd i hi; omega))) ?_)
                            rintro _ _ _ _ ⟨rfl, rfl, rfl⟩
                            show XL _ _ _ _ _ _ _ (intsH 2 x20 ((undB ar rs f xs s).1) :: stepsD 2 78 x21 ((undB ar rs f xs s).2.1) :: rowsD 2 22 x19 m5 :: intsH 2 x17 m3 :: stepsD 2 78 x18 m4 :: intsH 2 x15 m1 :: pairsD 2 110 x16 m2 :: cellsH b10 [x20, x21] 39 :: cellsH b9 [x19] 48 :: cellsH b8 [x17, x18] 39 :: cellsH b7 [x15, x16] 45 :: cellsH b6 [u6, u7] 39 :: cellsH b3 [sv] 33 :: cellsH b2 [fv, xsv] 30 :: cellsH b1 [arv, rsv] 27 :: L)
                            refine XL.yes (t := 93) rfl (congrArg Value.bool (decide_eq_false h9)) (XOp.notD (p := ((undB ar rs f xs s).1) = ((undB ar rs f xs s).1) ∧ ((undB ar rs f xs s).2.1) = ((undB ar rs f xs s).2.1)) rfl ?_)
                            refine XL.cons (XOp.pickF (.bool (decide (¬(((undB ar rs f xs s).1) = ((undB ar rs f xs s).1) ∧ ((undB ar rs f xs s).2.1) = ((undB ar rs f xs s).2.1))))) (congrArg Value.bool (decide_eq_false h9)) rfl ?_)
                            refine XL.cons (XOp.move (.bool (decide (¬(((undB ar rs f xs s).1) = ((undB ar rs f xs s).1) ∧ ((undB ar rs f xs s).2.1) = ((undB ar rs f xs s).2.1))))) rfl ?_)
                            refine XL.yes (t := 99) rfl (congrArg Value.bool (decide_eq_false h4)) (XOp.move (.bool ((undB ar rs f xs s).2.2)) rfl ?_)
                            refine XL.yes (t := 99) rfl (congrArg Value.bool (decide_eq_false h4)) (XOp.move (.bool ((undB ar rs f xs s).2.2)) rfl ?_)
                            refine XL.yes (t := 99) rfl (congrArg Value.bool (decide_eq_false h4)) (XOp.neB (a := (undB ar rs f xs s).2.2) (b := (undB ar rs f xs s).2.2) Tryz.runUnderlying4 rfl rfl ?_)
                            refine XL.cons (XOp.pickF (.bool (decide (((undB ar rs f xs s).2.2) ≠ ((undB ar rs f xs s).2.2)))) (congrArg Value.bool (decide_eq_false h4)) rfl ?_)
                            refine XL.nil ?_
                            refine X.condF (congrArg Value.bool (decide_eq_false h5)) ?_
                            refine X.skip ?_
                            refine X.seq ?_
                            refine X.region ?_
                            refine XL.cons (XOp.assign (.int .i64 (1)) rfl ?_)
                            refine XL.nil ?_
                            refine X.seq ?_
                            refine X.region ?_
                            refine XL.cons (XOp.loadN [x20, x21] Tryz.isAgg39 Tryz.sizeOf39 rfl rfl (Rd.ownN [_, _, _, _, _, _, _] rfl rfl) ?_)
                            refine XL.cons (XOp.move (.int .i64 (1)) rfl ?_)
                            refine XL.weaken (Sub.front (A := [_])) ?_
                            show XL _ _ _ _ _ _ _ (stepsD 2 78 x21 ((undB ar rs f xs s).2.1) :: intsH 2 x20 ((undB ar rs f xs s).1) :: rowsD 2 22 x19 m5 :: intsH 2 x17 m3 :: stepsD 2 78 x18 m4 :: intsH 2 x15 m1 :: pairsD 2 110 x16 m2 :: cellsH b10 [x20, x21] 39 :: cellsH b9 [x19] 48 :: cellsH b8 [x17, x18] 39 :: cellsH b7 [x15, x16] 45 :: cellsH b6 [u6, u7] 39 :: cellsH b3 [sv] 33 :: cellsH b2 [fv, xsv] 30 :: cellsH b1 [arv, rsv] 27 :: L)
                            refine XL.weaken (Sub.front (A := [_])) ?_
                            show XL _ _ _ _ _ _ _ (intsH 2 x20 ((undB ar rs f xs s).1) :: stepsD 2 78 x21 ((undB ar rs f xs s).2.1) :: rowsD 2 22 x19 m5 :: intsH 2 x17 m3 :: stepsD 2 78 x18 m4 :: intsH 2 x15 m1 :: pairsD 2 110 x16 m2 :: cellsH b10 [x20, x21] 39 :: cellsH b9 [x19] 48 :: cellsH b8 [x17, x18] 39 :: cellsH b7 [x15, x16] 45 :: cellsH b6 [u6, u7] 39 :: cellsH b3 [sv] 33 :: cellsH b2 [fv, xsv] 30 :: cellsH b1 [arv, rsv] 27 :: L)
                            refine XL.cons (XOp.call (args := [.agg #[x20, x21], .int .i64 (1)]) Tryz.call17 rfl (markWalk_spec (by (try simp only [List.length_append]); omega) (by omega)) ?_)
                            rintro _ _ _ _ ⟨m6, m7, hm4, hk4, rfl, rfl, rfl⟩
                            have hml4 := congrArg List.length hm4
                            rw [iota_len] at hml4
                            try simp only [List.length_append] at hml4
                            refine XL.cons (XOp.assign (.int .i64 (1 + (((((undB ar rs f xs s).1)) ++ (((undB ar rs f xs s).2.1).flatMap flatStep)).length : Int))) rfl ?_)
                            refine XL.nil ?_
                            refine X.seq ?_
                            refine X.region ?_
                            refine XL.cons (XOp.assign (.int .i64 (1)) rfl ?_)
                            refine XL.nil ?_
                            refine X.seq ?_
                            refine X.region ?_
                            refine XL.cons (XOp.loadN [x20, x21] Tryz.isAgg39 Tryz.sizeOf39 rfl rfl (Rd.ownN [_, _, _, _, _, _, _] rfl rfl) ?_)
                            refine XL.cons (XOp.move (.int .i64 (1)) rfl ?_)
                            refine XL.cons (XOp.lend [] _ _ rfl (fun F37 le37 hz15 => ?_))
                            refine id (XOp.lend [] _ _ rfl (fun F38 le38 hz16 => ?_))
                            have hf15 : IntsF _ x20 m6 := (intsH.fz (xs := m6) hz15).mono le38
                            have hf16 : StepsF _ x21 m7 := stepsD.fz hz16
                            refine id (XOp.call (args := [.agg #[x20, x21], .int .i64 (1)]) Tryz.call19 rfl (heldWalk_spec (z := 1) hf15 hf16 (hzb := (by first | assumption | rfl | omega | (left; simp; done) | (right; simp; done))) (hxl := (by first | assumption | rfl | omega | (left; simp; done) | (right; simp; done)))) ?_)
                            rintro _ _ _ _ ⟨rfl, rfl, rfl⟩
                            show XL _ _ _ _ _ _ _ (intsH 2 x20 m6 :: stepsD 2 78 x21 m7 :: rowsD 2 22 x19 m5 :: intsH 2 x17 m3 :: stepsD 2 78 x18 m4 :: intsH 2 x15 m1 :: pairsD 2 110 x16 m2 :: cellsH b10 [x20, x21] 39 :: cellsH b9 [x19] 48 :: cellsH b8 [x17, x18] 39 :: cellsH b7 [x15, x16] 45 :: cellsH b6 [u6, u7] 39 :: cellsH b3 [sv] 33 :: cellsH b2 [fv, xsv] 30 :: cellsH b1 [arv, rsv] 27 :: L)
                            refine XL.cons (XOp.assign (.int .i64 (heldF (m6 ++ m7.flatMap flatStep) 1)) rfl ?_)
                            refine XL.nil ?_
                            refine X.seq ?_
                            refine X.seq ?_
                            refine X.region ?_
                            refine XL.cons (XOp.move (.int .i64 (heldF (m6 ++ m7.flatMap flatStep) 1)) rfl ?_)
                            refine XL.cons (XOp.lss (a := heldF (m6 ++ m7.flatMap flatStep) 1) (b := 0) rfl rfl ?_)
                            refine XL.nil ?_
                            refine X.condD (p := (heldF (m6 ++ m7.flatMap flatStep) 1 : Int) < 0) rfl (fun h10 => ?_) (fun h10 => ?_)
                            · rw [hm4, heldF_iota] at h10
                              exact absurd h10 (by omega)
                            · refine X.skip ?_
                              refine X.seq ?_
                              refine X.seq ?_
                              refine X.region ?_
                              refine XL.cons (XOp.move (.int .i64 (heldF (m6 ++ m7.flatMap flatStep) 1)) rfl ?_)
                              refine XL.cons (XOp.move (.int .i64 (1 + (((((undB ar rs f xs s).1)) ++ (((undB ar rs f xs s).2.1).flatMap flatStep)).length : Int))) rfl ?_)
                              refine XL.cons (XOp.neq (a := heldF (m6 ++ m7.flatMap flatStep) 1) (b := 1 + (((((undB ar rs f xs s).1)) ++ (((undB ar rs f xs s).2.1).flatMap flatStep)).length : Int)) rfl rfl ?_)
                              refine XL.nil ?_
                              refine X.condD (p := (heldF (m6 ++ m7.flatMap flatStep) 1 : Int) ≠ 1 + (((((undB ar rs f xs s).1)) ++ (((undB ar rs f xs s).2.1).flatMap flatStep)).length : Int)) rfl (fun h11 => ?_) (fun h11 => ?_)
                              · exact absurd (by rw [hm4, heldF_iota]) h11
                              · refine X.skip ?_
                                refine X.seq ?_
                                refine X.drawG [intsH 2 x20 m6, stepsD 2 78 x21 m7, rowsD 2 22 x19 m5, intsH 2 x17 m3, stepsD 2 78 x18 m4, intsH 2 x15 m1, pairsD 2 110 x16 m2, cellsH b10 [x20, x21] 39, cellsH b9 [x19] 48, cellsH b8 [x17, x18] 39, cellsH b7 [x15, x16] 45, cellsH b6 [u6, u7] 39, cellsH b3 [sv] 33, cellsH b2 [fv, xsv] 30, cellsH b1 [arv, rsv] 27] L 12 [[], [], [], [], [], [], [], [6], [6], [], [], [6, 10]] [[], [0], [], [2], [], [4], [1, 3, 5], [6], [6, 7], [6, 7], [], [6, 8, 10]] [[], [], [], [], [], [], [], [], [], [], [], [10]] (phiG [fun FF us v => v = (.agg #[arv, rsv] : Value), fun FF us v => (.agg #[((aggAt v 0)), ((aggAt v 1))] : Value) = v ∧ (IntsF FF ((aggAt v 0)) ar) ∧ (PairsF FF ((aggAt v 1)) rs), fun FF us v => v = (.agg #[fv, xsv] : Value), fun FF us v => (.agg #[((aggAt v 0)), ((aggAt v 1))] : Value) = v ∧ (IntsF FF ((aggAt v 0)) f) ∧ (StepsF FF ((aggAt v 1)) xs), fun FF us v => v = (.agg #[sv] : Value), fun FF us v => (.agg #[((aggAt v 0))] : Value) = v ∧ (RowsF FF ((aggAt v 0)) s), fun FF us v => (.tuple #[.agg #[((aggAt (tupAt v 0) 0)), ((aggAt (tupAt v 0) 1))], .bool ((undB ar rs f xs s).2.2)] : Value) = v ∧ (IntsF FF ((aggAt (tupAt v 0) 0)) (undB ar rs f xs s).1) ∧ (StepsF FF ((aggAt (tupAt v 0) 1)) (undB ar rs f xs s).2.1), fun FF us v => v = (.tuple #[.agg #[((aggAt (tupAt (us.getD 0 undef) 0) 0)), ((aggAt (tupAt (us.getD 0 undef) 0) 1))], .bool ((undB ar rs f xs s).2.2)] : Value), fun FF us v => v = (.agg #[((aggAt (tupAt (us.getD 0 undef) 0) 0)), ((aggAt (tupAt (us.getD 0 undef) 0) 1))] : Value), fun FF us v => v = (.bool ((undB ar rs f xs s).2.2) : Value), fun FF us v => v = ptr (blk v) 0, fun FF us v => True]) (ownL [fun us v => [], fun us v => [], fun us v => [], fun us v => [], fun us v => [], fun us v => [], fun us v => [], fun us v => [], fun us v => [], fun us v => [], fun us v => [cellsH (blk v) [(.slice none 0 0), (.slice none 0 0)] 39], fun us v => [cellsH (blk (us.getD 1 undef)) [((aggAt (tupAt (us.getD 0 undef) 0) 0)), ((aggAt (tupAt (us.getD 0 undef) 0) 1))] 39]]) mixed rfl rfl (by kernel_rfl) (by kernel_rfl) (MonoG.get (MonoG.cons (fun le h => h) (MonoG.cons (fun le h => ⟨h.1, h.2.1.mono le, h.2.2.mono le⟩) (MonoG.cons (fun le h => h) (MonoG.cons (fun le h => ⟨h.1, h.2.1.mono le, h.2.2.mono le⟩) (MonoG.cons (fun le h => h) (MonoG.cons (fun le h => ⟨h.1, h.2.mono le⟩) (MonoG.cons (fun le h => ⟨h.1, h.2.1.mono le, h.2.2.mono le⟩) (MonoG.cons (fun le h => h) (MonoG.cons (fun le h => h) (MonoG.cons (fun le h => h) (MonoG.cons (fun le h => h) (MonoG.cons (fun le h => h) MonoG.nil))))))))))))) ?_ ?_
                                · refine stepsG.cons (fun vals Fs R leFs hpZ => ?_) ?_
                                  · replace har := har.mono leFs
                                    replace hrs := hrs.mono leFs
                                    replace hf := hf.mono leFs
                                    replace hxs := hxs.mono leFs
                                    replace hs := hs.mono leFs
                                    replace f1_1hr1 := f1_1hr1.mono leFs
                                    replace f1_1hr2 := f1_1hr2.mono leFs
                                    replace f3_1hr1 := f3_1hr1.mono leFs
                                    replace f3_1hr2 := f3_1hr2.mono leFs
                                    replace f5_1hr := f5_1hr.mono leFs
                                    replace f6_1hr1 := f6_1hr1.mono leFs
                                    replace f6_1hr2 := f6_1hr2.mono leFs
                                    replace f2_2hr1 := f2_2hr1.mono leFs
                                    replace f2_2hr2 := f2_2hr2.mono leFs
                                    replace f2_3hr1 := f2_3hr1.mono leFs
                                    replace f2_3hr2 := f2_3hr2.mono leFs
                                    replace f2_4hr := f2_4hr.mono leFs
                                    refine XG.op (XOp.loadN [arv, rsv] Tryz.isAgg27 Tryz.sizeOf27 rfl rfl (Rd.ownN [_, _, _, _, _, _, _, _, _, _, _, _, _, _] rfl rfl) ?_)
                                    exact ⟨rfl, rfl⟩
                                  refine stepsG.cons (fun vals Fs R leFs hpZ => ?_) ?_
                                  · have e0 : vals 0 = (.agg #[arv, rsv] : Value) := hpZ 0 (by decide)
                                    replace har := har.mono leFs
                                    replace hrs := hrs.mono leFs
                                    replace hf := hf.mono leFs
                                    replace hxs := hxs.mono leFs
                                    replace hs := hs.mono leFs
                                    replace f1_1hr1 := f1_1hr1.mono leFs
                                    replace f1_1hr2 := f1_1hr2.mono leFs
                                    replace f3_1hr1 := f3_1hr1.mono leFs
                                    replace f3_1hr2 := f3_1hr2.mono leFs
                                    replace f5_1hr := f5_1hr.mono leFs
                                    replace f6_1hr1 := f6_1hr1.mono leFs
                                    replace f6_1hr2 := f6_1hr2.mono leFs
                                    replace f2_2hr1 := f2_2hr1.mono leFs
                                    replace f2_2hr2 := f2_2hr2.mono leFs
                                    replace f2_3hr1 := f2_3hr1.mono leFs
                                    replace f2_3hr2 := f2_3hr2.mono leFs
                                    replace f2_4hr := f2_4hr.mono leFs
                                    rw [(envs_of_sat (l := [(0, (.agg #[arv, rsv] : Value))]) ⟨e0, trivial⟩).symm]
                                    refine XG.op (XOp.call (args := [.agg #[arv, rsv]]) Tryz.call9 rfl (toSystem_spec har hrs (hla := (by first | assumption | rfl | omega | (left; simp; done) | (right; simp; done))) (hrl := (by first | assumption | rfl | omega | (left; simp; done) | (right; simp; done))) (hrb := (by first | assumption | rfl | omega | (left; simp; done) | (right; simp; done)))) ?_)
                                    rintro _ F43 _ le43 ⟨x39, x40, rfl, hr59, hr60, hr61, rfl⟩
                                    replace har := har.mono le43
                                    replace hrs := hrs.mono le43
                                    replace hf := hf.mono le43
                                    replace hxs := hxs.mono le43
                                    replace hs := hs.mono le43
                                    replace f1_1hr1 := f1_1hr1.mono le43
                                    replace f1_1hr2 := f1_1hr2.mono le43
                                    replace f3_1hr1 := f3_1hr1.mono le43
                                    replace f3_1hr2 := f3_1hr2.mono le43
                                    replace f5_1hr := f5_1hr.mono le43
                                    replace f6_1hr1 := f6_1hr1.mono le43
                                    replace f6_1hr2 := f6_1hr2.mono le43
                                    replace f2_2hr1 := f2_2hr1.mono le43
                                    replace f2_2hr2 := f2_2hr2.mono le43
                                    replace f2_3hr1 := f2_3hr1.mono le43
                                    replace f2_3hr2 := f2_3hr2.mono le43
                                    replace f2_4hr := f2_4hr.mono le43
                                    exact ⟨⟨rfl, hr59, hr60⟩, rfl⟩
                                  refine stepsG.cons (fun vals Fs R leFs hpZ => ?_) ?_
                                  · replace har := har.mono leFs
                                    replace hrs := hrs.mono leFs
                                    replace hf := hf.mono leFs
                                    replace hxs := hxs.mono leFs
                                    replace hs := hs.mono leFs
                                    replace f1_1hr1 := f1_1hr1.mono leFs
                                    replace f1_1hr2 := f1_1hr2.mono leFs
                                    replace f3_1hr1 := f3_1hr1.mono leFs
                                    replace f3_1hr2 := f3_1hr2.mono leFs
                                    replace f5_1hr := f5_1hr.mono leFs
                                    replace f6_1hr1 := f6_1hr1.mono leFs
                                    replace f6_1hr2 := f6_1hr2.mono leFs
                                    replace f2_2hr1 := f2_2hr1.mono leFs
                                    replace f2_2hr2 := f2_2hr2.mono leFs
                                    replace f2_3hr1 := f2_3hr1.mono leFs
                                    replace f2_3hr2 := f2_3hr2.mono leFs
                                    replace f2_4hr := f2_4hr.mono leFs
                                    refine XG.op (XOp.loadN [fv, xsv] Tryz.isAgg30 Tryz.sizeOf30 rfl rfl (Rd.ownN [_, _, _, _, _, _, _, _, _, _, _, _, _] rfl rfl) ?_)
                                    exact ⟨rfl, rfl⟩
                                  refine stepsG.cons (fun vals Fs R leFs hpZ => ?_) ?_
                                  · have e2 : vals 2 = (.agg #[fv, xsv] : Value) := hpZ 2 (by decide)
                                    replace har := har.mono leFs
                                    replace hrs := hrs.mono leFs
                                    replace hf := hf.mono leFs
                                    replace hxs := hxs.mono leFs
                                    replace hs := hs.mono leFs
                                    replace f1_1hr1 := f1_1hr1.mono leFs
                                    replace f1_1hr2 := f1_1hr2.mono leFs
                                    replace f3_1hr1 := f3_1hr1.mono leFs
                                    replace f3_1hr2 := f3_1hr2.mono leFs
                                    replace f5_1hr := f5_1hr.mono leFs
                                    replace f6_1hr1 := f6_1hr1.mono leFs
                                    replace f6_1hr2 := f6_1hr2.mono leFs
                                    replace f2_2hr1 := f2_2hr1.mono leFs
                                    replace f2_2hr2 := f2_2hr2.mono leFs
                                    replace f2_3hr1 := f2_3hr1.mono leFs
                                    replace f2_3hr2 := f2_3hr2.mono leFs
                                    replace f2_4hr := f2_4hr.mono leFs
                                    rw [(envs_of_sat (l := [(2, (.agg #[fv, xsv] : Value))]) ⟨e2, trivial⟩).symm]
                                    refine XG.op (XOp.call (args := [.agg #[fv, xsv]]) Tryz.call10 rfl (toWalk_spec hf hxs (hfl := (by first | assumption | rfl | omega | (left; simp; done) | (right; simp; done))) (hsl := (by first | assumption | rfl | omega | (left; simp; done) | (right; simp; done))) (hsb := (by first | assumption | rfl | omega | (left; simp; done) | (right; simp; done)))) ?_)
                                    rintro _ F44 _ le44 ⟨x41, x42, rfl, hr62, hr63, hr64, rfl⟩
                                    replace har := har.mono le44
                                    replace hrs := hrs.mono le44
                                    replace hf := hf.mono le44
                                    replace hxs := hxs.mono le44
                                    replace hs := hs.mono le44
                                    replace f1_1hr1 := f1_1hr1.mono le44
                                    replace f1_1hr2 := f1_1hr2.mono le44
                                    replace f3_1hr1 := f3_1hr1.mono le44
                                    replace f3_1hr2 := f3_1hr2.mono le44
                                    replace f5_1hr := f5_1hr.mono le44
                                    replace f6_1hr1 := f6_1hr1.mono le44
                                    replace f6_1hr2 := f6_1hr2.mono le44
                                    replace f2_2hr1 := f2_2hr1.mono le44
                                    replace f2_2hr2 := f2_2hr2.mono le44
                                    replace f2_3hr1 := f2_3hr1.mono le44
                                    replace f2_3hr2 := f2_3hr2.mono le44
                                    replace f2_4hr := f2_4hr.mono le44
                                    exact ⟨⟨rfl, hr62, hr63⟩, rfl⟩
                                  refine stepsG.cons (fun vals Fs R leFs hpZ => ?_) ?_
                                  · replace har := har.mono leFs
                                    replace hrs := hrs.mono leFs
                                    replace hf := hf.mono leFs
                                    replace hxs := hxs.mono leFs
                                    replace hs := hs.mono leFs
                                    replace f1_1hr1 := f1_1hr1.mono leFs
                                    replace f1_1hr2 := f1_1hr2.mono leFs
                                    replace f3_1hr1 := f3_1hr1.mono leFs
                                    replace f3_1hr2 := f3_1hr2.mono leFs
                                    replace f5_1hr := f5_1hr.mono leFs
                                    replace f6_1hr1 := f6_1hr1.mono leFs
                                    replace f6_1hr2 := f6_1hr2.mono leFs
                                    replace f2_2hr1 := f2_2hr1.mono leFs
                                    replace f2_2hr2 := f2_2hr2.mono leFs
                                    replace f2_3hr1 := f2_3hr1.mono leFs
                                    replace f2_3hr2 := f2_3hr2.mono leFs
                                    replace f2_4hr := f2_4hr.mono leFs
                                    refine XG.op (XOp.loadN [sv] Tryz.isAgg33 Tryz.sizeOf33 rfl rfl (Rd.ownN [_, _, _, _, _, _, _, _, _, _, _, _] rfl rfl) ?_)
                                    exact ⟨rfl, rfl⟩
                                  refine stepsG.cons (fun vals Fs R leFs hpZ => ?_) ?_
                                  · have e4 : vals 4 = (.agg #[sv] : Value) := hpZ 4 (by decide)
                                    replace har := har.mono leFs
                                    replace hrs := hrs.mono leFs
                                    replace hf := hf.mono leFs
                                    replace hxs := hxs.mono leFs
                                    replace hs := hs.mono leFs
                                    replace f1_1hr1 := f1_1hr1.mono leFs
                                    replace f1_1hr2 := f1_1hr2.mono leFs
                                    replace f3_1hr1 := f3_1hr1.mono leFs
                                    replace f3_1hr2 := f3_1hr2.mono leFs
                                    replace f5_1hr := f5_1hr.mono leFs
                                    replace f6_1hr1 := f6_1hr1.mono leFs
                                    replace f6_1hr2 := f6_1hr2.mono leFs
                                    replace f2_2hr1 := f2_2hr1.mono leFs
                                    replace f2_2hr2 := f2_2hr2.mono leFs
                                    replace f2_3hr1 := f2_3hr1.mono leFs
                                    replace f2_3hr2 := f2_3hr2.mono leFs
                                    replace f2_4hr := f2_4hr.mono leFs
                                    rw [(envs_of_sat (l := [(4, (.agg #[sv] : Value))]) ⟨e4, trivial⟩).symm]
                                    refine XG.op (XOp.call (args := [.agg #[sv]]) Tryz.call11 rfl (toSubst_spec hs (hsl := (by first | assumption | rfl | omega | (left; simp; done) | (right; simp; done))) (hsb := (by first | assumption | rfl | omega | (left; simp; done) | (right; simp; done)))) ?_)
                                    rintro _ F45 _ le45 ⟨x43, rfl, hr65, hr66, rfl⟩
                                    replace har := har.mono le45
                                    replace hrs := hrs.mono le45
                                    replace hf := hf.mono le45
                                    replace hxs := hxs.mono le45
                                    replace hs := hs.mono le45
                                    replace f1_1hr1 := f1_1hr1.mono le45
                                    replace f1_1hr2 := f1_1hr2.mono le45
                                    replace f3_1hr1 := f3_1hr1.mono le45
                                    replace f3_1hr2 := f3_1hr2.mono le45
                                    replace f5_1hr := f5_1hr.mono le45
                                    replace f6_1hr1 := f6_1hr1.mono le45
                                    replace f6_1hr2 := f6_1hr2.mono le45
                                    replace f2_2hr1 := f2_2hr1.mono le45
                                    replace f2_2hr2 := f2_2hr2.mono le45
                                    replace f2_3hr1 := f2_3hr1.mono le45
                                    replace f2_3hr2 := f2_3hr2.mono le45
                                    replace f2_4hr := f2_4hr.mono le45
                                    exact ⟨⟨rfl, hr65⟩, rfl⟩
                                  refine stepsG.cons (fun vals Fs R leFs hpZ => ?_) ?_
                                  · obtain ⟨e1, f1_5hr1, f1_5hr2⟩ := hpZ 1 (by decide)
                                    obtain ⟨e3, f3_5hr1, f3_5hr2⟩ := hpZ 3 (by decide)
                                    obtain ⟨e5, f5_5hr⟩ := hpZ 5 (by decide)
                                    replace har := har.mono leFs
                                    replace hrs := hrs.mono leFs
                                    replace hf := hf.mono leFs
                                    replace hxs := hxs.mono leFs
                                    replace hs := hs.mono leFs
                                    replace f1_1hr1 := f1_1hr1.mono leFs
                                    replace f1_1hr2 := f1_1hr2.mono leFs
                                    replace f3_1hr1 := f3_1hr1.mono leFs
                                    replace f3_1hr2 := f3_1hr2.mono leFs
                                    replace f5_1hr := f5_1hr.mono leFs
                                    replace f6_1hr1 := f6_1hr1.mono leFs
                                    replace f6_1hr2 := f6_1hr2.mono leFs
                                    replace f2_2hr1 := f2_2hr1.mono leFs
                                    replace f2_2hr2 := f2_2hr2.mono leFs
                                    replace f2_3hr1 := f2_3hr1.mono leFs
                                    replace f2_3hr2 := f2_3hr2.mono leFs
                                    replace f2_4hr := f2_4hr.mono leFs
                                    rw [(envs_of_sat (l := [(1, (.agg #[((aggAt (vals 1) 0)), ((aggAt (vals 1) 1))] : Value)), (3, (.agg #[((aggAt (vals 3) 0)), ((aggAt (vals 3) 1))] : Value)), (5, (.agg #[((aggAt (vals 5) 0))] : Value))]) ⟨(e1).symm, (e3).symm, (e5).symm, trivial⟩).symm]
                                    refine XG.op (XOp.call (args := [.agg #[((aggAt (vals 1) 0)), ((aggAt (vals 1) 1))], .agg #[((aggAt (vals 3) 0)), ((aggAt (vals 3) 1))], .agg #[((aggAt (vals 5) 0))]]) Tryz.call12 rfl (WalkUnder_spec f1_5hr1 f1_5hr2 f3_5hr1 f3_5hr2 f5_5hr (hlf := (by first | assumption | rfl | omega | (left; simp; done) | (right; simp; done))) (hsb := (by first | assumption | rfl | omega | (left; simp; done) | (right; simp; done)))) ?_)
                                    rintro _ F46 _ le46 ⟨x44, x45, rfl, hr67, hr68, hr69, rfl⟩
                                    replace har := har.mono le46
                                    replace hrs := hrs.mono le46
                                    replace hf := hf.mono le46
                                    replace hxs := hxs.mono le46
                                    replace hs := hs.mono le46
                                    replace f1_1hr1 := f1_1hr1.mono le46
                                    replace f1_1hr2 := f1_1hr2.mono le46
                                    replace f3_1hr1 := f3_1hr1.mono le46
                                    replace f3_1hr2 := f3_1hr2.mono le46
                                    replace f5_1hr := f5_1hr.mono le46
                                    replace f6_1hr1 := f6_1hr1.mono le46
                                    replace f6_1hr2 := f6_1hr2.mono le46
                                    replace f2_2hr1 := f2_2hr1.mono le46
                                    replace f2_2hr2 := f2_2hr2.mono le46
                                    replace f2_3hr1 := f2_3hr1.mono le46
                                    replace f2_3hr2 := f2_3hr2.mono le46
                                    replace f2_4hr := f2_4hr.mono le46
                                    replace f1_5hr1 := f1_5hr1.mono le46
                                    replace f1_5hr2 := f1_5hr2.mono le46
                                    replace f3_5hr1 := f3_5hr1.mono le46
                                    replace f3_5hr2 := f3_5hr2.mono le46
                                    replace f5_5hr := f5_5hr.mono le46
                                    exact ⟨⟨rfl, hr67, hr68⟩, rfl⟩
                                  refine stepsG.cons (fun vals Fs R leFs hpZ => ?_) ?_
                                  · obtain ⟨e6, f6_5hr1, f6_5hr2⟩ := hpZ 6 (by decide)
                                    rw [(envs_of_sat (l := [(6, (.tuple #[.agg #[((aggAt (tupAt (vals 6) 0) 0)), ((aggAt (tupAt (vals 6) 0) 1))], .bool ((undB ar rs f xs s).2.2)] : Value))]) ⟨(e6).symm, trivial⟩).symm]
                                    refine XG.op (XOp.move (.tuple #[.agg #[((aggAt (tupAt (vals 6) 0) 0)), ((aggAt (tupAt (vals 6) 0) 1))], .bool ((undB ar rs f xs s).2.2)]) rfl ?_)
                                    exact ⟨rfl, rfl⟩
                                  refine stepsG.cons (fun vals Fs R leFs hpZ => ?_) ?_
                                  · obtain ⟨e6, f6_5hr1, f6_5hr2⟩ := hpZ 6 (by decide)
                                    have e7 : vals 7 = (.tuple #[.agg #[((aggAt (tupAt (vals 6) 0) 0)), ((aggAt (tupAt (vals 6) 0) 1))], .bool ((undB ar rs f xs s).2.2)] : Value) := hpZ 7 (by decide)
                                    rw [(envs_of_sat (l := [(6, (.tuple #[.agg #[((aggAt (tupAt (vals 6) 0) 0)), ((aggAt (tupAt (vals 6) 0) 1))], .bool ((undB ar rs f xs s).2.2)] : Value)), (7, (.tuple #[.agg #[((aggAt (tupAt (vals 6) 0) 0)), ((aggAt (tupAt (vals 6) 0) 1))], .bool ((undB ar rs f xs s).2.2)] : Value))]) ⟨(e6).symm, e7, trivial⟩).symm]
                                    refine XG.op (XOp.extract (.agg #[((aggAt (tupAt (vals 6) 0) 0)), ((aggAt (tupAt (vals 6) 0) 1))]) rfl rfl ?_)
                                    exact ⟨rfl, rfl⟩
                                  refine stepsG.cons (fun vals Fs R leFs hpZ => ?_) ?_
                                  · obtain ⟨e6, f6_5hr1, f6_5hr2⟩ := hpZ 6 (by decide)
                                    have e7 : vals 7 = (.tuple #[.agg #[((aggAt (tupAt (vals 6) 0) 0)), ((aggAt (tupAt (vals 6) 0) 1))], .bool ((undB ar rs f xs s).2.2)] : Value) := hpZ 7 (by decide)
                                    rw [(envs_of_sat (l := [(6, (.tuple #[.agg #[((aggAt (tupAt (vals 6) 0) 0)), ((aggAt (tupAt (vals 6) 0) 1))], .bool ((undB ar rs f xs s).2.2)] : Value)), (7, (.tuple #[.agg #[((aggAt (tupAt (vals 6) 0) 0)), ((aggAt (tupAt (vals 6) 0) 1))], .bool ((undB ar rs f xs s).2.2)] : Value))]) ⟨(e6).symm, e7, trivial⟩).symm]
                                    refine XG.op (XOp.extract (.bool ((undB ar rs f xs s).2.2)) rfl rfl ?_)
                                    exact ⟨rfl, rfl⟩
                                  refine stepsG.cons (fun vals Fs R leFs hpZ => ?_) ?_
                                  · replace har := har.mono leFs
                                    replace hrs := hrs.mono leFs
                                    replace hf := hf.mono leFs
                                    replace hxs := hxs.mono leFs
                                    replace hs := hs.mono leFs
                                    replace f1_1hr1 := f1_1hr1.mono leFs
                                    replace f1_1hr2 := f1_1hr2.mono leFs
                                    replace f3_1hr1 := f3_1hr1.mono leFs
                                    replace f3_1hr2 := f3_1hr2.mono leFs
                                    replace f5_1hr := f5_1hr.mono leFs
                                    replace f6_1hr1 := f6_1hr1.mono leFs
                                    replace f6_1hr2 := f6_1hr2.mono leFs
                                    replace f2_2hr1 := f2_2hr1.mono leFs
                                    replace f2_2hr2 := f2_2hr2.mono leFs
                                    replace f2_3hr1 := f2_3hr1.mono leFs
                                    replace f2_3hr2 := f2_3hr2.mono leFs
                                    replace f2_4hr := f2_4hr.mono leFs
                                    refine XG.op (XOp.alloc [(.slice none 0 0), (.slice none 0 0)] Tryz.zeroValue39 rfl ?_)
                                    intro b12
                                    exact ⟨rfl, rfl⟩
                                  refine stepsG.cons (fun vals Fs R leFs hpZ => ?_) ?_
                                  · obtain ⟨e6, f6_5hr1, f6_5hr2⟩ := hpZ 6 (by decide)
                                    have e8 : vals 8 = (.agg #[((aggAt (tupAt (vals 6) 0) 0)), ((aggAt (tupAt (vals 6) 0) 1))] : Value) := hpZ 8 (by decide)
                                    have e10 : vals 10 = ptr (blk (vals 10)) 0 := hpZ 10 (by decide)
                                    replace har := har.mono leFs
                                    replace hrs := hrs.mono leFs
                                    replace hf := hf.mono leFs
                                    replace hxs := hxs.mono leFs
                                    replace hs := hs.mono leFs
                                    replace f1_1hr1 := f1_1hr1.mono leFs
                                    replace f1_1hr2 := f1_1hr2.mono leFs
                                    replace f3_1hr1 := f3_1hr1.mono leFs
                                    replace f3_1hr2 := f3_1hr2.mono leFs
                                    replace f5_1hr := f5_1hr.mono leFs
                                    replace f6_1hr1 := f6_1hr1.mono leFs
                                    replace f6_1hr2 := f6_1hr2.mono leFs
                                    replace f2_2hr1 := f2_2hr1.mono leFs
                                    replace f2_2hr2 := f2_2hr2.mono leFs
                                    replace f2_3hr1 := f2_3hr1.mono leFs
                                    replace f2_3hr2 := f2_3hr2.mono leFs
                                    replace f2_4hr := f2_4hr.mono leFs
                                    rw [(envs_of_sat (l := [(6, (.tuple #[.agg #[((aggAt (tupAt (vals 6) 0) 0)), ((aggAt (tupAt (vals 6) 0) 1))], .bool ((undB ar rs f xs s).2.2)] : Value)), (8, (.agg #[((aggAt (tupAt (vals 6) 0) 0)), ((aggAt (tupAt (vals 6) 0) 1))] : Value)), (10, ptr (blk (vals 10)) 0)]) ⟨(e6).symm, e8, e10, trivial⟩).symm]
                                    show XG _ _ _ _ _ (cellsH (blk (vals 10)) [(.slice none 0 0), (.slice none 0 0)] 39 :: ([intsH 2 x20 m6, stepsD 2 78 x21 m7, rowsD 2 22 x19 m5, intsH 2 x17 m3, stepsD 2 78 x18 m4, intsH 2 x15 m1, pairsD 2 110 x16 m2, cellsH b10 [x20, x21] 39, cellsH b9 [x19] 48, cellsH b8 [x17, x18] 39, cellsH b7 [x15, x16] 45, cellsH b6 [u6, u7] 39, cellsH b3 [sv] 33, cellsH b2 [fv, xsv] 30, cellsH b1 [arv, rsv] 27] ++ R)) _
                                    refine XG.op (XOp.storeN (vs := [((aggAt (tupAt (vals 6) 0) 0)), ((aggAt (tupAt (vals 6) 0) 1))]) [] _ [((aggAt (tupAt (vals 6) 0) 0)), ((aggAt (tupAt (vals 6) 0) 1))] Tryz.sizeOf39 rfl rfl rfl (ones_cons (one_sl (IntsF.isSl f6_5hr1)) (ones_cons (one_sl (StepsF.isSl f6_5hr2)) ones_nil)) rfl rfl rfl ?_)
                                    exact ⟨trivial, rfl⟩
                                  exact stepsG.nil
                                · intro vals F47 le47 hphi
                                  have e0 : vals 0 = (.agg #[arv, rsv] : Value) := hphi 0 (by decide)
                                  obtain ⟨e1, f1_5hr1, f1_5hr2⟩ := hphi 1 (by decide)
                                  have e2 : vals 2 = (.agg #[fv, xsv] : Value) := hphi 2 (by decide)
                                  obtain ⟨e3, f3_5hr1, f3_5hr2⟩ := hphi 3 (by decide)
                                  have e4 : vals 4 = (.agg #[sv] : Value) := hphi 4 (by decide)
                                  obtain ⟨e5, f5_5hr⟩ := hphi 5 (by decide)
                                  obtain ⟨e6, f6_5hr1, f6_5hr2⟩ := hphi 6 (by decide)
                                  have e7 : vals 7 = (.tuple #[.agg #[((aggAt (tupAt (vals 6) 0) 0)), ((aggAt (tupAt (vals 6) 0) 1))], .bool ((undB ar rs f xs s).2.2)] : Value) := hphi 7 (by decide)
                                  have e8 : vals 8 = (.agg #[((aggAt (tupAt (vals 6) 0) 0)), ((aggAt (tupAt (vals 6) 0) 1))] : Value) := hphi 8 (by decide)
                                  have e9 : vals 9 = (.bool ((undB ar rs f xs s).2.2) : Value) := hphi 9 (by decide)
                                  have e10 : vals 10 = ptr (blk (vals 10)) 0 := hphi 10 (by decide)
                                  generalize hu14 : ((aggAt (vals 1) 0)) = u13 at e0 e1 f1_5hr1 f1_5hr2 e2 e3 f3_5hr1 f3_5hr2 e4 e5 f5_5hr e6 f6_5hr1 f6_5hr2 e7 e8 e9 e10
                                  generalize hu15 : ((aggAt (vals 1) 1)) = u14 at e0 e1 f1_5hr1 f1_5hr2 e2 e3 f3_5hr1 f3_5hr2 e4 e5 f5_5hr e6 f6_5hr1 f6_5hr2 e7 e8 e9 e10
                                  generalize hu16 : ((aggAt (vals 3) 0)) = u15 at e0 e1 f1_5hr1 f1_5hr2 e2 e3 f3_5hr1 f3_5hr2 e4 e5 f5_5hr e6 f6_5hr1 f6_5hr2 e7 e8 e9 e10
                                  generalize hu17 : ((aggAt (vals 3) 1)) = u16 at e0 e1 f1_5hr1 f1_5hr2 e2 e3 f3_5hr1 f3_5hr2 e4 e5 f5_5hr e6 f6_5hr1 f6_5hr2 e7 e8 e9 e10
                                  generalize hu18 : ((aggAt (vals 5) 0)) = u17 at e0 e1 f1_5hr1 f1_5hr2 e2 e3 f3_5hr1 f3_5hr2 e4 e5 f5_5hr e6 f6_5hr1 f6_5hr2 e7 e8 e9 e10
                                  generalize hu19 : ((aggAt (tupAt (vals 6) 0) 0)) = u18 at e0 e1 f1_5hr1 f1_5hr2 e2 e3 f3_5hr1 f3_5hr2 e4 e5 f5_5hr e6 f6_5hr1 f6_5hr2 e7 e8 e9 e10
                                  generalize hu20 : ((aggAt (tupAt (vals 6) 0) 1)) = u19 at e0 e1 f1_5hr1 f1_5hr2 e2 e3 f3_5hr1 f3_5hr2 e4 e5 f5_5hr e6 f6_5hr1 f6_5hr2 e7 e8 e9 e10
                                  generalize hu21 : blk (vals 10) = b13 at e0 e1 f1_5hr1 f1_5hr2 e2 e3 f3_5hr1 f3_5hr2 e4 e5 f5_5hr e6 f6_5hr1 f6_5hr2 e7 e8 e9 e10
                                  rw [(envs_of_sat (l := [(0, (.agg #[arv, rsv] : Value)), (1, (.agg #[u13, u14] : Value)), (2, (.agg #[fv, xsv] : Value)), (3, (.agg #[u15, u16] : Value)), (4, (.agg #[sv] : Value)), (5, (.agg #[u17] : Value)), (6, (.tuple #[.agg #[u18, u19], .bool ((undB ar rs f xs s).2.2)] : Value)), (7, (.tuple #[.agg #[u18, u19], .bool ((undB ar rs f xs s).2.2)] : Value)), (8, (.agg #[u18, u19] : Value)), (9, (.bool ((undB ar rs f xs s).2.2) : Value)), (10, ptr b13 0)]) ⟨e0, (e1).symm, e2, (e3).symm, e4, (e5).symm, (e6).symm, e7, e8, e9, e10, trivial⟩).symm]
                                  replace har := har.mono le47
                                  replace hrs := hrs.mono le47
                                  replace hf := hf.mono le47
                                  replace hxs := hxs.mono le47
                                  replace hs := hs.mono le47
                                  replace f1_1hr1 := f1_1hr1.mono le47
                                  replace f1_1hr2 := f1_1hr2.mono le47
                                  replace f3_1hr1 := f3_1hr1.mono le47
                                  replace f3_1hr2 := f3_1hr2.mono le47
                                  replace f5_1hr := f5_1hr.mono le47
                                  replace f6_1hr1 := f6_1hr1.mono le47
                                  replace f6_1hr2 := f6_1hr2.mono le47
                                  replace f2_2hr1 := f2_2hr1.mono le47
                                  replace f2_2hr2 := f2_2hr2.mono le47
                                  replace f2_3hr1 := f2_3hr1.mono le47
                                  replace f2_3hr2 := f2_3hr2.mono le47
                                  replace f2_4hr := f2_4hr.mono le47
                                  show XL _ _ _ _ _ _ _ (cellsH b13 [u18, u19] 39 :: intsH 2 x20 m6 :: stepsD 2 78 x21 m7 :: rowsD 2 22 x19 m5 :: intsH 2 x17 m3 :: stepsD 2 78 x18 m4 :: intsH 2 x15 m1 :: pairsD 2 110 x16 m2 :: cellsH b10 [x20, x21] 39 :: cellsH b9 [x19] 48 :: cellsH b8 [x17, x18] 39 :: cellsH b7 [x15, x16] 45 :: cellsH b6 [u6, u7] 39 :: cellsH b3 [sv] 33 :: cellsH b2 [fv, xsv] 30 :: cellsH b1 [arv, rsv] 27 :: L)
                                  refine XL.cons (XOp.assign (.bool ((undB ar rs f xs s).2.2)) rfl ?_)
                                  refine XL.nil ?_
                                  refine X.seq ?_
                                  refine X.seq ?_
                                  refine X.region ?_
                                  refine XL.cons (XOp.loadN [u18, u19] Tryz.isAgg39 Tryz.sizeOf39 rfl rfl (Rd.ownN [] rfl rfl) ?_)
                                  refine XL.cons (XOp.loadN [u6, u7] Tryz.isAgg39 Tryz.sizeOf39 rfl rfl (Rd.ownN [_, _, _, _, _, _, _, _, _, _, _, _] rfl rfl) ?_)
                                  refine XL.cons (XOp.call (args := [.agg #[u18, u19], .agg #[u6, u7]]) Tryz.call13 rfl (eqWalk_spec f6_5hr1 f6_5hr2 f6_1hr1 f6_1hr2 (hfl := (by first | assumption | rfl | omega | (left; simp; done) | (right; simp; done))) (hal := (by first | assumption | rfl | omega | (left; simp; done) | (right; simp; done))) (hbd := (by first | assumption | exact fun i hi => by have := hnd i hi; omega))) ?_)
                                  rintro _ _ _ _ ⟨rfl, rfl, rfl⟩
                                  refine XL.cons (XOp.notD (p := ((undB ar rs f xs s).1) = ((undB ar rs f xs s).1) ∧ ((undB ar rs f xs s).2.1) = ((undB ar rs f xs s).2.1)) rfl ?_)
                                  refine XL.cons (XOp.move (.bool (decide (¬(((undB ar rs f xs s).1) = ((undB ar rs f xs s).1) ∧ ((undB ar rs f xs s).2.1) = ((undB ar rs f xs s).2.1))))) rfl ?_)
                                  refine XL.yes (t := 129) rfl (congrArg Value.bool (decide_eq_false h4)) (XOp.move (.bool ((undB ar rs f xs s).2.2)) rfl ?_)
                                  refine XL.yes (t := 129) rfl (congrArg Value.bool (decide_eq_false h4)) (XOp.move (.bool ((undB ar rs f xs s).2.2)) rfl ?_)
                                  refine XL.yes (t := 129) rfl (congrArg Value.bool (decide_eq_false h4)) (XOp.neB (a := (undB ar rs f xs s).2.2) (b := (undB ar rs f xs s).2.2) Tryz.runUnderlying4 rfl rfl ?_)
                                  refine XL.cons (XOp.pickF (.bool (decide (((undB ar rs f xs s).2.2) ≠ ((undB ar rs f xs s).2.2)))) (congrArg Value.bool (decide_eq_false h4)) rfl ?_)
                                  refine XL.nil ?_
                                  refine X.condF (congrArg Value.bool (decide_eq_false h5)) ?_
                                  refine X.skip ?_
                                  refine X.seq ?_
                                  refine X.region ?_
                                  refine XL.cons (XOp.assign (.int .i64 (1)) rfl ?_)
                                  refine XL.nil ?_
                                  refine X.seq ?_
                                  refine X.region ?_
                                  refine XL.cons (XOp.loadN [x20, x21] Tryz.isAgg39 Tryz.sizeOf39 rfl rfl (Rd.ownN [_, _, _, _, _, _, _, _] rfl rfl) ?_)
                                  refine XL.cons (XOp.move (.int .i64 (1)) rfl ?_)
                                  refine XL.cons (XOp.lend [_] _ _ rfl (fun F48 le48 hz17 => ?_))
                                  refine id (XOp.lend [_] _ _ rfl (fun F49 le49 hz18 => ?_))
                                  have hf17 : IntsF _ x20 m6 := (intsH.fz (xs := m6) hz17).mono le49
                                  have hf18 : StepsF _ x21 m7 := stepsD.fz hz18
                                  refine id (XOp.call (args := [.agg #[x20, x21], .int .i64 (1)]) Tryz.call19 rfl (heldWalk_spec (z := 1) hf17 hf18 (hzb := (by first | assumption | rfl | omega | (left; simp; done) | (right; simp; done))) (hxl := (by first | assumption | rfl | omega | (left; simp; done) | (right; simp; done)))) ?_)
                                  rintro _ _ _ _ ⟨rfl, rfl, rfl⟩
                                  show XL _ _ _ _ _ _ _ (intsH 2 x20 m6 :: stepsD 2 78 x21 m7 :: cellsH b13 [u18, u19] 39 :: rowsD 2 22 x19 m5 :: intsH 2 x17 m3 :: stepsD 2 78 x18 m4 :: intsH 2 x15 m1 :: pairsD 2 110 x16 m2 :: cellsH b10 [x20, x21] 39 :: cellsH b9 [x19] 48 :: cellsH b8 [x17, x18] 39 :: cellsH b7 [x15, x16] 45 :: cellsH b6 [u6, u7] 39 :: cellsH b3 [sv] 33 :: cellsH b2 [fv, xsv] 30 :: cellsH b1 [arv, rsv] 27 :: L)
                                  refine XL.cons (XOp.assign (.int .i64 (heldF (m6 ++ m7.flatMap flatStep) 1)) rfl ?_)
                                  refine XL.nil ?_
                                  refine X.seq ?_
                                  refine X.seq ?_
                                  refine X.region ?_
                                  refine XL.cons (XOp.move (.int .i64 (heldF (m6 ++ m7.flatMap flatStep) 1)) rfl ?_)
                                  refine XL.cons (XOp.lss (a := heldF (m6 ++ m7.flatMap flatStep) 1) (b := 0) rfl rfl ?_)
                                  refine XL.nil ?_
                                  refine X.condF (congrArg Value.bool (decide_eq_false h10)) ?_
                                  refine X.skip ?_
                                  refine X.seq ?_
                                  refine X.seq ?_
                                  refine X.region ?_
                                  refine XL.cons (XOp.move (.int .i64 (heldF (m6 ++ m7.flatMap flatStep) 1)) rfl ?_)
                                  refine XL.cons (XOp.move (.int .i64 (1 + (((((undB ar rs f xs s).1)) ++ (((undB ar rs f xs s).2.1).flatMap flatStep)).length : Int))) rfl ?_)
                                  refine XL.cons (XOp.neq (a := heldF (m6 ++ m7.flatMap flatStep) 1) (b := 1 + (((((undB ar rs f xs s).1)) ++ (((undB ar rs f xs s).2.1).flatMap flatStep)).length : Int)) rfl rfl ?_)
                                  refine XL.nil ?_
                                  refine X.condF (congrArg Value.bool (decide_eq_false h11)) ?_
                                  refine X.skip ?_
                                  refine X.seq ?_
                                  refine X.region ?_
                                  refine XL.cons (XOp.assign (.bool (true)) rfl ?_)
                                  refine XL.nil ?_
                                  refine X.ret (retEnd (L' := L) [.bool (true)] (.bool (true)) (.tmp rfl .nil) rfl (FLe.refl _) (FLe.trans (FLe.trans (FLe.trans (FLe.trans le9 le23) le28) le33) le47) (Sub.drop (Sub.drop (Sub.drop (Sub.drop (Sub.drop (Sub.drop (Sub.drop (Sub.drop (Sub.drop (Sub.drop (Sub.drop (Sub.drop (Sub.drop (Sub.drop (Sub.drop (Sub.drop (Sub.refl _))))))))))))))))) ?_)
                                  exact ⟨rfl, rfl, rfl⟩
end Go.Proofs.YtacbenjncjcglaaGreat
