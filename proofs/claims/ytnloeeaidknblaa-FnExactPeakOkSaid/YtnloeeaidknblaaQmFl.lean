/-
  Walks: the reference's steps.
-/
import Derived.Test.YtnloeeaidknblaaQmFk
set_option linter.unusedSimpArgs false
set_option linter.unusedVariables false
namespace Go.Proofs.Ytnloeeaidknblaa
open Go X M

/- spec.l2Filled -/
theorem l2Filled_spec {F : FH} {L : List HP} {sv : Value} {s : List (List Int)} (hs : RowsF F sv s) {tv : Value} {t : List Int} (ht : IntsF F tv t) (hsl : s.length ≤ 4000000) (hsb : ∀ i, (s.getD i []).length ≤ 4000000) (htl : t.length ≤ 4000000) (htg : ∀ k, k < t.length → -4000000 ≤ t.getD k 0) :
    Does Try.prog 150 [.agg #[sv], tv] F (L) (fun v F' L' => ∃ (a : Value), (.tuple #[a, .bool ((fillL s t).isSome)] : Value) = v ∧ (IntsF F' a ((fillL s t).getD [])) ∧ L = L') := by
  refine Does.of_X Try.func150 rfl rfl rfl ?_
  refine X.seq ?_
  refine X.region ?_
  refine XL.cons (XOp.box [sv] rfl rfl ?_)
  intro b1
  refine XL.cons (XOp.assign ((.slice none 0 0)) rfl ?_)
  refine XL.cons (XOp.assign (.bool (false)) rfl ?_)
  refine XL.nil ?_
  refine X.seq ?_
  refine X.region ?_
  refine XL.cons (XOp.buildSlice (s := 1) [] [.int .i64 (0)] [] Try.runUnderlying22 Try.sizeOf2 Try.zeroValue2 rfl (by decide) rfl CellsAre.nil rfl ?_)
  intro v1 hv1
  refine XL.cons (XOp.assign (v1) rfl ?_)
  refine XL.nil ?_
  refine X.seq ?_
  refine X.seq ?_
  refine X.region ?_
  refine XL.cons (XOp.assign (.int .i64 (0)) rfl ?_)
  refine XL.nil ?_
  refine X.block ?_
  refine X.loop (α := Nat × Value × List Int) (fun xQ => [(1, tv), (2, ptr b1 0), (6, xQ.2.1), (7, .int .i64 (((xQ.1 : Nat) : Int)))]) (fun xQ => intsH 2 xQ.2.1 xQ.2.2 :: cellsH b1 [sv] 184 :: L) (fun xQ F' => F = F' ∧ (IsSl xQ.2.1) ∧ (xQ.1 ≤ t.length) ∧ (fillL s t = fillGo s (t.drop xQ.1) xQ.2.2) ∧ (xQ.2.2.length ≤ 60)) (fun xQ => t.length - xQ.1) (0, v1, []) ⟨rfl, rfl, rfl, rfl, trivial⟩ (Sub.cons (Sub.cons (Sub.refl _))) ⟨rfl, ((isSl_lit hv1)), (by (try dsimp only) <;> omega), (rfl), (by simp)⟩ ?_
  rintro ⟨k, ov, os⟩ rE _ _ ⟨rfl, hov, hk, hm, hol⟩
  show X _ _ _ _ (envs [(1, tv), (2, ptr b1 0), (6, ov), (7, .int .i64 (((k : Nat) : Int)))] rE) _ (intsH 2 ov os :: cellsH b1 [sv] 184 :: L)
  dsimp only at hov hk hm hol
  have htk := htg k
  have hlk0 := lk_bound (N := 4000000) (by omega) hsb (-1 - (((-1 - t.getD k 0).toNat : Nat) : Int))
  refine X.seq ?_
  refine X.seq ?_
  refine X.region ?_
  refine XL.cons (XOp.move (.int .i64 (((k : Nat) : Int))) rfl ?_)
  refine XL.cons (XOp.move (tv) rfl ?_)
  refine XL.cons (XOp.lenS (v := tv) (n := (t).length) Try.runUnderlying22 rfl ht.slv ?_)
  refine XL.cons (XOp.lss (a := ((k : Nat) : Int)) (b := (((t).length : Nat) : Int)) rfl rfl ?_)
  refine XL.nil ?_
  refine X.condD (p := (((k : Nat) : Int) : Int) < (((t).length : Nat) : Int)) rfl (fun h1 => ?_) (fun h1 => ?_)
  · refine X.skip ?_
    refine X.seq ?_
    refine X.block ?_
    refine X.seq ?_
    refine X.seq ?_
    refine X.region ?_
    refine XL.cons (XOp.move (tv) rfl ?_)
    refine XL.cons (XOp.move (.int .i64 (((k : Nat) : Int))) rfl ?_)
    refine XL.cons (XOp.indexS (v := tv) (i := ((k : Nat) : Int)) (n := (t).length) k Try.runUnderlying22 Try.sizeOf2 rfl rfl rfl ht.slv (by omega) (Nat.mul_one _) ?_)
    refine XL.cons (XOp.load1 (v := .int .i64 (t.getD k 0)) Try.isAgg2 rfl (ht.rd (by omega)) ?_)
    refine XL.cons (XOp.lss (a := t.getD k 0) (b := 0) rfl rfl ?_)
    refine XL.nil ?_
    refine X.condD (p := (t.getD k 0 : Int) < 0) rfl (fun h2 => ?_) (fun h2 => ?_)
    · refine X.drawG [intsH 2 ov os, cellsH b1 [sv] 184] L 8 [[], [], [], [], [], [], [], []] [[], [], [], [], [2, 3], [4], [5], [1, 6]] [[], [], [], [], [], [], [], []] (phiG [fun FF us v => v = ov, fun FF us v => v = (.agg #[sv] : Value), fun FF us v => v = tv, fun FF us v => v = (.int .i64 (((k : Nat) : Int)) : Value), fun FF us v => v = (.pointer (some (elemA tv (k))) : Value), fun FF us v => v = (.int .i64 (t.getD k 0) : Value), fun FF us v => v = (.int .i64 ((-1) - (t.getD k 0)) : Value), fun FF us v => ((v) : Value) = v ∧ (IntsF FF (v) (lk s (-1 - ((((-1) - (t.getD k 0)).toNat) : Int))))]) (ownL [fun us v => [], fun us v => [], fun us v => [], fun us v => [], fun us v => [], fun us v => [], fun us v => [], fun us v => []]) mixed rfl rfl (by kernel_rfl) (by kernel_rfl) (MonoG.get (MonoG.cons (fun le h => h) (MonoG.cons (fun le h => h) (MonoG.cons (fun le h => h) (MonoG.cons (fun le h => h) (MonoG.cons (fun le h => h) (MonoG.cons (fun le h => h) (MonoG.cons (fun le h => h) (MonoG.cons (fun le h => ⟨h.1, h.2.mono le⟩) MonoG.nil))))))))) ?_ ?_
      · refine stepsG.cons (fun vals Fs R leFs hpZ => ?_) ?_
        · refine XG.op (XOp.move (ov) rfl ?_)
          exact ⟨rfl, rfl⟩
        refine stepsG.cons (fun vals Fs R leFs hpZ => ?_) ?_
        · replace hs := hs.mono leFs
          replace ht := ht.mono leFs
          refine XG.op (XOp.loadN [sv] Try.isAgg184 Try.sizeOf184 rfl rfl (Rd.ownN [_] rfl rfl) ?_)
          exact ⟨rfl, rfl⟩
        refine stepsG.cons (fun vals Fs R leFs hpZ => ?_) ?_
        · refine XG.op (XOp.move (tv) rfl ?_)
          exact ⟨rfl, rfl⟩
        refine stepsG.cons (fun vals Fs R leFs hpZ => ?_) ?_
        · refine XG.op (XOp.move (.int .i64 (((k : Nat) : Int))) rfl ?_)
          exact ⟨rfl, rfl⟩
        refine stepsG.cons (fun vals Fs R leFs hpZ => ?_) ?_
        · have e2 : vals 2 = tv := hpZ 2 (by decide)
          have e3 : vals 3 = (.int .i64 (((k : Nat) : Int)) : Value) := hpZ 3 (by decide)
          replace hs := hs.mono leFs
          replace ht := ht.mono leFs
          rw [(envs_of_sat (l := [(2, tv), (3, (.int .i64 (((k : Nat) : Int)) : Value))]) ⟨e2, e3, trivial⟩).symm]
          refine XG.op (XOp.indexS (v := tv) (i := ((k : Nat) : Int)) (n := (t).length) k Try.runUnderlying22 Try.sizeOf2 rfl rfl rfl ht.slv (by omega) (Nat.mul_one _) ?_)
          exact ⟨rfl, rfl⟩
        refine stepsG.cons (fun vals Fs R leFs hpZ => ?_) ?_
        · have e4 : vals 4 = (.pointer (some (elemA tv (k))) : Value) := hpZ 4 (by decide)
          replace hs := hs.mono leFs
          replace ht := ht.mono leFs
          rw [(envs_of_sat (l := [(4, (.pointer (some (elemA tv (k))) : Value))]) ⟨e4, trivial⟩).symm]
          refine XG.op (XOp.load1 (v := .int .i64 (t.getD k 0)) Try.isAgg2 rfl (ht.rd (by omega)) ?_)
          exact ⟨rfl, rfl⟩
        refine stepsG.cons (fun vals Fs R leFs hpZ => ?_) ?_
        · have e5 : vals 5 = (.int .i64 (t.getD k 0) : Value) := hpZ 5 (by decide)
          rw [(envs_of_sat (l := [(5, (.int .i64 (t.getD k 0) : Value))]) ⟨e5, trivial⟩).symm]
          refine XG.op (XOp.subR (a := -1) (b := t.getD k 0) ((-1) - (t.getD k 0)) rfl rfl (by omega) (by omega) ?_)
          exact ⟨rfl, rfl⟩
        refine stepsG.cons (fun vals Fs R leFs hpZ => ?_) ?_
        · have e1 : vals 1 = (.agg #[sv] : Value) := hpZ 1 (by decide)
          have e6 : vals 6 = (.int .i64 ((-1) - (t.getD k 0)) : Value) := hpZ 6 (by decide)
          replace hs := hs.mono leFs
          replace ht := ht.mono leFs
          rw [(envs_of_sat (l := [(1, (.agg #[sv] : Value)), (6, (.int .i64 ((-1) - (t.getD k 0)) : Value))]) ⟨e1, e6, trivial⟩).symm]
          refine XG.op (XOp.frzF <| XOp.call (args := [.agg #[sv], .int .i64 ((((-1) - (t.getD k 0)).toNat : Nat) : Int)]) Try.call184 (by rw [show ((((-1) - (t.getD k 0)).toNat : Nat) : Int) = (-1) - (t.getD k 0) from by omega]; rfl) (l2Gives_spec (i := ((-1) - (t.getD k 0)).toNat) hs (hsl := (by first | assumption | rfl | omega | (left; simp; done) | (right; simp; done))) (hi := (by first | assumption | rfl | omega | (left; simp; done) | (right; simp; done))) (hsb := (hsb _))) ?_)
          rintro v3 _ _ _ ⟨rfl, hs2, rfl⟩
          refine ⟨_, _, rfl, fun F1 le1 hz1 => ?_⟩
          replace hs := hs.mono le1
          replace ht := ht.mono le1
          have hf1 : IntsF F1 v3 ((lk s (-1 - ((((-1) - (t.getD k 0)).toNat) : Int)))) := intsH.fz (xs := (lk s (-1 - ((((-1) - (t.getD k 0)).toNat) : Int)))) hz1.fz
          exact ⟨⟨rfl, hf1⟩, rfl⟩
        exact stepsG.nil
      · intro vals F2 le2 hphi
        have e0 : vals 0 = ov := hphi 0 (by decide)
        have e1 : vals 1 = (.agg #[sv] : Value) := hphi 1 (by decide)
        have e2 : vals 2 = tv := hphi 2 (by decide)
        have e3 : vals 3 = (.int .i64 (((k : Nat) : Int)) : Value) := hphi 3 (by decide)
        have e4 : vals 4 = (.pointer (some (elemA tv (k))) : Value) := hphi 4 (by decide)
        have e5 : vals 5 = (.int .i64 (t.getD k 0) : Value) := hphi 5 (by decide)
        have e6 : vals 6 = (.int .i64 ((-1) - (t.getD k 0)) : Value) := hphi 6 (by decide)
        obtain ⟨e7, f7_1ha⟩ := hphi 7 (by decide)
        generalize hu1 : ((vals 7)) = u1 at e0 e1 e2 e3 e4 e5 e6 e7 f7_1ha
        rw [(envs_of_sat (l := [(0, ov), (1, (.agg #[sv] : Value)), (2, tv), (3, (.int .i64 (((k : Nat) : Int)) : Value)), (4, (.pointer (some (elemA tv (k))) : Value)), (5, (.int .i64 (t.getD k 0) : Value)), (6, (.int .i64 ((-1) - (t.getD k 0)) : Value)), (7, u1)]) ⟨e0, e1, e2, e3, e4, e5, e6, hu1, trivial⟩).symm]
        replace hs := hs.mono le2
        replace ht := ht.mono le2
        show XL _ _ _ _ _ _ _ (intsH 2 ov os :: cellsH b1 [sv] 184 :: L)
        refine XL.cons (XOp.appendI [] _ Try.runUnderlying22 Try.typeInfo2 rfl rfl rfl rfl rfl rfl f7_1ha (by (try simp only [List.length_append, List.length_nil, List.length_cons, List.length_singleton, List.length_take, List.length_drop]); omega) ?_)
        intro v4 hs3 hn1 hm1
        refine XL.cons (XOp.assign (v4) rfl ?_)
        refine XL.nil ?_
        refine X.seq ?_
        refine X.region ?_
        refine XL.cons (XOp.move (v4) rfl ?_)
        refine XL.cons (XOp.lenS (v := v4) (n := (os ++ ((lk s (-1 - ((((-1) - (t.getD k 0)).toNat) : Int))))).length) Try.runUnderlying22 rfl (intsH.slv [] rfl) ?_)
        refine XL.cons (XOp.gtr (a := (((os ++ ((lk s (-1 - ((((-1) - (t.getD k 0)).toNat) : Int))))).length : Nat) : Int)) (b := 60) rfl rfl ?_)
        refine XL.nil ?_
        refine X.condD (p := ((((os ++ ((lk s (-1 - ((((-1) - (t.getD k 0)).toNat) : Int))))).length : Nat) : Int) : Int) > 60) rfl (fun h3 => ?_) (fun h3 => ?_)
        · refine X.seq ?_
          refine X.region ?_
          refine XL.cons (XOp.buildSlice (s := 1) [] [.int .i64 (0)] [] Try.runUnderlying22 Try.sizeOf2 Try.zeroValue2 rfl (by decide) rfl CellsAre.nil rfl ?_)
          intro v5 hv2
          refine XL.cons (XOp.assign (v5) rfl ?_)
          refine XL.cons (XOp.assign (.bool (false)) rfl ?_)
          refine XL.nil ?_
          show X _ _ _ _ _ _ (intsH 2 v5 ([] : List Int) :: intsH 2 v4 (os ++ ((lk s (-1 - ((((-1) - (t.getD k 0)).toNat) : Int))))) :: cellsH b1 [sv] 184 :: L)
          refine X.freezeF [] _ _ rfl (fun F3 le3 hz2 => ?_)
          replace hs := hs.mono le3
          replace ht := ht.mono le3
          replace f7_1ha := f7_1ha.mono le3
          have hf2 : IntsF F3 v5 ([]) := intsH.fz (xs := []) hz2.fz
          refine X.ret (blockQ_ret (thenQ_ret (thenQ_ret (blockQ_ret (thenQ_ret (retEnd (L' := L) [v5, .bool (false)] (.tuple #[v5, .bool (false)]) (.tmp rfl (.tmp rfl .nil)) rfl (FLe.trans le2 le3) (FLe.refl _) (Sub.drop (Sub.drop (Sub.refl _))) ?_))))))
          have hz : fillL s t = none := hm.trans (fillGo_long (a := os ++ ((lk s (-1 - ((((-1) - (t.getD k 0)).toNat) : Int))))) (by omega) (by rw [show (-1 - (((-1 - t.getD k 0).toNat : Nat) : Int)) = t.getD k 0 from by omega]) (by omega))
          exact ⟨_, by rw [hz]; rfl, by rw [hz]; exact hf2, rfl⟩
        · refine X.skip ?_
          refine X.region ?_
          refine XL.cons (XOp.move (.int .i64 (((k : Nat) : Int))) rfl ?_)
          refine XL.cons (XOp.addR (a := ((k : Nat) : Int)) (b := 1) (((k + 1 : Nat) : Int)) rfl rfl (by omega) (by omega) ?_)
          refine XL.cons (XOp.assign (.int .i64 (((k + 1 : Nat) : Int))) rfl ?_)
          refine XL.nil ?_
          exact ⟨(k + 1, v4, os ++ ((lk s (-1 - ((((-1) - (t.getD k 0)).toNat) : Int))))), _, FLe.refl _, le2, ⟨rfl, rfl, rfl, rfl, trivial⟩, (Sub.cons (Sub.cons (Sub.refl _))), ⟨rfl, (hs3), (by (try dsimp only) <;> omega), (by dsimp only; exact hm.trans (fillGo_next (by omega) (by rw [show (-1 - (((-1 - t.getD k 0).toNat : Nat) : Int)) = t.getD k 0 from by omega]) (by omega))), (by dsimp only; omega)⟩, (by omega)⟩
    · refine X.region ?_
      refine XL.cons (XOp.move (ov) rfl ?_)
      refine XL.cons (XOp.move (tv) rfl ?_)
      refine XL.cons (XOp.move (.int .i64 (((k : Nat) : Int))) rfl ?_)
      refine XL.cons (XOp.indexS (v := tv) (i := ((k : Nat) : Int)) (n := (t).length) k Try.runUnderlying22 Try.sizeOf2 rfl rfl rfl ht.slv (by omega) (Nat.mul_one _) ?_)
      refine XL.cons (XOp.load1 (v := .int .i64 (t.getD k 0)) Try.isAgg2 rfl (ht.rd (by omega)) ?_)
      refine XL.cons (XOp.buildSlice (s := 1) [.int .i64 (t.getD k 0)] [.int .i64 (0)] [(0, [.int .i64 (t.getD k 0)])] Try.runUnderlying22 Try.sizeOf2 Try.zeroValue2 rfl (by decide) rfl (.cons rfl CellsAre.nil) rfl ?_)
      intro v6 hv3
      refine XL.cons (XOp.append1 (u := t.getD k 0) [_] _ Try.runUnderlying22 Try.typeInfo2 rfl rfl rfl rfl rfl rfl (SlV.own [] rfl) (Rd.sl [] rfl rfl) (by (try simp only [List.length_append, List.length_nil, List.length_cons, List.length_singleton, List.length_take, List.length_drop]); omega) ?_)
      intro v7 hs4 hn2
      refine XL.cons (XOp.assign (v7) rfl ?_)
      refine XL.nil ?_
      refine X.seq ?_
      refine X.region ?_
      refine XL.cons (XOp.move (v7) rfl ?_)
      refine XL.cons (XOp.lenS (v := v7) (n := (os ++ [t.getD k 0]).length) Try.runUnderlying22 rfl (intsH.slv [_] rfl) ?_)
      refine XL.cons (XOp.gtr (a := (((os ++ [t.getD k 0]).length : Nat) : Int)) (b := 60) rfl rfl ?_)
      refine XL.nil ?_
      refine X.condD (p := ((((os ++ [t.getD k 0]).length : Nat) : Int) : Int) > 60) rfl (fun h4 => ?_) (fun h4 => ?_)
      · refine X.seq ?_
        refine X.region ?_
        refine XL.cons (XOp.buildSlice (s := 1) [] [.int .i64 (0)] [] Try.runUnderlying22 Try.sizeOf2 Try.zeroValue2 rfl (by decide) rfl CellsAre.nil rfl ?_)
        intro v8 hv4
        refine XL.cons (XOp.assign (v8) rfl ?_)
        refine XL.cons (XOp.assign (.bool (false)) rfl ?_)
        refine XL.nil ?_
        show X _ _ _ _ _ _ (intsH 2 v8 ([] : List Int) :: slH 2 1 v6 1 [.int .i64 (t.getD k 0)] :: intsH 2 v7 (os ++ [t.getD k 0]) :: cellsH b1 [sv] 184 :: L)
        refine X.freezeF [] _ _ rfl (fun F4 le4 hz3 => ?_)
        replace hs := hs.mono le4
        replace ht := ht.mono le4
        have hf3 : IntsF F4 v8 ([]) := intsH.fz (xs := []) hz3.fz
        refine X.ret (blockQ_ret (thenQ_ret (thenQ_ret (blockQ_ret (thenQ_ret (retEnd (L' := L) [v8, .bool (false)] (.tuple #[v8, .bool (false)]) (.tmp rfl (.tmp rfl .nil)) rfl le4 (FLe.refl _) (Sub.drop (Sub.drop (Sub.drop (Sub.refl _)))) ?_))))))
        have hz : fillL s t = none := hm.trans (fillGo_long (a := os ++ [t.getD k 0]) (by omega) (by rw [lk_sym (by omega)]) (by omega))
        exact ⟨_, by rw [hz]; rfl, by rw [hz]; exact hf3, rfl⟩
      · refine X.skip ?_
        refine X.region ?_
        refine XL.cons (XOp.move (.int .i64 (((k : Nat) : Int))) rfl ?_)
        refine XL.cons (XOp.addR (a := ((k : Nat) : Int)) (b := 1) (((k + 1 : Nat) : Int)) rfl rfl (by omega) (by omega) ?_)
        refine XL.cons (XOp.assign (.int .i64 (((k + 1 : Nat) : Int))) rfl ?_)
        refine XL.nil ?_
        exact ⟨(k + 1, v7, os ++ [t.getD k 0]), _, FLe.refl _, (FLe.refl _), ⟨rfl, rfl, rfl, rfl, trivial⟩, (Sub.drop (Sub.cons (Sub.cons (Sub.refl _)))), ⟨rfl, (hs4), (by (try dsimp only) <;> omega), (by dsimp only; exact hm.trans (fillGo_next (by omega) (by rw [lk_sym (by omega)]) (by omega))), (by dsimp only; omega)⟩, (by omega)⟩
  · refine X.exit (thenQ_exit (thenQ_exit (blockQ_exit ?_)))
    refine X.seq ?_
    refine X.region ?_
    refine XL.cons (XOp.move (ov) rfl ?_)
    refine XL.cons (XOp.assign (ov) rfl ?_)
    refine XL.cons (XOp.assign (.bool (true)) rfl ?_)
    refine XL.nil ?_
    refine X.freezeF [] _ _ rfl (fun F5 le5 hz4 => ?_)
    replace hs := hs.mono le5
    replace ht := ht.mono le5
    have hf4 : IntsF F5 ov os := intsH.fz (xs := os) hz4.fz
    refine X.ret (retEnd (L' := L) [ov, .bool (true)] (.tuple #[ov, .bool (true)]) (.tmp rfl (.tmp rfl .nil)) rfl le5 (FLe.refl _) (Sub.drop (Sub.refl _)) ?_)
    have hz : fillL s t = some os := hm.trans (fillGo_done (by omega))
    exact ⟨_, by rw [hz]; rfl, by rw [hz]; exact hf4, rfl⟩

/- spec.l3Put -/
theorem l3Put_spec {F : FH} {L : List HP} {arv : Value} {ar : List Int} (har : IntsF F arv ar) {tv : Value} {t : List Int} (ht : IntsF F tv t) {p : Nat} {uv : Value} {u : List Int} (hu : IntsF F uv u) (ho : termOk ar t = true) (hp : p < t.length) (hul : u.length ≤ 4000000) :
    Does Try.prog 151 [.agg #[arv], tv, .int .i64 (((p : Nat) : Int)), uv] F (L) (fun v F' L' => ∃ (a : Value), (.tuple #[a, .bool ((putL ar t p u).isSome)] : Value) = v ∧ (IntsF F' a ((putL ar t p u).getD [])) ∧ L = L') := by
  refine Does.of_X Try.func151 rfl rfl rfl ?_
  have hsig := termOk_sig ho
  have hsl := sigOk_spec hsig
  have htl := termOk_len ho
  have hee := endN_spec ho hp
  refine X.seq ?_
  refine X.region ?_
  refine XL.cons (XOp.box [arv] rfl rfl ?_)
  intro b1
  refine XL.cons (XOp.assign ((.slice none 0 0)) rfl ?_)
  refine XL.cons (XOp.assign (.bool (false)) rfl ?_)
  refine XL.nil ?_
  refine X.seq ?_
  refine X.region ?_
  refine XL.cons (XOp.move (tv) rfl ?_)
  refine XL.cons (XOp.move (.int .i64 (((p : Nat) : Int))) rfl ?_)
  refine XL.cons (XOp.sliceI 0 p Try.runUnderlying22 Try.sizeOf2 rfl ht rfl ⟨_, rfl⟩ (by omega) (by omega) ?_)
  intro v1 hv1 hn1
  refine XL.cons (XOp.call (args := [v1]) Try.call88 rfl (l1Copy_spec hv1 (hlt := (by simp; omega))) ?_)
  rintro v2 _ _ _ ⟨rfl, hs1, rfl⟩
  refine XL.cons (XOp.move (uv) rfl ?_)
  refine XL.cons (XOp.appendI [] _ Try.runUnderlying22 Try.typeInfo2 rfl rfl rfl rfl rfl rfl hu (by (try simp only [List.length_append, List.length_nil, List.length_cons, List.length_singleton, List.length_take, List.length_drop]); omega) ?_)
  intro v3 hs2 hn2 hm1
  refine XL.cons (XOp.assign (v3) rfl ?_)
  refine XL.nil ?_
  refine X.seq ?_
  refine X.region ?_
  refine XL.cons (XOp.move (v3) rfl ?_)
  refine XL.cons (XOp.move (tv) rfl ?_)
  refine XL.cons (XOp.loadN [arv] Try.isAgg33 Try.sizeOf33 rfl rfl (Rd.ownN [_] rfl rfl) ?_)
  refine XL.cons (XOp.move (tv) rfl ?_)
  refine XL.cons (XOp.move (.int .i64 (((p : Nat) : Int))) rfl ?_)
  refine XL.cons (XOp.call (args := [.agg #[arv], tv, .int .i64 ((p : Nat) : Int)]) Try.call136 rfl (l1End_ok (p := p) har ht (ho := (by first | assumption | rfl | omega | (left; simp; done) | (right; simp; done))) (hp := (by first | assumption | rfl | omega | (left; simp; done) | (right; simp; done)))) ?_)
  rintro _ _ _ _ ⟨rfl, rfl, rfl⟩
  refine XL.cons (XOp.sliceI (endN ar t p) ((t).length) Try.runUnderlying22 Try.sizeOf2 rfl ht ⟨_, rfl⟩ rfl (by omega) (by omega) ?_)
  intro v4 hv2 hn3
  refine XL.cons (XOp.appendI [] _ Try.runUnderlying22 Try.typeInfo2 rfl rfl rfl rfl rfl rfl hv2 (by (try simp only [List.length_append, List.length_nil, List.length_cons, List.length_singleton, List.length_take, List.length_drop]); omega) ?_)
  intro v5 hs3 hn4 hm2
  refine XL.cons (XOp.assign (v5) rfl ?_)
  refine XL.nil ?_
  refine X.seq ?_
  refine X.seq ?_
  refine X.region ?_
  refine XL.cons (XOp.move (v5) rfl ?_)
  refine XL.cons (XOp.lenS (v := v5) (n := (((((((t.drop 0).take (p - 0))))) ++ u) ++ (((t.drop (endN ar t p)).take (((t).length) - (endN ar t p))))).length) Try.runUnderlying22 rfl (intsH.slv [] rfl) ?_)
  refine XL.cons (XOp.gtr (a := (((((((((t.drop 0).take (p - 0))))) ++ u) ++ (((t.drop (endN ar t p)).take (((t).length) - (endN ar t p))))).length : Nat) : Int)) (b := 60) rfl rfl ?_)
  refine XL.nil ?_
  refine X.condD (p := ((((((((((t.drop 0).take (p - 0))))) ++ u) ++ (((t.drop (endN ar t p)).take (((t).length) - (endN ar t p))))).length : Nat) : Int) : Int) > 60) rfl (fun h1 => ?_) (fun h1 => ?_)
  · refine X.seq ?_
    refine X.region ?_
    refine XL.cons (XOp.buildSlice (s := 1) [] [.int .i64 (0)] [] Try.runUnderlying22 Try.sizeOf2 Try.zeroValue2 rfl (by decide) rfl CellsAre.nil rfl ?_)
    intro v6 hv3
    refine XL.cons (XOp.assign (v6) rfl ?_)
    refine XL.cons (XOp.assign (.bool (false)) rfl ?_)
    refine XL.nil ?_
    show X _ _ _ _ _ _ (intsH 2 v6 ([] : List Int) :: intsH 2 v5 (((((((t.drop 0).take (p - 0))))) ++ u) ++ (((t.drop (endN ar t p)).take (((t).length) - (endN ar t p))))) :: cellsH b1 [arv] 33 :: L)
    refine X.freezeF [] _ _ rfl (fun F1 le1 hz1 => ?_)
    replace har := har.mono le1
    replace ht := ht.mono le1
    replace hu := hu.mono le1
    replace hv1 := hv1.mono le1
    replace hv2 := hv2.mono le1
    have hf1 : IntsF F1 v6 ([]) := intsH.fz (xs := []) hz1.fz
    refine X.ret (thenQ_ret (retEnd (L' := L) [v6, .bool (false)] (.tuple #[v6, .bool (false)]) (.tmp rfl (.tmp rfl .nil)) rfl le1 (FLe.refl _) (Sub.drop (Sub.drop (Sub.refl _))) ?_))
    have hz : putL ar t p u = none := putL_none put_three (by omega)
    exact ⟨_, by rw [hz]; rfl, by rw [hz]; exact hf1, rfl⟩
  · refine X.skip ?_
    refine X.seq ?_
    refine X.region ?_
    refine XL.cons (XOp.move (v5) rfl ?_)
    refine XL.cons (XOp.assign (v5) rfl ?_)
    refine XL.cons (XOp.assign (.bool (true)) rfl ?_)
    refine XL.nil ?_
    refine X.freezeF [] _ _ rfl (fun F2 le2 hz2 => ?_)
    replace har := har.mono le2
    replace ht := ht.mono le2
    replace hu := hu.mono le2
    replace hv1 := hv1.mono le2
    replace hv2 := hv2.mono le2
    have hf2 : IntsF F2 v5 (((((((t.drop 0).take (p - 0))))) ++ u) ++ (((t.drop (endN ar t p)).take (((t).length) - (endN ar t p))))) := intsH.fz (xs := ((((((t.drop 0).take (p - 0))))) ++ u) ++ (((t.drop (endN ar t p)).take (((t).length) - (endN ar t p))))) hz2.fz
    refine X.ret (retEnd (L' := L) [v5, .bool (true)] (.tuple #[v5, .bool (true)]) (.tmp rfl (.tmp rfl .nil)) rfl le2 (FLe.refl _) (Sub.drop (Sub.refl _)) ?_)
    have hz := putL_some (ar := ar) (t := t) (p := p) (u := u) put_three (by omega)
    exact ⟨_, by rw [hz]; rfl, by rw [hz]; exact hf2, rfl⟩

/- spec.l7Step -/
theorem l7Step_spec {F : FH} {L : List HP} {arv : Value} {ar : List Int} (har : IntsF F arv ar) {rsv : Value} {rs : List (List Int × List Int)} (hrs : PairsF F rsv rs) {tv : Value} {t : List Int} (ht : IntsF F tv t) {p : Nat} {r : Nat} (hsys : sysOk ar rs = true) (ho : termOk ar t = true) (hp : p < t.length) (hr : r < rs.length) :
    Does Try.prog 112 [.agg #[arv, rsv], tv, .int .i64 (((p : Nat) : Int)), .int .i64 (((r : Nat) : Int))] F (L) (fun v F' L' => ∃ (a : Value), (.tuple #[a, .bool ((stepL ar rs t p r).isSome)] : Value) = v ∧ (IntsF F' a ((stepL ar rs t p r).getD [])) ∧ L = L') := by
  refine Does.of_X Try.func112 rfl rfl rfl ?_
  have hnn := notNil_of_pos ht (by have := termOk_len ho; omega)
  have htl := termOk_len ho
  have hrl := (sysOk_iff.1 hsys).2.1
  have hsig := (sysOk_iff.1 hsys).1
  have hsl := sigOk_spec hsig
  have hR := ruleOk_iff.1 ((sysOk_iff.1 hsys).2.2 r hr)
  have hRl := hR.left
  have hRr := hR.right
  have hso := sub_ok ho hp
  have hsb := sub_length ho hp
  have hee := endN_spec ho hp
  have hRrl := termOk_len hRr
  have hRg := fun k (hk : k < (rs.getD r ([], [])).2.length) => termOk_ge hRr hk
  have hmp := matchP_len (ar := ar) (p := (rs.getD r ([], [])).1) (t := sub ar t p)
  have hmp2 := hmp.2
  have hmp3 := hmp.1
  refine X.seq ?_
  refine X.region ?_
  refine XL.cons (XOp.box [arv, rsv] rfl rfl ?_)
  intro b1
  refine XL.cons (XOp.assign ((.slice none 0 0)) rfl ?_)
  refine XL.cons (XOp.assign (.bool (false)) rfl ?_)
  refine XL.nil ?_
  refine X.seq ?_
  refine X.region ?_
  refine XL.cons (XOp.fieldP (b := b1) (1) Try.runUnderlying36 rfl Try.sizeOf34 (by decide) rfl rfl ?_)
  refine XL.cons (XOp.load1 (v := rsv) Try.isAgg34 rfl (Rd.own [] rfl rfl) ?_)
  refine XL.cons (XOp.move (.int .i64 (((r : Nat) : Int))) rfl ?_)
  refine XL.cons (XOp.indexS (v := rsv) (i := ((r : Nat) : Int)) (n := (rs).length) r Try.runUnderlying34 Try.sizeOf98 rfl rfl rfl hrs.slv (by omega) rfl ?_)
  obtain ⟨a1, a2, ha1, ha2, hr1, hr2⟩ := hrs.rd (i := r) (by omega)
  refine XL.cons (XOp.loadN [a1, a2] Try.isAgg98 Try.sizeOf98 rfl rfl (Rd.two (hr1 _) (hr2 _)) ?_)
  refine XL.cons (XOp.alloc [(.slice none 0 0), (.slice none 0 0)] Try.zeroValue98 rfl ?_)
  intro b2
  refine XL.cons (XOp.storeN (vs := [a1, a2]) [] _ [a1, a2] Try.sizeOf98 rfl rfl rfl (ones_cons (one_sl (IntsF.isSl ha1)) (ones_cons (one_sl (IntsF.isSl ha2)) ones_nil)) rfl rfl rfl ?_)
  refine XL.nil ?_
  refine X.seq ?_
  refine X.drawG [cellsH b2 [a1, a2] 98, cellsH b1 [arv, rsv] 36] L 15 [[], [], [], [], [], [], [], [], [], [], [9], [9], [], [], [9, 13]] [[], [0], [], [2], [], [4], [], [], [5, 6, 7], [1, 3, 8], [9], [9, 10], [9, 10], [], [9, 11, 13]] [[], [], [], [], [], [], [], [], [], [], [], [], [], [], [13]] (phiG [fun FF us v => v = ptr b1 0, fun FF us v => v = (.agg #[arv] : Value), fun FF us v => v = ptr b2 0, fun FF us v => v = a1, fun FF us v => v = ptr b1 0, fun FF us v => v = (.agg #[arv] : Value), fun FF us v => v = tv, fun FF us v => v = (.int .i64 (((p : Nat) : Int)) : Value), fun FF us v => ((v) : Value) = v ∧ (IntsF FF (v) (sub ar t p)), fun FF us v => (.tuple #[.agg #[((aggAt (tupAt v 0) 0))], .bool ((matchB ar ((rs.getD r ([], [])).1) ((sub ar t p))).isSome)] : Value) = v ∧ (RowsF FF ((aggAt (tupAt v 0) 0)) (matchP ar ((rs.getD r ([], [])).1) ((sub ar t p)))), fun FF us v => v = (.tuple #[.agg #[((aggAt (tupAt (us.getD 0 undef) 0) 0))], .bool ((matchB ar ((rs.getD r ([], [])).1) ((sub ar t p))).isSome)] : Value), fun FF us v => v = (.agg #[((aggAt (tupAt (us.getD 0 undef) 0) 0))] : Value), fun FF us v => v = (.bool ((matchB ar ((rs.getD r ([], [])).1) ((sub ar t p))).isSome) : Value), fun FF us v => v = ptr (blk v) 0, fun FF us v => True]) (ownL [fun us v => [], fun us v => [], fun us v => [], fun us v => [], fun us v => [], fun us v => [], fun us v => [], fun us v => [], fun us v => [], fun us v => [], fun us v => [], fun us v => [], fun us v => [], fun us v => [cellsH (blk v) [(.slice none 0 0)] 184], fun us v => [cellsH (blk (us.getD 1 undef)) [((aggAt (tupAt (us.getD 0 undef) 0) 0))] 184]]) mixed rfl rfl (by kernel_rfl) (by kernel_rfl) (MonoG.get (MonoG.cons (fun le h => h) (MonoG.cons (fun le h => h) (MonoG.cons (fun le h => h) (MonoG.cons (fun le h => h) (MonoG.cons (fun le h => h) (MonoG.cons (fun le h => h) (MonoG.cons (fun le h => h) (MonoG.cons (fun le h => h) (MonoG.cons (fun le h => ⟨h.1, h.2.mono le⟩) (MonoG.cons (fun le h => ⟨h.1, h.2.mono le⟩) (MonoG.cons (fun le h => h) (MonoG.cons (fun le h => h) (MonoG.cons (fun le h => h) (MonoG.cons (fun le h => h) (MonoG.cons (fun le h => h) MonoG.nil)))))))))))))))) ?_ ?_
  · refine stepsG.cons (fun vals Fs R leFs hpZ => ?_) ?_
    · refine XG.op (XOp.fieldP (b := b1) (0) Try.runUnderlying36 rfl Try.sizeOf33 (by decide) rfl rfl ?_)
      exact ⟨rfl, rfl⟩
    refine stepsG.cons (fun vals Fs R leFs hpZ => ?_) ?_
    · have e0 : vals 0 = ptr b1 0 := hpZ 0 (by decide)
      replace har := har.mono leFs
      replace hrs := hrs.mono leFs
      replace ht := ht.mono leFs
      replace ha1 := ha1.mono leFs
      replace ha2 := ha2.mono leFs
      replace hr1 := Rd.monoA hr1 leFs
      replace hr2 := Rd.monoA hr2 leFs
      rw [(envs_of_sat (l := [(0, ptr b1 0)]) ⟨e0, trivial⟩).symm]
      refine XG.op (XOp.loadN [arv] Try.isAgg33 Try.sizeOf33 rfl rfl (Rd.ownN [_] rfl rfl) ?_)
      exact ⟨rfl, rfl⟩
    refine stepsG.cons (fun vals Fs R leFs hpZ => ?_) ?_
    · refine XG.op (XOp.fieldP (b := b2) (0) Try.runUnderlying98 rfl Try.sizeOf22 (by decide) rfl rfl ?_)
      exact ⟨rfl, rfl⟩
    refine stepsG.cons (fun vals Fs R leFs hpZ => ?_) ?_
    · have e2 : vals 2 = ptr b2 0 := hpZ 2 (by decide)
      replace har := har.mono leFs
      replace hrs := hrs.mono leFs
      replace ht := ht.mono leFs
      replace ha1 := ha1.mono leFs
      replace ha2 := ha2.mono leFs
      replace hr1 := Rd.monoA hr1 leFs
      replace hr2 := Rd.monoA hr2 leFs
      rw [(envs_of_sat (l := [(2, ptr b2 0)]) ⟨e2, trivial⟩).symm]
      refine XG.op (XOp.load1 (v := a1) Try.isAgg22 rfl (Rd.own [] rfl rfl) ?_)
      exact ⟨rfl, rfl⟩
    refine stepsG.cons (fun vals Fs R leFs hpZ => ?_) ?_
    · refine XG.op (XOp.fieldP (b := b1) (0) Try.runUnderlying36 rfl Try.sizeOf33 (by decide) rfl rfl ?_)
      exact ⟨rfl, rfl⟩
    refine stepsG.cons (fun vals Fs R leFs hpZ => ?_) ?_
    · have e4 : vals 4 = ptr b1 0 := hpZ 4 (by decide)
      replace har := har.mono leFs
      replace hrs := hrs.mono leFs
      replace ht := ht.mono leFs
      replace ha1 := ha1.mono leFs
      replace ha2 := ha2.mono leFs
      replace hr1 := Rd.monoA hr1 leFs
      replace hr2 := Rd.monoA hr2 leFs
      rw [(envs_of_sat (l := [(4, ptr b1 0)]) ⟨e4, trivial⟩).symm]
      refine XG.op (XOp.loadN [arv] Try.isAgg33 Try.sizeOf33 rfl rfl (Rd.ownN [_] rfl rfl) ?_)
      exact ⟨rfl, rfl⟩
    refine stepsG.cons (fun vals Fs R leFs hpZ => ?_) ?_
    · refine XG.op (XOp.move (tv) rfl ?_)
      exact ⟨rfl, rfl⟩
    refine stepsG.cons (fun vals Fs R leFs hpZ => ?_) ?_
    · refine XG.op (XOp.move (.int .i64 (((p : Nat) : Int))) rfl ?_)
      exact ⟨rfl, rfl⟩
    refine stepsG.cons (fun vals Fs R leFs hpZ => ?_) ?_
    · have e5 : vals 5 = (.agg #[arv] : Value) := hpZ 5 (by decide)
      have e6 : vals 6 = tv := hpZ 6 (by decide)
      have e7 : vals 7 = (.int .i64 (((p : Nat) : Int)) : Value) := hpZ 7 (by decide)
      replace har := har.mono leFs
      replace hrs := hrs.mono leFs
      replace ht := ht.mono leFs
      replace ha1 := ha1.mono leFs
      replace ha2 := ha2.mono leFs
      replace hr1 := Rd.monoA hr1 leFs
      replace hr2 := Rd.monoA hr2 leFs
      rw [(envs_of_sat (l := [(5, (.agg #[arv] : Value)), (6, tv), (7, (.int .i64 (((p : Nat) : Int)) : Value))]) ⟨e5, e6, e7, trivial⟩).symm]
      refine XG.op (XOp.frzF <| XOp.call (args := [.agg #[arv], tv, .int .i64 ((p : Nat) : Int)]) Try.call149 rfl (l1Sub_spec (p := p) har ht (ho := (by first | assumption | rfl | omega | (left; simp; done) | (right; simp; done))) (hp := (by first | assumption | rfl | omega | (left; simp; done) | (right; simp; done)))) ?_)
      rintro v2 _ _ _ ⟨rfl, hs2, rfl⟩
      refine ⟨_, _, rfl, fun F2 le2 hz1 => ?_⟩
      replace har := har.mono le2
      replace hrs := hrs.mono le2
      replace ht := ht.mono le2
      replace ha1 := ha1.mono le2
      replace ha2 := ha2.mono le2
      replace hr1 := Rd.monoA hr1 le2
      replace hr2 := Rd.monoA hr2 le2
      have hf1 : IntsF F2 v2 ((sub ar t p)) := intsH.fz (xs := (sub ar t p)) hz1.fz
      exact ⟨⟨rfl, hf1⟩, rfl⟩
    refine stepsG.cons (fun vals Fs R leFs hpZ => ?_) ?_
    · have e1 : vals 1 = (.agg #[arv] : Value) := hpZ 1 (by decide)
      have e3 : vals 3 = a1 := hpZ 3 (by decide)
      obtain ⟨e8, f8_1ha⟩ := hpZ 8 (by decide)
      replace har := har.mono leFs
      replace hrs := hrs.mono leFs
      replace ht := ht.mono leFs
      replace ha1 := ha1.mono leFs
      replace ha2 := ha2.mono leFs
      replace hr1 := Rd.monoA hr1 leFs
      replace hr2 := Rd.monoA hr2 leFs
      rw [(envs_of_sat (l := [(1, (.agg #[arv] : Value)), (3, a1), (8, ((vals 8)))]) ⟨e1, e3, (e8).symm, trivial⟩).symm]
      refine XG.op (XOp.call (args := [.agg #[arv], a1, ((vals 8))]) Try.call162 rfl (l4Match_spec har ha1 f8_1ha (ho := (by first | assumption | rfl | omega | (left; simp; done) | (right; simp; done))) (hpo := (by first | assumption | rfl | omega | (left; simp; done) | (right; simp; done)))) ?_)
      rintro _ F3 _ le3 ⟨x2, rfl, hr4, rfl⟩
      replace har := har.mono le3
      replace hrs := hrs.mono le3
      replace ht := ht.mono le3
      replace ha1 := ha1.mono le3
      replace ha2 := ha2.mono le3
      replace f8_1ha := f8_1ha.mono le3
      replace hr1 := Rd.monoA hr1 le3
      replace hr2 := Rd.monoA hr2 le3
      exact ⟨⟨rfl, hr4⟩, rfl⟩
    refine stepsG.cons (fun vals Fs R leFs hpZ => ?_) ?_
    · obtain ⟨e9, f9_1hr⟩ := hpZ 9 (by decide)
      rw [(envs_of_sat (l := [(9, (.tuple #[.agg #[((aggAt (tupAt (vals 9) 0) 0))], .bool ((matchB ar ((rs.getD r ([], [])).1) ((sub ar t p))).isSome)] : Value))]) ⟨(e9).symm, trivial⟩).symm]
      refine XG.op (XOp.move (.tuple #[.agg #[((aggAt (tupAt (vals 9) 0) 0))], .bool ((matchB ar ((rs.getD r ([], [])).1) ((sub ar t p))).isSome)]) rfl ?_)
      exact ⟨rfl, rfl⟩
    refine stepsG.cons (fun vals Fs R leFs hpZ => ?_) ?_
    · obtain ⟨e9, f9_1hr⟩ := hpZ 9 (by decide)
      have e10 : vals 10 = (.tuple #[.agg #[((aggAt (tupAt (vals 9) 0) 0))], .bool ((matchB ar ((rs.getD r ([], [])).1) ((sub ar t p))).isSome)] : Value) := hpZ 10 (by decide)
      rw [(envs_of_sat (l := [(9, (.tuple #[.agg #[((aggAt (tupAt (vals 9) 0) 0))], .bool ((matchB ar ((rs.getD r ([], [])).1) ((sub ar t p))).isSome)] : Value)), (10, (.tuple #[.agg #[((aggAt (tupAt (vals 9) 0) 0))], .bool ((matchB ar ((rs.getD r ([], [])).1) ((sub ar t p))).isSome)] : Value))]) ⟨(e9).symm, e10, trivial⟩).symm]
      refine XG.op (XOp.extract (.agg #[((aggAt (tupAt (vals 9) 0) 0))]) rfl rfl ?_)
      exact ⟨rfl, rfl⟩
    refine stepsG.cons (fun vals Fs R leFs hpZ => ?_) ?_
    · obtain ⟨e9, f9_1hr⟩ := hpZ 9 (by decide)
      have e10 : vals 10 = (.tuple #[.agg #[((aggAt (tupAt (vals 9) 0) 0))], .bool ((matchB ar ((rs.getD r ([], [])).1) ((sub ar t p))).isSome)] : Value) := hpZ 10 (by decide)
      rw [(envs_of_sat (l := [(9, (.tuple #[.agg #[((aggAt (tupAt (vals 9) 0) 0))], .bool ((matchB ar ((rs.getD r ([], [])).1) ((sub ar t p))).isSome)] : Value)), (10, (.tuple #[.agg #[((aggAt (tupAt (vals 9) 0) 0))], .bool ((matchB ar ((rs.getD r ([], [])).1) ((sub ar t p))).isSome)] : Value))]) ⟨(e9).symm, e10, trivial⟩).symm]
      refine XG.op (XOp.extract (.bool ((matchB ar ((rs.getD r ([], [])).1) ((sub ar t p))).isSome)) rfl rfl ?_)
      exact ⟨rfl, rfl⟩
    refine stepsG.cons (fun vals Fs R leFs hpZ => ?_) ?_
    · replace har := har.mono leFs
      replace hrs := hrs.mono leFs
      replace ht := ht.mono leFs
      replace ha1 := ha1.mono leFs
      replace ha2 := ha2.mono leFs
      replace hr1 := Rd.monoA hr1 leFs
      replace hr2 := Rd.monoA hr2 leFs
      refine XG.op (XOp.alloc [(.slice none 0 0)] Try.zeroValue184 rfl ?_)
      intro b4
      exact ⟨rfl, rfl⟩
    refine stepsG.cons (fun vals Fs R leFs hpZ => ?_) ?_
    · obtain ⟨e9, f9_1hr⟩ := hpZ 9 (by decide)
      have e11 : vals 11 = (.agg #[((aggAt (tupAt (vals 9) 0) 0))] : Value) := hpZ 11 (by decide)
      have e13 : vals 13 = ptr (blk (vals 13)) 0 := hpZ 13 (by decide)
      replace har := har.mono leFs
      replace hrs := hrs.mono leFs
      replace ht := ht.mono leFs
      replace ha1 := ha1.mono leFs
      replace ha2 := ha2.mono leFs
      replace hr1 := Rd.monoA hr1 leFs
      replace hr2 := Rd.monoA hr2 leFs
      rw [(envs_of_sat (l := [(9, (.tuple #[.agg #[((aggAt (tupAt (vals 9) 0) 0))], .bool ((matchB ar ((rs.getD r ([], [])).1) ((sub ar t p))).isSome)] : Value)), (11, (.agg #[((aggAt (tupAt (vals 9) 0) 0))] : Value)), (13, ptr (blk (vals 13)) 0)]) ⟨(e9).symm, e11, e13, trivial⟩).symm]
      show XG _ _ _ _ _ (cellsH (blk (vals 13)) [(.slice none 0 0)] 184 :: ([cellsH b2 [a1, a2] 98, cellsH b1 [arv, rsv] 36] ++ R)) _
      refine XG.op (XOp.storeN (vs := [((aggAt (tupAt (vals 9) 0) 0))]) [] _ [((aggAt (tupAt (vals 9) 0) 0))] Try.sizeOf184 rfl rfl rfl (ones_cons (one_sl (RowsF.isSl f9_1hr)) ones_nil) rfl rfl rfl ?_)
      exact ⟨trivial, rfl⟩
    exact stepsG.nil
  · intro vals F4 le4 hphi
    have e0 : vals 0 = ptr b1 0 := hphi 0 (by decide)
    have e1 : vals 1 = (.agg #[arv] : Value) := hphi 1 (by decide)
    have e2 : vals 2 = ptr b2 0 := hphi 2 (by decide)
    have e3 : vals 3 = a1 := hphi 3 (by decide)
    have e4 : vals 4 = ptr b1 0 := hphi 4 (by decide)
    have e5 : vals 5 = (.agg #[arv] : Value) := hphi 5 (by decide)
    have e6 : vals 6 = tv := hphi 6 (by decide)
    have e7 : vals 7 = (.int .i64 (((p : Nat) : Int)) : Value) := hphi 7 (by decide)
    obtain ⟨e8, f8_1ha⟩ := hphi 8 (by decide)
    obtain ⟨e9, f9_1hr⟩ := hphi 9 (by decide)
    have e10 : vals 10 = (.tuple #[.agg #[((aggAt (tupAt (vals 9) 0) 0))], .bool ((matchB ar ((rs.getD r ([], [])).1) ((sub ar t p))).isSome)] : Value) := hphi 10 (by decide)
    have e11 : vals 11 = (.agg #[((aggAt (tupAt (vals 9) 0) 0))] : Value) := hphi 11 (by decide)
    have e12 : vals 12 = (.bool ((matchB ar ((rs.getD r ([], [])).1) ((sub ar t p))).isSome) : Value) := hphi 12 (by decide)
    have e13 : vals 13 = ptr (blk (vals 13)) 0 := hphi 13 (by decide)
    generalize hu1 : ((vals 8)) = u1 at e0 e1 e2 e3 e4 e5 e6 e7 e8 f8_1ha e9 f9_1hr e10 e11 e12 e13
    generalize hu2 : ((aggAt (tupAt (vals 9) 0) 0)) = u2 at e0 e1 e2 e3 e4 e5 e6 e7 e8 f8_1ha e9 f9_1hr e10 e11 e12 e13
    generalize hu3 : blk (vals 13) = b5 at e0 e1 e2 e3 e4 e5 e6 e7 e8 f8_1ha e9 f9_1hr e10 e11 e12 e13
    rw [(envs_of_sat (l := [(0, ptr b1 0), (1, (.agg #[arv] : Value)), (2, ptr b2 0), (3, a1), (4, ptr b1 0), (5, (.agg #[arv] : Value)), (6, tv), (7, (.int .i64 (((p : Nat) : Int)) : Value)), (8, u1), (9, (.tuple #[.agg #[u2], .bool ((matchB ar ((rs.getD r ([], [])).1) ((sub ar t p))).isSome)] : Value)), (10, (.tuple #[.agg #[u2], .bool ((matchB ar ((rs.getD r ([], [])).1) ((sub ar t p))).isSome)] : Value)), (11, (.agg #[u2] : Value)), (12, (.bool ((matchB ar ((rs.getD r ([], [])).1) ((sub ar t p))).isSome) : Value)), (13, ptr b5 0)]) ⟨e0, e1, e2, e3, e4, e5, e6, e7, hu1, (e9).symm, e10, e11, e12, e13, trivial⟩).symm]
    replace har := har.mono le4
    replace hrs := hrs.mono le4
    replace ht := ht.mono le4
    replace ha1 := ha1.mono le4
    replace ha2 := ha2.mono le4
    replace hr1 := Rd.monoA hr1 le4
    replace hr2 := Rd.monoA hr2 le4
    show XL _ _ _ _ _ _ _ (cellsH b5 [u2] 184 :: cellsH b2 [a1, a2] 98 :: cellsH b1 [arv, rsv] 36 :: L)
    refine XL.cons (XOp.assign (.bool ((matchB ar ((rs.getD r ([], [])).1) ((sub ar t p))).isSome)) rfl ?_)
    refine XL.nil ?_
    refine X.seq ?_
    refine X.seq ?_
    refine X.region ?_
    refine XL.cons (XOp.move (.bool ((matchB ar ((rs.getD r ([], [])).1) ((sub ar t p))).isSome)) rfl ?_)
    refine XL.cons (XOp.notB (b := (matchB ar ((rs.getD r ([], [])).1) ((sub ar t p))).isSome) rfl ?_)
    refine XL.nil ?_
    refine X.cond (t := !((matchB ar ((rs.getD r ([], [])).1) ((sub ar t p))).isSome)) rfl (fun h1 => ?_) (fun h1 => ?_)
    · have hms : (matchB ar (rs.getD r ([], [])).1 (sub ar t p)).isSome = false := by simpa using h1
      refine X.seq ?_
      refine X.region ?_
      refine XL.cons (XOp.buildSlice (s := 1) [] [.int .i64 (0)] [] Try.runUnderlying22 Try.sizeOf2 Try.zeroValue2 rfl (by decide) rfl CellsAre.nil rfl ?_)
      intro v3 hv1
      refine XL.cons (XOp.assign (v3) rfl ?_)
      refine XL.cons (XOp.assign (.bool (false)) rfl ?_)
      refine XL.nil ?_
      show X _ _ _ _ _ _ (intsH 2 v3 ([] : List Int) :: cellsH b5 [u2] 184 :: cellsH b2 [a1, a2] 98 :: cellsH b1 [arv, rsv] 36 :: L)
      refine X.freezeF [] _ _ rfl (fun F5 le5 hz2 => ?_)
      replace har := har.mono le5
      replace hrs := hrs.mono le5
      replace ht := ht.mono le5
      replace ha1 := ha1.mono le5
      replace ha2 := ha2.mono le5
      replace f8_1ha := f8_1ha.mono le5
      replace f9_1hr := f9_1hr.mono le5
      replace hr1 := Rd.monoA hr1 le5
      replace hr2 := Rd.monoA hr2 le5
      have hf2 : IntsF F5 v3 ([]) := intsH.fz (xs := []) hz2.fz
      refine X.ret (thenQ_ret (retEnd (L' := L) [v3, .bool (false)] (.tuple #[v3, .bool (false)]) (.tmp rfl (.tmp rfl .nil)) rfl (FLe.trans le4 le5) (FLe.refl _) (Sub.drop (Sub.drop (Sub.drop (Sub.refl _)))) ?_))
      have hz := stepL_nomatch hms
      exact ⟨_, by rw [hz]; rfl, by rw [hz]; exact hf2, rfl⟩
    · have hms : (matchB ar (rs.getD r ([], [])).1 (sub ar t p)).isSome = true := by simpa using h1
      refine X.skip ?_
      refine X.seq ?_
      refine X.region ?_
      refine XL.cons (XOp.loadN [u2] Try.isAgg184 Try.sizeOf184 rfl rfl (Rd.ownN [] rfl rfl) ?_)
      refine XL.cons (XOp.fieldP (b := b2) (1) Try.runUnderlying98 rfl Try.sizeOf22 (by decide) rfl rfl ?_)
      refine XL.cons (XOp.load1 (v := a2) Try.isAgg22 rfl (Rd.own [_] rfl rfl) ?_)
      refine XL.cons (XOp.call (args := [.agg #[u2], a2]) Try.call150 rfl (l2Filled_spec f9_1hr ha2 (hsl := (by first | assumption | rfl | omega | (left; simp; done) | (right; simp; done))) (hsb := (fun i => by have := hmp2 i; omega)) (htl := (by first | assumption | rfl | omega | (left; simp; done) | (right; simp; done))) (htg := (fun k hk => by have := hRg k hk; omega))) ?_)
      rintro _ F6 _ le6 ⟨x3, rfl, hr5, rfl⟩
      replace har := har.mono le6
      replace hrs := hrs.mono le6
      replace ht := ht.mono le6
      replace ha1 := ha1.mono le6
      replace ha2 := ha2.mono le6
      replace f8_1ha := f8_1ha.mono le6
      replace f9_1hr := f9_1hr.mono le6
      replace hr1 := Rd.monoA hr1 le6
      replace hr2 := Rd.monoA hr2 le6
      refine XL.cons (XOp.move (.tuple #[x3, .bool ((fillL (matchP ar ((rs.getD r ([], [])).1) ((sub ar t p))) ((rs.getD r ([], [])).2)).isSome)]) rfl ?_)
      refine XL.cons (XOp.extract (x3) rfl rfl ?_)
      refine XL.cons (XOp.extract (.bool ((fillL (matchP ar ((rs.getD r ([], [])).1) ((sub ar t p))) ((rs.getD r ([], [])).2)).isSome)) rfl rfl ?_)
      refine XL.cons (XOp.assign (x3) rfl ?_)
      refine XL.cons (XOp.assign (.bool ((fillL (matchP ar ((rs.getD r ([], [])).1) ((sub ar t p))) ((rs.getD r ([], [])).2)).isSome)) rfl ?_)
      refine XL.nil ?_
      refine X.seq ?_
      refine X.seq ?_
      refine X.region ?_
      refine XL.cons (XOp.move (.bool ((fillL (matchP ar ((rs.getD r ([], [])).1) ((sub ar t p))) ((rs.getD r ([], [])).2)).isSome)) rfl ?_)
      refine XL.cons (XOp.notB (b := (fillL (matchP ar ((rs.getD r ([], [])).1) ((sub ar t p))) ((rs.getD r ([], [])).2)).isSome) rfl ?_)
      refine XL.nil ?_
      refine X.cond (t := !((fillL (matchP ar ((rs.getD r ([], [])).1) ((sub ar t p))) ((rs.getD r ([], [])).2)).isSome)) rfl (fun h2 => ?_) (fun h2 => ?_)
      · have hfs : (fillL (matchP ar (rs.getD r ([], [])).1 (sub ar t p)) (rs.getD r ([], [])).2).isSome = false := by simpa using h2
        refine X.seq ?_
        refine X.region ?_
        refine XL.cons (XOp.buildSlice (s := 1) [] [.int .i64 (0)] [] Try.runUnderlying22 Try.sizeOf2 Try.zeroValue2 rfl (by decide) rfl CellsAre.nil rfl ?_)
        intro v4 hv2
        refine XL.cons (XOp.assign (v4) rfl ?_)
        refine XL.cons (XOp.assign (.bool (false)) rfl ?_)
        refine XL.nil ?_
        show X _ _ _ _ _ _ (intsH 2 v4 ([] : List Int) :: cellsH b5 [u2] 184 :: cellsH b2 [a1, a2] 98 :: cellsH b1 [arv, rsv] 36 :: L)
        refine X.freezeF [] _ _ rfl (fun F7 le7 hz3 => ?_)
        replace har := har.mono le7
        replace hrs := hrs.mono le7
        replace ht := ht.mono le7
        replace ha1 := ha1.mono le7
        replace ha2 := ha2.mono le7
        replace f8_1ha := f8_1ha.mono le7
        replace f9_1hr := f9_1hr.mono le7
        replace hr5 := hr5.mono le7
        replace hr1 := Rd.monoA hr1 le7
        replace hr2 := Rd.monoA hr2 le7
        have hf3 : IntsF F7 v4 ([]) := intsH.fz (xs := []) hz3.fz
        refine X.ret (thenQ_ret (retEnd (L' := L) [v4, .bool (false)] (.tuple #[v4, .bool (false)]) (.tmp rfl (.tmp rfl .nil)) rfl (FLe.trans (FLe.trans le4 le6) le7) (FLe.refl _) (Sub.drop (Sub.drop (Sub.drop (Sub.refl _)))) ?_))
        have hz := stepL_nofill hms hfs
        exact ⟨_, by rw [hz]; rfl, by rw [hz]; exact hf3, rfl⟩
      · have hfs : (fillL (matchP ar (rs.getD r ([], [])).1 (sub ar t p)) (rs.getD r ([], [])).2).isSome = true := by simpa using h2
        have hfl := fill_getD_len hfs (by omega)
        refine X.skip ?_
        refine X.seq ?_
        refine X.region ?_
        refine XL.cons (XOp.fieldP (b := b1) (0) Try.runUnderlying36 rfl Try.sizeOf33 (by decide) rfl rfl ?_)
        refine XL.cons (XOp.loadN [arv] Try.isAgg33 Try.sizeOf33 rfl rfl (Rd.ownN [_, _] rfl rfl) ?_)
        refine XL.cons (XOp.move (tv) rfl ?_)
        refine XL.cons (XOp.move (.int .i64 (((p : Nat) : Int))) rfl ?_)
        refine XL.cons (XOp.move (x3) rfl ?_)
        refine XL.cons (XOp.call (args := [.agg #[arv], tv, .int .i64 ((p : Nat) : Int), x3]) Try.call151 rfl (l3Put_spec (p := p) har ht hr5 (ho := (by first | assumption | rfl | omega | (left; simp; done) | (right; simp; done))) (hp := (by first | assumption | rfl | omega | (left; simp; done) | (right; simp; done))) (hul := (by first | assumption | rfl | omega | (left; simp; done) | (right; simp; done)))) ?_)
        rintro _ F8 _ le8 ⟨x4, rfl, hr6, rfl⟩
        replace har := har.mono le8
        replace hrs := hrs.mono le8
        replace ht := ht.mono le8
        replace ha1 := ha1.mono le8
        replace ha2 := ha2.mono le8
        replace f8_1ha := f8_1ha.mono le8
        replace f9_1hr := f9_1hr.mono le8
        replace hr5 := hr5.mono le8
        replace hr1 := Rd.monoA hr1 le8
        replace hr2 := Rd.monoA hr2 le8
        refine XL.cons (XOp.extract (x4) rfl rfl ?_)
        refine XL.cons (XOp.extract (.bool ((putL ar t p ((fillL (matchP ar ((rs.getD r ([], [])).1) ((sub ar t p))) ((rs.getD r ([], [])).2)).getD [])).isSome)) rfl rfl ?_)
        refine XL.cons (XOp.assign (x4) rfl ?_)
        refine XL.cons (XOp.assign (.bool ((putL ar t p ((fillL (matchP ar ((rs.getD r ([], [])).1) ((sub ar t p))) ((rs.getD r ([], [])).2)).getD [])).isSome)) rfl ?_)
        refine XL.nil ?_
        refine X.ret (retEnd (L' := L) [x4, .bool ((putL ar t p ((fillL (matchP ar ((rs.getD r ([], [])).1) ((sub ar t p))) ((rs.getD r ([], [])).2)).getD [])).isSome)] (.tuple #[x4, .bool ((putL ar t p ((fillL (matchP ar ((rs.getD r ([], [])).1) ((sub ar t p))) ((rs.getD r ([], [])).2)).getD [])).isSome)]) (.tmp rfl (.tmp rfl .nil)) rfl (FLe.trans (FLe.trans le4 le6) le8) (FLe.refl _) (Sub.drop (Sub.drop (Sub.drop (Sub.refl _)))) ?_)
        have hz := stepL_put hms hfs
        exact ⟨_, by rw [hz], by rw [hz]; exact hr6, rfl⟩
end Go.Proofs.Ytnloeeaidknblaa
