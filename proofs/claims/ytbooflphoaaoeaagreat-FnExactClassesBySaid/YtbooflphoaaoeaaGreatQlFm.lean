/-
  Walks: the strategies' walks.
-/
import Derived.Test.YtbooflphoaaoeaaGreatQlFl
import Derived.Test.YtbooflphoaaoeaaGreatP5
set_option linter.unusedSimpArgs false
set_option linter.unusedVariables false
namespace Go.Proofs.YtbooflphoaaoeaaGreat
open Go X M

/- impl.walkBy -/
theorem walkBy_spec {F : FH} {L : List HP} {arv : Value} {ar : List Int} (har : IntsF F arv ar) {rsv : Value} {rs : List (List Int × List Int)} (hrs : PairsF F rsv rs) {tv : Value} {t : List Int} (ht : IntsF F tv t) {st : Int} {n : Nat} (hsys : sysOk ar rs = true) (ho : termOk ar t = true) (hst : 1 ≤ st ∧ st ≤ 3) (hn : n ≤ 60) :
    Does Tryz.prog 56 [.agg #[arv, rsv], tv, .int .i64 (st), .int .i64 (((n : Nat) : Int))] F (L) (fun v F' L' => ∃ (a : Value), ∃ (b : Value), (.tuple #[.agg #[a, b], .bool ((walkGo ar rs st n t).2)] : Value) = v ∧ (IntsF F' a t) ∧ (StepsF F' b (walkGo ar rs st n t).1) ∧ (Fresh F F' (star [intsH 2 a t, stepsD 2 133 b (walkGo ar rs st n t).1])) ∧ L = L') := by
  refine Does.of_X Tryz.func56 rfl rfl rfl ?_
  have hnn := notNil_of_pos ht (by have := termOk_len ho; omega)
  have htl := termOk_len ho
  have hrl := (sysOk_iff.1 hsys).2.1
  have hsig := (sysOk_iff.1 hsys).1
  have hsl := sigOk_spec hsig
  refine X.seq ?_
  refine X.region ?_
  refine XL.cons (XOp.box [arv, rsv] rfl rfl ?_)
  intro b1
  refine XL.cons (XOp.alloc [(.slice none 0 0), (.slice none 0 0)] Tryz.zeroValue66 rfl ?_)
  intro b2
  refine XL.cons (XOp.assign (.bool (false)) rfl ?_)
  refine XL.nil ?_
  refine X.seq ?_
  refine X.region ?_
  refine XL.cons (XOp.move (tv) rfl ?_)
  refine XL.cons (XOp.frzF <| XOp.call (args := [tv]) Tryz.call111 rfl (Clone_spec ht (hlt := (by first | assumption | rfl | omega | (left; simp; done) | (right; simp; done)))) ?_)
  rintro v1 _ _ _ ⟨rfl, hs1, rfl⟩
  refine ⟨_, _, rfl, fun F1 le1 hz1 => ?_⟩
  replace har := har.mono le1
  replace hrs := hrs.mono le1
  replace ht := ht.mono le1
  have hf1 : IntsF F1 v1 ((t)) := intsH.fz (xs := (t)) hz1.fz
  refine XL.cons (XOp.build [v1, (.slice none 0 0)] [(.slice none 0 0), (.slice none 0 0)] [(0, 1), (1, 1)] [(0, [v1])] Tryz.runUnderlying66 Tryz.zeroValue66 rfl (.cons rfl Tryz.sizeOf22 (.cons rfl Tryz.sizeOf64 PlacesAre.nil)) rfl (.cons (cells_one (IntsF.isSl hf1)) CellsAre.nil) ?_)
  refine XL.cons (XOp.alloc [(.slice none 0 0), (.slice none 0 0)] Tryz.zeroValue66 rfl ?_)
  intro b3
  refine XL.cons (XOp.storeN (vs := [v1, (.slice none 0 0)]) [] _ [v1, (.slice none 0 0)] Tryz.sizeOf66 rfl rfl rfl (ones_cons (one_sl (IntsF.isSl hf1)) (ones_cons rfl ones_nil)) rfl rfl rfl ?_)
  refine XL.nil ?_
  refine X.block ?_
  refine X.loop (α := Value × List Int × Value × List StepT × List Value × List HP × Nat × FH) (fun xQ => [(1, xQ.1), (2, .int .i64 (st)), (3, .int .i64 (((n : Nat) : Int))), (4, ptr b1 0), (8, ptr b2 0), (10, ptr b3 0)]) (fun xQ => slH 133 3 xQ.2.2.1 xQ.2.2.2.2.2.2.1 xQ.2.2.2.2.1 :: cellsH b3 [v1, xQ.2.2.1] 66 :: cellsH b2 [(.slice none 0 0), (.slice none 0 0)] 66 :: cellsH b1 [arv, rsv] 37 :: L) (fun xQ F' => xQ.2.2.2.2.2.2.2 = F' ∧ F1 ≤ xQ.2.2.2.2.2.2.2 ∧ (IntsF xQ.2.2.2.2.2.2.2 xQ.1 xQ.2.1) ∧ (termOk ar xQ.2.1 = true) ∧ (IsSl xQ.2.2.1) ∧ (StepsC xQ.2.2.2.2.2.2.2 xQ.2.2.2.2.1 xQ.2.2.2.1) ∧ (xQ.2.2.2.2.2.2.1 = xQ.2.2.2.1.length) ∧ (DeepL 3 (StepO 2) xQ.2.2.2.2.1 xQ.2.2.2.1 xQ.2.2.2.2.2.1) ∧ (Fresh F1 xQ.2.2.2.2.2.2.2 (star xQ.2.2.2.2.2.1)) ∧ (xQ.2.2.2.1.length ≤ n) ∧ ((walkGo ar rs st n t).1 = xQ.2.2.2.1 ++ (walkGo ar rs st (n - xQ.2.2.2.1.length) xQ.2.1).1) ∧ ((walkGo ar rs st n t).2 = (walkGo ar rs st (n - xQ.2.2.2.1.length) xQ.2.1).2)) (fun xQ => n - xQ.2.2.2.2.2.2.1) (tv, t, (.slice none 0 0), [], [], [], 0, F1) ⟨rfl, rfl, rfl, rfl, rfl, rfl, trivial⟩ (Sub.trans (Sub.addNil 133 3 _ _) (Sub.cons (Sub.cons (Sub.cons (Sub.cons (Sub.refl _)))))) ⟨rfl, FLe.refl _, (ht), (ho), (⟨_, _, _, rfl⟩), (CO.nil), (rfl), (DeepL.nil), (Fresh.nilL), (by simp), (rfl), (rfl)⟩ ?_
  rintro ⟨cv, cur, sv, ss, cs, Ls, m, G1⟩ rE _ _ ⟨rfl, leG, hcv, hoc, hsv, hC, hm, hD, hZ, hln, hwa, hwb⟩
  show X _ _ _ _ (envs [(1, cv), (2, .int .i64 (st)), (3, .int .i64 (((n : Nat) : Int))), (4, ptr b1 0), (8, ptr b2 0), (10, ptr b3 0)] rE) _ (slH 133 3 sv m cs :: cellsH b3 [v1, sv] 66 :: cellsH b2 [(.slice none 0 0), (.slice none 0 0)] 66 :: cellsH b1 [arv, rsv] 37 :: L)
  replace leG : F1 ≤ G1 := leG
  dsimp only at hcv hoc hsv hC hm hD hZ hln hwa hwb
  have hcl := termOk_len hoc
  have leG1 := leG
  replace har := har.mono leG1
  replace hrs := hrs.mono leG1
  replace ht := ht.mono leG1
  replace hf1 := hf1.mono leG1
  refine X.block ?_
  refine X.seq ?_
  refine X.region ?_
  refine XL.cons (XOp.loadN [arv, rsv] Tryz.isAgg37 Tryz.sizeOf37 rfl rfl (Rd.ownN [_, _, _] rfl rfl) ?_)
  refine XL.cons (XOp.move (cv) rfl ?_)
  refine XL.cons (XOp.move (.int .i64 (st)) rfl ?_)
  refine XL.cons (XOp.call (args := [.agg #[arv, rsv], cv, .int .i64 (st)]) Tryz.call112 rfl (pick_all (st := st) har hrs hcv (by assumption) (by assumption) (by omega)) ?_)
  rintro _ _ _ _ ⟨rfl, rfl, rfl⟩
  refine XL.cons (XOp.assign (.int .i64 (pickL ar rs cur st)) rfl ?_)
  refine XL.nil ?_
  refine X.seq ?_
  refine X.seq ?_
  refine X.region ?_
  refine XL.cons (XOp.move (.int .i64 (pickL ar rs cur st)) rfl ?_)
  refine XL.cons (XOp.lss (a := pickL ar rs cur st) (b := 0) rfl rfl ?_)
  refine XL.nil ?_
  refine X.condD (p := (pickL ar rs cur st : Int) < 0) rfl (fun h1 => ?_) (fun h1 => ?_)
  · have he := pick_neg (ar := ar) (rs := rs) (t := cur) (st := st) (by omega)
    refine X.seq ?_
    refine X.region ?_
    refine XL.cons (XOp.loadN [v1, sv] Tryz.isAgg66 Tryz.sizeOf66 rfl rfl (Rd.ownN [_] rfl rfl) ?_)
    refine XL.cons (XOp.storeN (vs := [v1, sv]) [_, _] _ [v1, sv] Tryz.sizeOf66 rfl rfl rfl (ones_cons (one_sl (IntsF.isSl hf1)) (ones_cons (one_sl hsv) ones_nil)) rfl rfl rfl ?_)
    refine XL.cons (XOp.assign (.bool (true)) rfl ?_)
    refine XL.nil ?_
    refine X.freezeF [] _ _ rfl (fun F2 le2 hz2 => ?_)
    replace har := har.mono le2
    replace hrs := hrs.mono le2
    replace ht := ht.mono le2
    replace hf1 := hf1.mono le2
    replace hcv := hcv.mono le2
    replace hC := hC.mono le2
    have hf2 : StepsF F2 sv ss := CO.fz hC (by first | rfl | simp | omega) hz2.fz
    refine X.ret (thenQ_ret (blockQ_ret (thenQ_ret (blockQ_ret (retEnd (L' := L) [.agg #[v1, sv], .bool (true)] (.tuple #[.agg #[v1, sv], .bool (true)]) (.cell rfl (loadNV [v1, sv] Tryz.isAgg66 Tryz.sizeOf66 rfl (Rd.ownN [_] rfl rfl)) (.tmp rfl .nil)) rfl (FLe.trans (FLe.trans le1 leG1) le2) (FLe.refl _) (Sub.drop (Sub.drop (Sub.drop (Sub.refl _)))) ?_)))))
    have hw := walk_nil (st := st) (m := n - ss.length) he
    have e1 : (walkGo ar rs st n t).1 = ss := by rw [hwa, hw]; simp
    have e2 : (walkGo ar rs st n t).2 = true := by rw [hwb, hw]
    exact ⟨_, _, by rw [e2], hf1, by rw [e1]; exact hf2, by rw [e1]; exact (Fresh.app (Fresh.one hz1) le1 (Fresh.one (Fresh.deep hD hZ leG1 hz2 (by omega) le2)) (FLe.trans leG1 le2)), rfl⟩
  · obtain ⟨q, hq1, hq2, hq3, hne⟩ := (pick_spec (ar := ar) (rs := rs) (t := cur) st).resolve_left (fun h => by have := h.1; omega)
    have hpn : (pickL ar rs cur st).toNat = q := by omega
    have hrr : 0 ≤ ruleAtL ar rs cur (pickL ar rs cur st).toNat := by rw [hpn]; simpa [hasR] using hq3
    obtain ⟨k, hk1, hk2, _⟩ := (M.ruleAt_spec (ar := ar) (rs := rs) (t := cur) (p := (pickL ar rs cur st).toNat)).resolve_left (by omega)
    refine X.skip ?_
    refine X.seq ?_
    refine X.seq ?_
    refine X.region ?_
    refine XL.cons (XOp.fieldP (b := b3) (1) Tryz.runUnderlying66 rfl Tryz.sizeOf64 (by decide) rfl rfl ?_)
    refine XL.cons (XOp.load1 (v := sv) Tryz.isAgg64 rfl (Rd.own [_] rfl rfl) ?_)
    refine XL.cons (XOp.lenS (v := sv) (n := m) Tryz.runUnderlying64 rfl (SlV.own [] rfl) ?_)
    refine XL.cons (XOp.move (.int .i64 (((n : Nat) : Int))) rfl ?_)
    refine XL.cons (XOp.eql (a := ((m : Nat) : Int)) (b := ((n : Nat) : Int)) rfl rfl ?_)
    refine XL.nil ?_
    refine X.condD (p := (((m : Nat) : Int) : Int) = ((n : Nat) : Int)) rfl (fun h2 => ?_) (fun h2 => ?_)
    · refine X.seq ?_
      refine X.region ?_
      refine XL.cons (XOp.loadN [v1, sv] Tryz.isAgg66 Tryz.sizeOf66 rfl rfl (Rd.ownN [_] rfl rfl) ?_)
      refine XL.cons (XOp.storeN (vs := [v1, sv]) [_, _] _ [v1, sv] Tryz.sizeOf66 rfl rfl rfl (ones_cons (one_sl (IntsF.isSl hf1)) (ones_cons (one_sl hsv) ones_nil)) rfl rfl rfl ?_)
      refine XL.cons (XOp.assign (.bool (false)) rfl ?_)
      refine XL.nil ?_
      refine X.freezeF [] _ _ rfl (fun F3 le3 hz3 => ?_)
      replace har := har.mono le3
      replace hrs := hrs.mono le3
      replace ht := ht.mono le3
      replace hf1 := hf1.mono le3
      replace hcv := hcv.mono le3
      replace hC := hC.mono le3
      have hf3 : StepsF F3 sv ss := CO.fz hC (by first | rfl | simp | omega) hz3.fz
      refine X.ret (thenQ_ret (blockQ_ret (thenQ_ret (blockQ_ret (retEnd (L' := L) [.agg #[v1, sv], .bool (false)] (.tuple #[.agg #[v1, sv], .bool (false)]) (.cell rfl (loadNV [v1, sv] Tryz.isAgg66 Tryz.sizeOf66 rfl (Rd.ownN [_] rfl rfl)) (.tmp rfl .nil)) rfl (FLe.trans (FLe.trans le1 leG1) le3) (FLe.refl _) (Sub.drop (Sub.drop (Sub.drop (Sub.refl _)))) ?_)))))
      have hw := walk_zero (st := st) (m := n - ss.length) (by omega) hne
      have e1 : (walkGo ar rs st n t).1 = ss := by rw [hwa, hw]; simp
      have e2 : (walkGo ar rs st n t).2 = false := by rw [hwb, hw]
      exact ⟨_, _, by rw [e2], hf1, by rw [e1]; exact hf3, by rw [e1]; exact (Fresh.app (Fresh.one hz1) le1 (Fresh.one (Fresh.deep hD hZ leG1 hz3 (by omega) le3)) (FLe.trans leG1 le3)), rfl⟩
    · refine X.skip ?_
      refine X.seq ?_
      refine X.region ?_
      refine XL.cons (XOp.loadN [arv, rsv] Tryz.isAgg37 Tryz.sizeOf37 rfl rfl (Rd.ownN [_, _, _] rfl rfl) ?_)
      refine XL.cons (XOp.move (cv) rfl ?_)
      refine XL.cons (XOp.move (.int .i64 (pickL ar rs cur st)) rfl ?_)
      refine XL.cons (XOp.call (args := [.agg #[arv, rsv], cv, .int .i64 (((pickL ar rs cur st).toNat : Nat) : Int)]) Tryz.call113 (by rw [show (((pickL ar rs cur st).toNat : Nat) : Int) = pickL ar rs cur st from by omega]; rfl) (ruleAt_spec (p := (pickL ar rs cur st).toNat) har hrs hcv (hsys := (by first | assumption | rfl | omega | (left; simp; done) | (right; simp; done))) (ho := (by first | assumption | rfl | omega | (left; simp; done) | (right; simp; done))) (hp := (by first | assumption | rfl | omega | (left; simp; done) | (right; simp; done)))) ?_)
      rintro _ _ _ _ ⟨rfl, rfl, rfl⟩
      refine XL.cons (XOp.assign (.int .i64 (ruleAtL ar rs cur ((pickL ar rs cur st).toNat))) rfl ?_)
      refine XL.nil ?_
      refine X.seq ?_
      refine X.region ?_
      refine XL.cons (XOp.loadN [arv, rsv] Tryz.isAgg37 Tryz.sizeOf37 rfl rfl (Rd.ownN [_, _, _] rfl rfl) ?_)
      refine XL.cons (XOp.move (cv) rfl ?_)
      refine XL.cons (XOp.move (.int .i64 (pickL ar rs cur st)) rfl ?_)
      refine XL.cons (XOp.move (.int .i64 (ruleAtL ar rs cur ((pickL ar rs cur st).toNat))) rfl ?_)
      refine XL.cons (XOp.call (args := [.agg #[arv, rsv], cv, .int .i64 (((pickL ar rs cur st).toNat : Nat) : Int), .int .i64 (((ruleAtL ar rs cur ((pickL ar rs cur st).toNat)).toNat : Nat) : Int)]) Tryz.call114 (by rw [show (((pickL ar rs cur st).toNat : Nat) : Int) = pickL ar rs cur st from by omega, show (((ruleAtL ar rs cur ((pickL ar rs cur st).toNat)).toNat : Nat) : Int) = ruleAtL ar rs cur ((pickL ar rs cur st).toNat) from by omega]; rfl) (step_spec (p := (pickL ar rs cur st).toNat) (r := (ruleAtL ar rs cur ((pickL ar rs cur st).toNat)).toNat) har hrs hcv (hsys := (by first | assumption | rfl | omega | (left; simp; done) | (right; simp; done))) (ho := (by first | assumption | rfl | omega | (left; simp; done) | (right; simp; done))) (hp := (by first | assumption | rfl | omega | (left; simp; done) | (right; simp; done))) (hr := (by first | assumption | rfl | omega | (left; simp; done) | (right; simp; done)))) ?_)
      rintro _ F4 _ le4 ⟨x1, rfl, hr1, hr2, hr3, rfl⟩
      replace har := har.mono le4
      replace hrs := hrs.mono le4
      replace ht := ht.mono le4
      replace hf1 := hf1.mono le4
      replace hcv := hcv.mono le4
      replace hC := hC.mono le4
      refine XL.cons (XOp.move (.tuple #[x1, .bool ((stepL ar rs cur ((pickL ar rs cur st).toNat) ((ruleAtL ar rs cur ((pickL ar rs cur st).toNat)).toNat)).isSome)]) rfl ?_)
      refine XL.cons (XOp.extract (x1) rfl rfl ?_)
      refine XL.cons (XOp.extract (.bool ((stepL ar rs cur ((pickL ar rs cur st).toNat) ((ruleAtL ar rs cur ((pickL ar rs cur st).toNat)).toNat)).isSome)) rfl rfl ?_)
      refine XL.cons (XOp.assign (x1) rfl ?_)
      refine XL.cons (XOp.assign (.bool ((stepL ar rs cur ((pickL ar rs cur st).toNat) ((ruleAtL ar rs cur ((pickL ar rs cur st).toNat)).toNat)).isSome)) rfl ?_)
      refine XL.nil ?_
      refine X.seq ?_
      refine X.seq ?_
      refine X.region ?_
      refine XL.cons (XOp.move (.bool ((stepL ar rs cur ((pickL ar rs cur st).toNat) ((ruleAtL ar rs cur ((pickL ar rs cur st).toNat)).toNat)).isSome)) rfl ?_)
      refine XL.cons (XOp.notB (b := (stepL ar rs cur ((pickL ar rs cur st).toNat) ((ruleAtL ar rs cur ((pickL ar rs cur st).toNat)).toNat)).isSome) rfl ?_)
      refine XL.nil ?_
      refine X.cond (t := !((stepL ar rs cur ((pickL ar rs cur st).toNat) ((ruleAtL ar rs cur ((pickL ar rs cur st).toNat)).toNat)).isSome)) rfl (fun h3 => ?_) (fun h3 => ?_)
      · have hu : (stepL ar rs cur (pickL ar rs cur st).toNat (ruleAtL ar rs cur (pickL ar rs cur st).toNat).toNat).isSome = false := by simpa using h3
        refine X.seq ?_
        refine X.region ?_
        refine XL.cons (XOp.loadN [v1, sv] Tryz.isAgg66 Tryz.sizeOf66 rfl rfl (Rd.ownN [_] rfl rfl) ?_)
        refine XL.cons (XOp.storeN (vs := [v1, sv]) [_, _] _ [v1, sv] Tryz.sizeOf66 rfl rfl rfl (ones_cons (one_sl (IntsF.isSl hf1)) (ones_cons (one_sl hsv) ones_nil)) rfl rfl rfl ?_)
        refine XL.cons (XOp.assign (.bool (false)) rfl ?_)
        refine XL.nil ?_
        refine X.freezeF [] _ _ rfl (fun F5 le5 hz4 => ?_)
        replace har := har.mono le5
        replace hrs := hrs.mono le5
        replace ht := ht.mono le5
        replace hf1 := hf1.mono le5
        replace hcv := hcv.mono le5
        replace hC := hC.mono le5
        replace hr1 := hr1.mono le5
        have hf4 : StepsF F5 sv ss := CO.fz hC (by first | rfl | simp | omega) hz4.fz
        refine X.ret (thenQ_ret (blockQ_ret (thenQ_ret (blockQ_ret (retEnd (L' := L) [.agg #[v1, sv], .bool (false)] (.tuple #[.agg #[v1, sv], .bool (false)]) (.cell rfl (loadNV [v1, sv] Tryz.isAgg66 Tryz.sizeOf66 rfl (Rd.ownN [_] rfl rfl)) (.tmp rfl .nil)) rfl (FLe.trans (FLe.trans (FLe.trans le1 leG1) le4) le5) (FLe.refl _) (Sub.drop (Sub.drop (Sub.drop (Sub.refl _)))) ?_)))))
        have hw := walk_stuck (m := n - ss.length) (by omega) hne hu
        have e1 : (walkGo ar rs st n t).1 = ss := by rw [hwa, hw]; simp
        have e2 : (walkGo ar rs st n t).2 = false := by rw [hwb, hw]
        exact ⟨_, _, by rw [e2], hf1, by rw [e1]; exact hf4, by rw [e1]; exact (Fresh.app (Fresh.one hz1) le1 (Fresh.one (Fresh.deep hD (hZ.mono le4) (FLe.trans leG1 le4) hz4 (by omega) le5)) (FLe.trans (FLe.trans leG1 le4) le5)), rfl⟩
      · obtain ⟨u, hu⟩ := Option.isSome_iff_exists.1 (show (stepL ar rs cur (pickL ar rs cur st).toNat (ruleAtL ar rs cur (pickL ar rs cur st).toNat).toNat).isSome = true from by simpa using h3)
        refine X.skip ?_
        refine X.seq ?_
        refine X.region ?_
        refine XL.cons (XOp.fieldP (b := b3) (1) Tryz.runUnderlying66 rfl Tryz.sizeOf64 (by decide) rfl rfl ?_)
        refine XL.cons (XOp.load1 (v := sv) Tryz.isAgg64 rfl (Rd.own [_] rfl rfl) ?_)
        refine XL.cons (XOp.move (.int .i64 (pickL ar rs cur st)) rfl ?_)
        refine XL.cons (XOp.move (.int .i64 (ruleAtL ar rs cur ((pickL ar rs cur st).toNat))) rfl ?_)
        refine XL.cons (XOp.move (x1) rfl ?_)
        refine XL.cons (XOp.build [.int .i64 (pickL ar rs cur st), .int .i64 (ruleAtL ar rs cur ((pickL ar rs cur st).toNat)), x1] [.int .i64 (0), .int .i64 (0), (.slice none 0 0)] [(0, 1), (1, 1), (2, 1)] [(0, [.int .i64 (pickL ar rs cur st)]), (1, [.int .i64 (ruleAtL ar rs cur ((pickL ar rs cur st).toNat))]), (2, [x1])] Tryz.runUnderlying133 Tryz.zeroValue133 rfl (.cons rfl Tryz.sizeOf2 (.cons rfl Tryz.sizeOf2 (.cons rfl Tryz.sizeOf22 PlacesAre.nil))) rfl (.cons rfl (.cons rfl (.cons (cells_one (IntsF.isSl hr1)) CellsAre.nil))) ?_)
        refine XL.cons (XOp.buildSlice (s := 3) [.int .i64 (pickL ar rs cur st), .int .i64 (ruleAtL ar rs cur ((pickL ar rs cur st).toNat)), x1] [.int .i64 (0), .int .i64 (0), (.slice none 0 0)] [(0, [.int .i64 (pickL ar rs cur st), .int .i64 (ruleAtL ar rs cur ((pickL ar rs cur st).toNat)), x1])] Tryz.runUnderlying64 Tryz.sizeOf133 Tryz.zeroValue133 rfl (by decide) rfl (.cons rfl CellsAre.nil) rfl ?_)
        intro v2 hv1
        refine XL.cons (XOp.append (m := 1) (bytes := 40) (cs := cs) [_] _ [.int .i64 (pickL ar rs cur st), .int .i64 (ruleAtL ar rs cur ((pickL ar rs cur st).toNat)), x1] Tryz.runUnderlying64 Tryz.typeInfo133 rfl rfl rfl rfl rfl rfl rfl (SlV.own [] rfl) rfl (Rd.lit [] rfl) (ones_cons rfl (ones_cons rfl (ones_cons (one_sl (IntsF.isSl hr1)) ones_nil))) (by (try simp only [List.length_append, List.length_nil, List.length_cons, List.length_singleton]); omega) (by (try simp only [List.length_append, List.length_nil, List.length_cons, List.length_singleton]); omega) ?_)
        intro v3 hs2 hn1 hm1
        have hc1 := StepsC.snoc hC (i := pickL ar rs cur st) (j := ruleAtL ar rs cur ((pickL ar rs cur st).toNat)) hr1
        refine XL.cons (XOp.fieldP (b := b3) (1) Tryz.runUnderlying66 rfl Tryz.sizeOf64 (by decide) rfl rfl ?_)
        refine XL.cons (XOp.store1 (v := v3) [_, _] _ [v1, v3] Tryz.sizeOf64 rfl rfl (one_sl hs2) rfl rfl rfl ?_)
        refine XL.nil ?_
        refine X.region ?_
        refine XL.cons (XOp.move (x1) rfl ?_)
        refine XL.cons (XOp.assign (x1) rfl ?_)
        refine XL.nil ?_
        exact ⟨(x1, (stepL ar rs cur ((pickL ar rs cur st).toNat) ((ruleAtL ar rs cur ((pickL ar rs cur st).toNat)).toNat)).getD [], v3, ss ++ [(pickL ar rs cur st, ruleAtL ar rs cur ((pickL ar rs cur st).toNat), (stepL ar rs cur ((pickL ar rs cur st).toNat) ((ruleAtL ar rs cur ((pickL ar rs cur st).toNat)).toNat)).getD [])], cs ++ [.int .i64 (pickL ar rs cur st), .int .i64 (ruleAtL ar rs cur ((pickL ar rs cur st).toNat)), x1], Ls ++ [intsH 2 x1 ((stepL ar rs cur ((pickL ar rs cur st).toNat) ((ruleAtL ar rs cur ((pickL ar rs cur st).toNat)).toNat)).getD [])], (m) + 1, F4), _, (FLe.trans leG1 le4), (FLe.refl _), ⟨rfl, rfl, rfl, rfl, rfl, rfl, trivial⟩, (Sub.drop (Sub.cons (Sub.cons (Sub.cons (Sub.cons (Sub.refl _)))))), ⟨rfl, (FLe.trans leG1 le4), (hr1), (by dsimp only; rw [hu]; exact stepL_ok hsys hoc (by omega) (by omega) hu), (hs2), (hc1), (by (try dsimp only); rw [List.length_append]; simp only [List.length_singleton]; omega), (DeepL.snoc hD rfl ⟨_, rfl, rfl⟩), ((Fresh.app hZ leG1 (Fresh.one hr3) le4)), (by dsimp only; rw [List.length_append]; simp only [List.length_singleton]; omega), (by dsimp only; rw [hwa, walk_next (m := n - ss.length) (by omega) hne hu, hu]; simp only [Option.getD_some, List.length_append, List.length_singleton, List.append_assoc, List.singleton_append]; rw [show n - ss.length - 1 = n - (ss.length + 1) from by omega]), (by dsimp only; rw [hwb, walk_next (m := n - ss.length) (by omega) hne hu, hu]; simp only [Option.getD_some, List.length_append, List.length_singleton]; rw [show n - ss.length - 1 = n - (ss.length + 1) from by omega])⟩, (by dsimp only; omega)⟩
end Go.Proofs.YtbooflphoaaoeaaGreat
