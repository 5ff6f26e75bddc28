/-
  Walks, one after the other (part 5).
-/
import Derived.Test.YtmaaifhmhclhdaaQIL1
import Derived.Test.YtmaaifhmhclhdaaQIB1
import Derived.Test.YtmaaifhmhclhdaaQIB3
set_option linter.unusedSimpArgs false
set_option linter.unusedVariables false
namespace Go.Proofs.Ytmaaifhmhclhdaa
open Go X M Try

/- impl.placeUnder -/
theorem placeUnder_spec {F : FH} {L : List HP} {sv : Value} {s : List (List Int)} (hs : RowsF F sv s) {tv : Value} {t : List Int} (ht : IntsF F tv t) {p : Nat} (hp : p ≤ t.length) (hsl : s.length ≤ 4000000) (hsb : ∀ i, (s.getD i []).length ≤ 60) (htl : t.length ≤ 60) (htg : ∀ k, k < t.length → -24 ≤ t.getD k 0) :
    Does prog 102 [.agg #[sv], tv, .int .i64 ((p : Int))] F (L) (fun v F' L' => (.int .i64 (((movedL s t p : Nat) : Int)) : Value) = v ∧ F = F' ∧ L = L') := by
 refine Does.of_X func102 rfl rfl rfl ?_
 have hlt9 : ((t.drop 0).take (p - 0)).length = p := by simp; omega
 refine X.seq (X.region (cX (XOp.box [sv] rfl rfl ?_)))
 intro b1
 refine XL.as (.int .i64 (0)) rfl (XL.nil (X.seq (X.region (XL.as (.int .i64 (0)) rfl (XL.nil (X.seq (X.seq (X.region (XL.mv (tv) rfl (XL.mv (.int .i64 ((p : Int))) rfl (cX (XOp.sliceI 0 p runUnderlying24 sizeOf2 rfl ht rfl ⟨_, rfl⟩ (by omega) (by omega) ?_))))))))))))
 intro v1 hv1 hn1
 refine cX (XOp.lenS runUnderlying24 rfl hv1.slv (XL.mv (.int .i64 (0)) rfl (XL.nil (X.block (X.loop (α := Nat) (fun k => [(3, ptr b1 0), (7, .int .i64 (((movedL s t k : Nat) : Int))), (13, v1), (14, .int .i64 ((((((t.drop 0).take (p - 0))).length : Nat) : Int))), (15, .int .i64 ((k : Int)))]) (fun k => cellsH b1 [sv] 57 :: L) (fun k F' => F = F' ∧ (k ≤ p)) (fun k => p - k) 0 ⟨rfl, rfl, rfl, rfl, rfl, trivial⟩ (sC sR) ⟨rfl, (by (try dsimp only) <;> omega)⟩ ?_)))))
 rintro k rE _ _ ⟨rfl, hk⟩
 show X _ _ _ _ (envs [(3, ptr b1 0), (7, .int .i64 (((movedL s t k : Nat) : Int))), (13, v1), (14, .int .i64 ((((((t.drop 0).take (p - 0))).length : Nat) : Int))), (15, .int .i64 ((k : Int)))] rE) _ (cellsH b1 [sv] 57 :: L)
 have htk := htg k
 have hgk := fun (h : k < p) => take_getD (t := t) (p := p) (k := k) h
 have hml := movedL_le (t := t) (s := s) (N := 60) (by omega) hsb k
 have hse := hsb (-1 - ((t.drop 0).take (p - 0)).getD k 0).toNat
 refine X.seq (X.region (cX (XOp.lss rfl rfl (XL.nil (X.seq ?_)))))
 refine X.condD (p := (k : Int) < (((((t.drop 0).take (p - 0))).length : Nat) : Int)) rfl (fun h1 => ?_) (fun h1 => ?_)
 ·refine X.skip (X.seq (X.block (X.seq (X.region (cX (XOp.indexS k runUnderlying24 sizeOf2 rfl rfl rfl hv1.slv (by omega) (Nat.mul_one _) (cX (XOp.load1 isAgg2 rfl (hv1.rd (by omega)) (XL.as (.int .i64 ((((t.drop 0).take (p - 0))).getD k 0)) rfl (XL.nil (X.seq (X.region (XL.mv (.int .i64 (((movedL s t k : Nat) : Int))) rfl (cX (XOp.addR ((((movedL s t k) + 1 : Nat) : Int)) rfl rfl (by omega) (by omega) (XL.as (.int .i64 ((((movedL s t k) + 1 : Nat) : Int))) rfl (XL.nil (X.seq (X.seq (X.region (XL.mv (.int .i64 ((((t.drop 0).take (p - 0))).getD k 0)) rfl ?_)))))))))))))))))))))
  refine cX (XOp.geq rfl rfl (XL.nil ?_))
  refine X.condD (p := ((((t.drop 0).take (p - 0))).getD k 0 : Int) ≥ 0) rfl (fun h2 => ?_) (fun h2 => ?_)
  ·refine X.exit (thenQ_exit (blockQ_exit (X.region (cX (XOp.addR (((k + 1 : Nat) : Int)) rfl rfl (by omega) (by omega) (XL.mv (.int .i64 (((k + 1 : Nat) : Int))) rfl (XL.nil ?_)))))))
   exact ⟨k + 1, _, FLe.refl _, rF, ⟨rfl, (congrArg (fun z : Nat => Value.int .i64 (z : Int)) (by rw [movedL_succ (by omega), ← hgk (by omega)]; first | (rw [lk_sym (by omega)]; rfl) | (rw [lk_none (by omega) (of_decide_eq_true (hgk.symm.trans (by simp_all)))]; rfl) | (have hne9 : s.getD (-1 - ((t.drop 0).take (p - 0)).getD k 0).toNat [] ≠ [] := of_decide_eq_false (hgk.symm.trans (by simp_all)); have hne8 := List.length_pos_iff.2 hne9; rw [lk_some (by omega) hne9]; unfold varIx; omega))), rfl, rfl, rfl, trivial⟩, (sC sR), ⟨rfl, (by omega)⟩, (by omega)⟩
  refine X.skip (X.seq (X.region (cX (XOp.loadN [sv] isAgg57 sizeOf57 rfl rfl (Rd.ownN [] rfl rfl) (XL.mv (.int .i64 ((((t.drop 0).take (p - 0))).getD k 0)) rfl (cX (XOp.subR ((-1) - ((((t.drop 0).take (p - 0))).getD k 0)) rfl rfl (by omega) (by omega) (cX (XOp.call (args := [.agg #[sv], .int .i64 ((((-1) - ((((t.drop 0).take (p - 0))).getD k 0)).toNat : Nat) : Int)]) call143 (by rw [show ((((-1) - ((((t.drop 0).take (p - 0))).getD k 0)).toNat : Nat) : Int) = (-1) - ((((t.drop 0).take (p - 0))).getD k 0) from by omega]; rfl) (byVar_spec (i := ((-1) - ((((t.drop 0).take (p - 0))).getD k 0)).toNat) hs (hsl := (by first | assumption | rfl | omega | simp))) ?_)))))))))
  rintro _ _ _ _ ⟨rfl, x1, rfl, hr1, hr2, rfl⟩
  skip
  refine XL.as (x1) rfl (XL.nil (X.seq (X.region (XL.mv (x1) rfl (cX (XOp.neNil runUnderlying24 rfl rfl (IntsF.isSl hr1) (XL.nil ?_)))))))
  refine X.cond (t := !isNil x1) rfl (fun h3 => ?_) (fun h3 => ?_)
  ·have hne7 := List.length_pos_iff.2 (of_decide_eq_false (hr2.symm.trans (by simpa using h3)))
   refine X.region (XL.mv (.int .i64 ((((movedL s t k) + 1 : Nat) : Int))) rfl (XL.mv (x1) rfl (cX (XOp.lenS runUnderlying24 rfl hr1.slv (cX (XOp.subR (((((s.getD (((-1) - ((((t.drop 0).take (p - 0))).getD k 0)).toNat) []).length) - 1 : Nat) : Int)) rfl rfl (by omega) (by omega) (cX (XOp.addR (((((movedL s t k) + 1) + (((s.getD (((-1) - ((((t.drop 0).take (p - 0))).getD k 0)).toNat) []).length) - 1) : Nat) : Int)) rfl rfl (by omega) (by omega) (XL.as (.int .i64 (((((movedL s t k) + 1) + (((s.getD (((-1) - ((((t.drop 0).take (p - 0))).getD k 0)).toNat) []).length) - 1) : Nat) : Int))) rfl (XL.nil (X.region (cX (XOp.addR (((k + 1 : Nat) : Int)) rfl rfl (by omega) (by omega) (XL.mv (.int .i64 (((k + 1 : Nat) : Int))) rfl ?_))))))))))))))
   refine XL.nil ?_
   exact ⟨k + 1, _, FLe.refl _, rF, ⟨rfl, (congrArg (fun z : Nat => Value.int .i64 (z : Int)) (by rw [movedL_succ (by omega), ← hgk (by omega)]; first | (rw [lk_sym (by omega)]; rfl) | (rw [lk_none (by omega) (of_decide_eq_true (hr2.symm.trans (by simp_all)))]; rfl) | (have hne9 : s.getD (-1 - ((t.drop 0).take (p - 0)).getD k 0).toNat [] ≠ [] := of_decide_eq_false (hr2.symm.trans (by simp_all)); have hne8 := List.length_pos_iff.2 hne9; rw [lk_some (by omega) hne9]; unfold varIx; omega))), rfl, rfl, rfl, trivial⟩, (sC sR), ⟨rfl, (by omega)⟩, (by omega)⟩
  refine X.skip (X.region (cX (XOp.addR (((k + 1 : Nat) : Int)) rfl rfl (by omega) (by omega) (XL.mv (.int .i64 (((k + 1 : Nat) : Int))) rfl (XL.nil ?_)))))
  exact ⟨k + 1, _, FLe.refl _, rF, ⟨rfl, (congrArg (fun z : Nat => Value.int .i64 (z : Int)) (by rw [movedL_succ (by omega), ← hgk (by omega)]; first | (rw [lk_sym (by omega)]; rfl) | (rw [lk_none (by omega) (of_decide_eq_true (hr2.symm.trans (by simp_all)))]; rfl) | (have hne9 : s.getD (-1 - ((t.drop 0).take (p - 0)).getD k 0).toNat [] ≠ [] := of_decide_eq_false (hr2.symm.trans (by simp_all)); have hne8 := List.length_pos_iff.2 hne9; rw [lk_some (by omega) hne9]; unfold varIx; omega))), rfl, rfl, rfl, trivial⟩, (sC sR), ⟨rfl, (by omega)⟩, (by omega)⟩
 refine X.exit (thenQ_exit (thenQ_exit (blockQ_exit (X.seq (X.region (XL.mv (.int .i64 (((movedL s t k : Nat) : Int))) rfl (XL.as (.int .i64 (((movedL s t k : Nat) : Int))) rfl (XL.nil (X.ret (retEnd (L' := L) [.int .i64 (((movedL s t k : Nat) : Int))] (.int .i64 (((movedL s t k : Nat) : Int))) (.tmp rfl .nil) rfl rF rF (sD sR) ?_))))))))))
 exact ⟨(vI (by rw [show k = p from by omega])), rfl, rfl⟩

/- impl.WalkUnder -/
theorem WalkUnder_spec {F : FH} {L : List HP} {arv : Value} {ar : List Int} (har : IntsF F arv ar) {rsv : Value} {rs : List (List Int × List Int)} (hrs : PairsF F rsv rs) {fv : Value} {f : List Int} (hf : IntsF F fv f) {xsv : Value} {xs : List StepT} (hxs : StepsF F xsv xs) {uv : Value} {u : List (List Int)} (hu : RowsF F uv u) (hlf : f.length ≤ 4000000) (hsb : ∀ i, i < xs.length → (xs.getD i (0, 0, [])).2.2.length ≤ 4000000) :
    Does prog 46 [.agg #[arv, rsv], .agg #[fv, xsv], .agg #[uv]] F (L) (fun v F' L' => ∃ (a : Value), ∃ (b : Value), (.tuple #[.agg #[a, b], .bool ((undB ar rs f xs u).2.2)] : Value) = v ∧ (IntsF F' a (undB ar rs f xs u).1) ∧ (StepsF F' b (undB ar rs f xs u).2.1) ∧ (Fresh F F' (star [intsH 2 a (undB ar rs f xs u).1, stepsD 2 48 b (undB ar rs f xs u).2.1])) ∧ L = L') := by
 refine Does.of_X func46 rfl rfl rfl (X.seq (X.region (cX (XOp.box [arv, rsv] rfl rfl ?_))))
 intro b1
 refine cX (XOp.box [fv, xsv] rfl rfl ?_)
 intro b2
 refine cX (XOp.box [uv] rfl rfl ?_)
 intro b3
 refine cX (XOp.alloc [(.slice none 0 0), (.slice none 0 0)] zeroValue60 rfl ?_)
 intro b4
 refine XL.as (.bool (false)) rfl (XL.nil (X.seq (X.seq (X.region (cX (XOp.loadN [arv, rsv] isAgg29 sizeOf29 rfl rfl (Rd.ownN [_, _, _] rfl rfl) (cX (XOp.loadN [fv, xsv] isAgg60 sizeOf60 rfl rfl (Rd.ownN [_, _] rfl rfl) (cX (XOp.call (args := [.agg #[arv, rsv], .agg #[fv, xsv]]) call39 rfl (WalkOk_spec har hrs hf hxs (hlf := (by first | assumption | rfl | omega | simp)) (hsb := (by first | assumption | rfl | omega | simp))) ?_))))))))))
 rintro _ _ _ _ ⟨rfl, rfl, rfl⟩
 refine cX (XOp.notB rfl (XL.mv (.bool (!(walkOkL ar rs f xs))) rfl ?_))
 by_cases h1 : (!(walkOkL ar rs f xs)) = true
 ·refine XL.no (t := 20) rfl (vB h1) (XL.no (t := 20) rfl (vB h1) (XL.no (t := 20) rfl (vB h1) (XL.no (t := 20) rfl (vB h1) (XL.no (t := 20) rfl (vB h1) (cX (XOp.pickT (.bool (true)) (vB h1) rfl (XL.nil (X.condT rfl (X.seq (X.region (cX (XOp.build [(.slice none 0 0), (.slice none 0 0)] [(.slice none 0 0), (.slice none 0 0)] [(0, 1), (1, 1)] [] runUnderlying60 zeroValue60 rfl (.cons rfl sizeOf24 (.cons rfl sizeOf45 PlacesAre.nil)) rfl CellsAre.nil ?_))))))))))))
  refine cX (XOp.storeN [] _ [(.slice none 0 0), (.slice none 0 0)] sizeOf60 rfl rfl rfl (ones_cons rfl (ones_cons rfl ones_nil)) rfl rfl rfl (XL.as (.bool (false)) rfl (XL.nil (X.ret (thenQ_ret (retEnd (L' := L) [.agg #[(.slice none 0 0), (.slice none 0 0)], .bool (false)] (.tuple #[.agg #[(.slice none 0 0), (.slice none 0 0)], .bool (false)]) (.cell rfl (loadNV [(.slice none 0 0), (.slice none 0 0)] isAgg60 sizeOf60 rfl (Rd.ownN [] rfl rfl)) (.tmp rfl .nil)) rfl rF rF (sD (sD (sD (sD sR)))) ?_))))))
  have e : undB ar rs f xs u = ([], [], false) := undB_no (by simp_all)
  exact ⟨_, _, by rw [e], by rw [e]; exact IntsF.nilV, by rw [e]; exact SlOf.nilV, by rw [e]; exact Fresh.empty nilWalk, rfl⟩
 rw [Bool.not_eq_true] at h1
 have hwk : walkOkL ar rs f xs = true := by simpa using h1
 have hwl := (walkOkL_iff.1 hwk).2.1
 have hfo := (right_iff.1 (walkOkL_iff.1 hwk).1).2
 have hfl := termOk_len hfo
 have hfg := fun k (hk : k < f.length) => termOk_ge hfo hk
 refine XL.yes (t := 20) rfl (vB h1) (XOp.fieldP (0) runUnderlying29 rfl sizeOf26 (by decide) rfl rfl (XL.yes (t := 20) rfl (vB h1) (XOp.loadN [arv] isAgg26 sizeOf26 rfl rfl (Rd.ownN [_, _, _] rfl rfl) (XL.yes (t := 20) rfl (vB h1) (XOp.loadN [uv] isAgg57 sizeOf57 rfl rfl (Rd.ownN [_] rfl rfl) (XL.yes (t := 20) rfl (vB h1) (XOp.call (args := [.agg #[arv], .agg #[uv]]) call101 rfl (SubstOk_spec har hu) ?_)))))))
 rintro _ _ _ _ ⟨rfl, rfl, rfl⟩
 refine XL.yes (t := 20) rfl (vB h1) (XOp.notB rfl (cX (XOp.pickF (.bool (!(substOk ar u))) (vB h1) rfl (XL.nil ?_))))
 refine X.cond (t := !(substOk ar u)) rfl (fun h2 => ?_) (fun h2 => ?_)
 ·refine X.seq (X.region (cX (XOp.build [(.slice none 0 0), (.slice none 0 0)] [(.slice none 0 0), (.slice none 0 0)] [(0, 1), (1, 1)] [] runUnderlying60 zeroValue60 rfl (.cons rfl sizeOf24 (.cons rfl sizeOf45 PlacesAre.nil)) rfl CellsAre.nil (cX (XOp.storeN [] _ [(.slice none 0 0), (.slice none 0 0)] sizeOf60 rfl rfl rfl (ones_cons rfl (ones_cons rfl ones_nil)) rfl rfl rfl (XL.as (.bool (false)) rfl (XL.nil (X.ret (thenQ_ret (retEnd (L' := L) [.agg #[(.slice none 0 0), (.slice none 0 0)], .bool (false)] (.tuple #[.agg #[(.slice none 0 0), (.slice none 0 0)], .bool (false)]) (.cell rfl (loadNV [(.slice none 0 0), (.slice none 0 0)] isAgg60 sizeOf60 rfl (Rd.ownN [] rfl rfl)) (.tmp rfl .nil)) rfl rF rF (sD (sD (sD (sD sR)))) ?_))))))))))
  have e : undB ar rs f xs u = ([], [], false) := undB_no (by simp_all)
  exact ⟨_, _, by rw [e], by rw [e]; exact IntsF.nilV, by rw [e]; exact SlOf.nilV, by rw [e]; exact Fresh.empty nilWalk, rfl⟩
 have hsk : substOk ar u = true := by simpa using h2
 have hsk2 := substOk_len hsk
 have hsk3 := (substOk_iff.1 hsk).2.1
 refine X.skip (X.seq (X.region (cX (XOp.loadN [uv] isAgg57 sizeOf57 rfl rfl (Rd.ownN [_] rfl rfl) (cX (XOp.fieldP (0) runUnderlying60 rfl sizeOf24 (by decide) rfl rfl (cX (XOp.load1 isAgg24 rfl (Rd.own [_, _] rfl rfl) (cX (XOp.call (args := [.agg #[uv], fv]) call82 rfl (fill_spec hu hf (hsl := (by first | assumption | rfl | omega | simp)) (hsb := (fun i => by have := hsk2 i; omega)) (htl := (by first | omega | (have := htk (by omega); omega))) (htg := (by first | (exact fun k hk => by have := hfg k hk; omega) | (exact fun j hj => by have := termOk_ge (hto (by omega)) hj; omega)))) ?_))))))))))
 rintro _ F1 _ le1 ⟨x1, rfl, hr1, hr2, rfl⟩
 replace hf := hf.mono le1
 replace hxs := hxs.mono le1
 replace hu := hu.mono le1
 refine XL.mv (.tuple #[x1, .bool ((fillL u f).isSome)]) rfl (cX (XOp.extract (x1) rfl rfl (cX (XOp.extract (.bool ((fillL u f).isSome)) rfl rfl (XL.as (x1) rfl (XL.as (.bool ((fillL u f).isSome)) rfl (XL.nil (X.seq (X.seq (X.region (XL.mv (.bool ((fillL u f).isSome)) rfl (cX (XOp.notB rfl (XL.nil ?_))))))))))))))
 refine X.cond (t := !((fillL u f).isSome)) rfl (fun h3 => ?_) (fun h3 => ?_)
 ·have hpf1 : (fillL u f).isSome = false := by simpa using h3
  refine X.seq (X.region (cX (XOp.build [(.slice none 0 0), (.slice none 0 0)] [(.slice none 0 0), (.slice none 0 0)] [(0, 1), (1, 1)] [] runUnderlying60 zeroValue60 rfl (.cons rfl sizeOf24 (.cons rfl sizeOf45 PlacesAre.nil)) rfl CellsAre.nil (cX (XOp.storeN [] _ [(.slice none 0 0), (.slice none 0 0)] sizeOf60 rfl rfl rfl (ones_cons rfl (ones_cons rfl ones_nil)) rfl rfl rfl (XL.as (.bool (false)) rfl (XL.nil (X.ret (thenQ_ret (retEnd (L' := L) [.agg #[(.slice none 0 0), (.slice none 0 0)], .bool (false)] (.tuple #[.agg #[(.slice none 0 0), (.slice none 0 0)], .bool (false)]) (.cell rfl (loadNV [(.slice none 0 0), (.slice none 0 0)] isAgg60 sizeOf60 rfl (Rd.ownN [] rfl rfl)) (.tmp rfl .nil)) rfl le1 rF (sD (sD (sD (sD sR)))) ?_))))))))))
  have e : undB ar rs f xs u = ([], [], false) := undB_from hpf1
  exact ⟨_, _, by rw [e], by rw [e]; exact IntsF.nilV, by rw [e]; exact SlOf.nilV, by rw [e]; exact Fresh.empty nilWalk, rfl⟩
 have hpf1 : (fillL u f).isSome = true := by simpa using h3
 refine X.skip (X.seq (X.region (XL.mv (x1) rfl (cX (XOp.build [x1, (.slice none 0 0)] [(.slice none 0 0), (.slice none 0 0)] [(0, 1), (1, 1)] [(0, [x1])] runUnderlying60 zeroValue60 rfl (.cons rfl sizeOf24 (.cons rfl sizeOf45 PlacesAre.nil)) rfl (.cons (cells_one (IntsF.isSl hr1)) CellsAre.nil) (cX (XOp.alloc [(.slice none 0 0), (.slice none 0 0)] zeroValue60 rfl ?_)))))))
 intro b5
 refine cX (XOp.storeN [] _ [x1, (.slice none 0 0)] sizeOf60 rfl rfl rfl (ones_cons (one_sl (IntsF.isSl hr1)) (ones_cons rfl ones_nil)) rfl rfl rfl (XL.nil (X.seq (X.region (cX (XOp.fieldP (0) runUnderlying60 rfl sizeOf24 (by decide) rfl rfl (cX (XOp.load1 isAgg24 rfl (Rd.own [_, _, _] rfl rfl) (XL.as (fv) rfl (XL.nil (X.seq (X.seq (X.region (cX (XOp.fieldP (1) runUnderlying60 rfl sizeOf45 (by decide) rfl rfl (cX (XOp.load1 isAgg45 rfl (Rd.own [_, _, _] rfl rfl) (cX (XOp.lenS runUnderlying45 rfl hxs.slv (XL.mv (.int .i64 (0)) rfl ?_))))))))))))))))))))
 refine XL.nil (X.block (X.loop (α := Nat × Value × List Int × Value × List StepT × List Value × List HP × Nat × FH) (fun xQ => [(5, ptr b3 0), (6, ptr b4 0), (10, ptr b5 0), (11, xQ.2.1), (43, xsv), (44, .int .i64 ((xs.length : Int))), (45, .int .i64 (((xQ.1 : Nat) : Int)))]) (fun xQ => slH 48 3 xQ.2.2.2.1 xQ.2.2.2.2.2.2.2.1 xQ.2.2.2.2.2.1 :: cellsH b5 [x1, xQ.2.2.2.1] 60 :: cellsH b4 [(.slice none 0 0), (.slice none 0 0)] 60 :: cellsH b3 [uv] 57 :: cellsH b2 [fv, xsv] 60 :: cellsH b1 [arv, rsv] 29 :: L) (fun xQ F' => xQ.2.2.2.2.2.2.2.2 = F' ∧ F1 ≤ xQ.2.2.2.2.2.2.2.2 ∧ (IntsF xQ.2.2.2.2.2.2.2.2 xQ.2.1 xQ.2.2.1) ∧ (xQ.1 ≤ xs.length) ∧ (xQ.2.2.1 = nowL f xs xQ.1) ∧ (IsSl xQ.2.2.2.1) ∧ (StepsC xQ.2.2.2.2.2.2.2.2 xQ.2.2.2.2.2.1 xQ.2.2.2.2.1) ∧ (xQ.2.2.2.2.2.2.2.1 = xQ.2.2.2.2.1.length) ∧ (DeepL 3 (StepO 2) xQ.2.2.2.2.2.1 xQ.2.2.2.2.1 xQ.2.2.2.2.2.2.1) ∧ (Fresh F1 xQ.2.2.2.2.2.2.2.2 (star xQ.2.2.2.2.2.2.1)) ∧ (undGo u f xs = (undGo u xQ.2.2.1 (xs.drop xQ.1)).map (fun r => xQ.2.2.2.2.1 ++ r)) ∧ (xQ.2.2.2.2.2.2.2.1 = xQ.1)) (fun xQ => xs.length - xQ.1) (0, fv, f, (.slice none 0 0), [], [], [], 0, F1) ⟨rfl, rfl, rfl, rfl, rfl, rfl, rfl, trivial⟩ (Sub.trans (Sub.addNil 48 3 _ _) (sC (sC (sC (sC (sC (sC sR))))))) ⟨rfl, FLe.refl _, (hf), (by (try dsimp only) <;> omega), (nowL_zero.symm), (⟨_, _, _, rfl⟩), (CO.nil), (rfl), (DeepL.nil), (Fresh.nilL), (undGo_start), (rfl)⟩ ?_))
 rintro ⟨k, cv, cur, sv, ss, cs, Ls, m, G1⟩ rE _ _ ⟨rfl, leG, hcv, hk, hnow, hsv, hC, hm, hD, hZ, hgo, hmk⟩
 show X _ _ _ _ (envs [(5, ptr b3 0), (6, ptr b4 0), (10, ptr b5 0), (11, cv), (43, xsv), (44, .int .i64 ((xs.length : Int))), (45, .int .i64 ((k : Int)))] rE) _ (slH 48 3 sv m cs :: cellsH b5 [x1, sv] 60 :: cellsH b4 [(.slice none 0 0), (.slice none 0 0)] 60 :: cellsH b3 [uv] 57 :: cellsH b2 [fv, xsv] 60 :: cellsH b1 [arv, rsv] 29 :: L)
 replace leG : F1 ≤ G1 := leG
 dsimp only at hcv hk hnow hsv hC hm hD hZ hgo hmk
 have hak := fun (h : k < xs.length) => walkOk_at2 hwk h hnow
 have hto := fun (h : k < xs.length) => walkOk_to hwk h
 have htk := fun (h : k < xs.length) => termOk_len (walkOk_to hwk h)
 have hno := now_ok hwk hk hnow
 have hnl := termOk_len hno
 have leG1 := leG
 replace hxs := hxs.mono leG1
 replace hu := hu.mono leG1
 replace hr1 := hr1.mono leG1
 refine X.seq (X.region (cX (XOp.lss rfl rfl (XL.nil (X.seq ?_)))))
 refine X.condD (p := (k : Int) < (xs.length : Int)) rfl (fun h4 => ?_) (fun h4 => ?_)
 ·refine X.skip (X.seq (X.block (X.seq (X.region (cX (XOp.indexS k runUnderlying45 sizeOf48 rfl rfl rfl hxs.slv (by omega) rfl ?_))))))
  obtain ⟨a1, ha1, hr3, hr4, hr5⟩ := hxs.rd (i := k) (by omega)
  refine cX (XOp.loadN [.int .i64 ((xs.getD k (0, 0, [])).1), .int .i64 ((xs.getD k (0, 0, [])).2.1), a1] isAgg48 sizeOf48 rfl rfl (Rd.three (hr3 _) (hr4 _) (hr5 _)) (cX (XOp.alloc [.int .i64 (0), .int .i64 (0), (.slice none 0 0)] zeroValue48 rfl ?_)))
  intro b6
  refine cX (XOp.storeN [] _ [.int .i64 ((xs.getD k (0, 0, [])).1), .int .i64 ((xs.getD k (0, 0, [])).2.1), a1] sizeOf48 rfl rfl rfl (ones_cons rfl (ones_cons rfl (ones_cons (one_sl (IntsF.isSl ha1)) ones_nil))) rfl rfl rfl (XL.nil (X.seq (X.region (cX (XOp.loadN [uv] isAgg57 sizeOf57 rfl rfl (Rd.ownN [_, _, _, _] rfl rfl) (cX (XOp.fieldP (2) runUnderlying48 rfl sizeOf24 (by decide) rfl rfl (cX (XOp.load1 isAgg24 rfl (Rd.own [] rfl rfl) (cX (XOp.call (args := [.agg #[uv], a1]) call82 rfl (fill_spec hu ha1 (hsl := (by first | assumption | rfl | omega | simp)) (hsb := (fun i => by have := hsk2 i; omega)) (htl := (by first | omega | (have := htk (by omega); omega))) (htg := (by first | (exact fun k hk => by have := hfg k hk; omega) | (exact fun j hj => by have := termOk_ge (hto (by omega)) hj; omega)))) ?_))))))))))))
  rintro _ F2 _ le2 ⟨x2, rfl, hr6, hr7, rfl⟩
  replace hu := hu.mono le2
  replace hr1 := hr1.mono le2
  replace hcv := hcv.mono le2
  replace hC := hC.mono le2
  replace ha1 := ha1.mono le2
  refine XL.mv (.tuple #[x2, .bool ((fillL u ((xs.getD k (0, 0, [])).2.2)).isSome)]) rfl (cX (XOp.extract (x2) rfl rfl (cX (XOp.extract (.bool ((fillL u ((xs.getD k (0, 0, [])).2.2)).isSome)) rfl rfl (XL.as (x2) rfl (XL.as (.bool ((fillL u ((xs.getD k (0, 0, [])).2.2)).isSome)) rfl (XL.nil (X.seq (X.seq (X.region (XL.mv (.bool ((fillL u ((xs.getD k (0, 0, [])).2.2)).isSome)) rfl (cX (XOp.notB rfl (XL.nil ?_))))))))))))))
  refine X.cond (t := !((fillL u ((xs.getD k (0, 0, [])).2.2)).isSome)) rfl (fun h5 => ?_) (fun h5 => ?_)
  ·have hpu1 : (fillL u (xs.getD k (0, 0, [])).2.2).isSome = false := by simpa using h5
   refine X.seq (X.region (cX (XOp.build [(.slice none 0 0), (.slice none 0 0)] [(.slice none 0 0), (.slice none 0 0)] [(0, 1), (1, 1)] [] runUnderlying60 zeroValue60 rfl (.cons rfl sizeOf24 (.cons rfl sizeOf45 PlacesAre.nil)) rfl CellsAre.nil (cX (XOp.storeN [_, _, _] _ [(.slice none 0 0), (.slice none 0 0)] sizeOf60 rfl rfl rfl (ones_cons rfl (ones_cons rfl ones_nil)) rfl rfl rfl (XL.as (.bool (false)) rfl (XL.nil (X.ret (thenQ_ret (blockQ_ret (thenQ_ret (thenQ_ret (blockQ_ret (thenQ_ret (retEnd (L' := L) [.agg #[(.slice none 0 0), (.slice none 0 0)], .bool (false)] (.tuple #[.agg #[(.slice none 0 0), (.slice none 0 0)], .bool (false)]) (.cell rfl (loadNV [(.slice none 0 0), (.slice none 0 0)] isAgg60 sizeOf60 rfl (Rd.ownN [_, _, _] rfl rfl)) (.tmp rfl .nil)) rfl (FLe.trans (FLe.trans le1 leG1) le2) rF (sD (sD (sD (sD (sD (sD (sD sR))))))) ?_)))))))))))))))
   have e : undB ar rs f xs u = ([], [], false) := undB_steps (undGo_fail (by omega) hgo hpu1)
   exact ⟨_, _, by rw [e], by rw [e]; exact IntsF.nilV, by rw [e]; exact SlOf.nilV, by rw [e]; exact Fresh.empty nilWalk, rfl⟩
  have hpu1 : (fillL u (xs.getD k (0, 0, [])).2.2).isSome = true := by simpa using h5
  refine X.skip (X.seq ?_)
  refine X.draw [cellsH b6 [.int .i64 ((xs.getD k (0, 0, [])).1), .int .i64 ((xs.getD k (0, 0, [])).2.1), a1] 48, slH 48 3 sv m cs, cellsH b5 [x1, sv] 60, cellsH b4 [(.slice none 0 0), (.slice none 0 0)] 60, cellsH b3 [uv] 57, cellsH b2 [fv, xsv] 60, cellsH b1 [arv, rsv] 29] L 12 [[], [], [], [], [], [], [], [], [], [], [], []] [[], [0], [], [], [], [4], [2, 3, 5], [], [7], [], [6, 8, 9], [10]] (phiL [fun us v => v = ptr b5 1, fun us v => v = sv, fun us v => v = (.agg #[uv] : Value), fun us v => v = cv, fun us v => v = ptr b6 0, fun us v => v = (.int .i64 ((xs.getD k (0, 0, [])).1) : Value), fun us v => v = (.int .i64 (((movedL u cur (((xs.getD k (0, 0, [])).1).toNat) : Nat) : Int)) : Value), fun us v => v = ptr b6 1, fun us v => v = (.int .i64 ((xs.getD k (0, 0, [])).2.1) : Value), fun us v => v = x2, fun us v => v = (.agg #[.int .i64 (((movedL u cur (((xs.getD k (0, 0, [])).1).toNat) : Nat) : Int)), .int .i64 ((xs.getD k (0, 0, [])).2.1), x2] : Value), fun us v => ∃ b, v = .slice (some ⟨b, 0, none⟩) 1 1]) (ownL [fun us v => [], fun us v => [], fun us v => [], fun us v => [], fun us v => [], fun us v => [], fun us v => [], fun us v => [], fun us v => [], fun us v => [], fun us v => [], fun us v => [slH 48 3 v 1 [.int .i64 (((movedL u cur (((xs.getD k (0, 0, [])).1).toNat) : Nat) : Int)), .int .i64 ((xs.getD k (0, 0, [])).2.1), x2]]]) mixed rfl rfl (by kernel_rfl) ?_ ?_
  ·refine pC (fun vals R hpZ => ?_) ?_
   ·refine XG.op (XOp.fieldP (1) runUnderlying60 rfl sizeOf45 (by decide) rfl rfl ?_)
    exact ⟨rfl, rfl, rfl⟩
   refine pC (fun vals R hpZ => ?_) ?_
   ·rw [eS (l := [(0, ptr b5 1)]) ⟨hpZ 0 (by decide), trivial⟩]
    refine XG.op (XOp.load1 isAgg45 rfl (Rd.own [_, _] rfl rfl) ?_)
    exact ⟨rfl, rfl, rfl⟩
   refine pC (fun vals R hpZ => ?_) ?_
   ·refine XG.op (XOp.loadN [uv] isAgg57 sizeOf57 rfl rfl (Rd.ownN [_, _, _, _] rfl rfl) ?_)
    exact ⟨rfl, rfl, rfl⟩
   refine pC (fun vals R hpZ => ?_) ?_
   ·refine XG.op (XOp.move (cv) rfl ?_)
    exact ⟨rfl, rfl, rfl⟩
   refine pC (fun vals R hpZ => ?_) ?_
   ·refine XG.op (XOp.fieldP (0) runUnderlying48 rfl sizeOf2 (by decide) rfl rfl ?_)
    exact ⟨rfl, rfl, rfl⟩
   refine pC (fun vals R hpZ => ?_) ?_
   ·rw [eS (l := [(4, ptr b6 0)]) ⟨hpZ 4 (by decide), trivial⟩]
    refine XG.op (XOp.load1 isAgg2 rfl (Rd.own [] rfl rfl) ?_)
    exact ⟨rfl, rfl, rfl⟩
   refine pC (fun vals R hpZ => ?_) ?_
   ·rw [eS (l := [(2, (.agg #[uv] : Value)), (3, cv), (5, (.int .i64 ((xs.getD k (0, 0, [])).1) : Value))]) ⟨hpZ 2 (by decide), hpZ 3 (by decide), hpZ 5 (by decide), trivial⟩]
    refine XG.op (XOp.call (args := [.agg #[uv], cv, .int .i64 ((((xs.getD k (0, 0, [])).1).toNat : Nat) : Int)]) call102 (by rw [show ((((xs.getD k (0, 0, [])).1).toNat : Nat) : Int) = (xs.getD k (0, 0, [])).1 from by omega]; rfl) (placeUnder_spec (p := ((xs.getD k (0, 0, [])).1).toNat) hu hcv (hp := (by have := hak (by omega); omega)) (hsl := (by first | assumption | rfl | omega | simp)) (hsb := (hsk2)) (htl := (by first | assumption | rfl | omega | simp)) (htg := (fun k hk => termOk_ge hno hk))) ?_)
    rintro _ _ _ _ ⟨rfl, rfl, rfl⟩
    exact ⟨rfl, rfl, rfl⟩
   refine pC (fun vals R hpZ => ?_) ?_
   ·refine XG.op (XOp.fieldP (1) runUnderlying48 rfl sizeOf2 (by decide) rfl rfl ?_)
    exact ⟨rfl, rfl, rfl⟩
   refine pC (fun vals R hpZ => ?_) ?_
   ·rw [eS (l := [(7, ptr b6 1)]) ⟨hpZ 7 (by decide), trivial⟩]
    refine XG.op (XOp.load1 isAgg2 rfl (Rd.own [] rfl rfl) ?_)
    exact ⟨rfl, rfl, rfl⟩
   refine pC (fun vals R hpZ => ?_) ?_
   ·refine XG.op (XOp.move (x2) rfl ?_)
    exact ⟨rfl, rfl, rfl⟩
   refine pC (fun vals R hpZ => ?_) ?_
   ·rw [eS (l := [(6, (.int .i64 (((movedL u cur (((xs.getD k (0, 0, [])).1).toNat) : Nat) : Int)) : Value)), (8, (.int .i64 ((xs.getD k (0, 0, [])).2.1) : Value)), (9, x2)]) ⟨hpZ 6 (by decide), hpZ 8 (by decide), hpZ 9 (by decide), trivial⟩]
    refine XG.op (XOp.build [.int .i64 (((movedL u cur (((xs.getD k (0, 0, [])).1).toNat) : Nat) : Int)), .int .i64 ((xs.getD k (0, 0, [])).2.1), x2] [.int .i64 (0), .int .i64 (0), (.slice none 0 0)] [(0, 1), (1, 1), (2, 1)] [(0, [.int .i64 (((movedL u cur (((xs.getD k (0, 0, [])).1).toNat) : Nat) : Int))]), (1, [.int .i64 ((xs.getD k (0, 0, [])).2.1)]), (2, [x2])] runUnderlying48 zeroValue48 rfl (.cons rfl sizeOf2 (.cons rfl sizeOf2 (.cons rfl sizeOf24 PlacesAre.nil))) rfl (.cons rfl (.cons rfl (.cons (cells_one (IntsF.isSl hr6)) CellsAre.nil))) ?_)
    exact ⟨rfl, rfl, rfl⟩
   refine pC (fun vals R hpZ => ?_) ?_
   ·rw [eS (l := [(10, (.agg #[.int .i64 (((movedL u cur (((xs.getD k (0, 0, [])).1).toNat) : Nat) : Int)), .int .i64 ((xs.getD k (0, 0, [])).2.1), x2] : Value))]) ⟨hpZ 10 (by decide), trivial⟩]
    refine XG.op (XOp.buildSlice (s := 3) [.int .i64 (((movedL u cur (((xs.getD k (0, 0, [])).1).toNat) : Nat) : Int)), .int .i64 ((xs.getD k (0, 0, [])).2.1), x2] [.int .i64 (0), .int .i64 (0), (.slice none 0 0)] [(0, [.int .i64 (((movedL u cur (((xs.getD k (0, 0, [])).1).toNat) : Nat) : Int)), .int .i64 ((xs.getD k (0, 0, [])).2.1), x2])] runUnderlying45 sizeOf48 zeroValue48 rfl (by decide) rfl (.cons rfl CellsAre.nil) rfl ?_)
    intro v2 hv2
    exact ⟨rfl, hv2, rfl⟩
   exact stepsP.nil
  intro vals hphi
  have f11 : ∃ b, (vals 11) = .slice (some ⟨b, 0, none⟩) 1 1 := hphi 11 (by decide)
  generalize hu11 : vals 11 = u1 at f11
  rw [eS (l := [(1, sv), (11, u1)]) ⟨(hphi 1 (by decide)), hu11, trivial⟩]
  show XL _ _ _ _ _ _ _ (slH 48 3 u1 1 [.int .i64 (((movedL u cur (((xs.getD k (0, 0, [])).1).toNat) : Nat) : Int)), .int .i64 ((xs.getD k (0, 0, [])).2.1), x2] :: cellsH b6 [.int .i64 ((xs.getD k (0, 0, [])).1), .int .i64 ((xs.getD k (0, 0, [])).2.1), a1] 48 :: slH 48 3 sv m cs :: cellsH b5 [x1, sv] 60 :: cellsH b4 [(.slice none 0 0), (.slice none 0 0)] 60 :: cellsH b3 [uv] 57 :: cellsH b2 [fv, xsv] 60 :: cellsH b1 [arv, rsv] 29 :: L)
  refine cX (XOp.append (m := 1) (bytes := 40) (cs := cs) [_, _] _ [.int .i64 (((movedL u cur (((xs.getD k (0, 0, [])).1).toNat) : Nat) : Int)), .int .i64 ((xs.getD k (0, 0, [])).2.1), x2] runUnderlying45 typeInfo48 rfl rfl rfl rfl rfl rfl rfl (SlV.own [] rfl) rfl (Rd.lit [] rfl) (ones_cons rfl (ones_cons rfl (ones_cons (one_sl (IntsF.isSl hr6)) ones_nil))) (by (try simp only [List.length_append, List.length_nil, List.length_cons, List.length_singleton]); omega) (by (try simp only [List.length_append, List.length_nil, List.length_cons, List.length_singleton]); omega) ?_)
  intro v3 hs1 hn1 hm1
  have hc1 := StepsC.snoc hC (i := ((movedL u cur (((xs.getD k (0, 0, [])).1).toNat) : Nat) : Int)) (j := (xs.getD k (0, 0, [])).2.1) hr6
  refine cX (XOp.fieldP (1) runUnderlying60 rfl sizeOf45 (by decide) rfl rfl (cX (XOp.store1 [_, _, _] _ [x1, v3] sizeOf45 rfl rfl (one_sl hs1) rfl rfl rfl (XL.nil (X.region (cX (XOp.fieldP (2) runUnderlying48 rfl sizeOf24 (by decide) rfl rfl (cX (XOp.load1 isAgg24 rfl (Rd.own [_] rfl rfl) (XL.as (a1) rfl (XL.nil (X.region (cX (XOp.addR (((k + 1 : Nat) : Int)) rfl rfl (by omega) (by omega) (XL.mv (.int .i64 (((k + 1 : Nat) : Int))) rfl (XL.nil ?_))))))))))))))))
  exact ⟨(k + 1, a1, (xs.getD k (0, 0, [])).2.2, v3, ss ++ [(((movedL u cur (((xs.getD k (0, 0, [])).1).toNat) : Nat) : Int), (xs.getD k (0, 0, [])).2.1, (fillL u ((xs.getD k (0, 0, [])).2.2)).getD [])], cs ++ [.int .i64 (((movedL u cur (((xs.getD k (0, 0, [])).1).toNat) : Nat) : Int)), .int .i64 ((xs.getD k (0, 0, [])).2.1), x2], Ls ++ [intsH 2 x2 ((fillL u ((xs.getD k (0, 0, [])).2.2)).getD [])], (m) + 1, F2), _, (FLe.trans leG1 le2), rF, ⟨rfl, rfl, rfl, rfl, rfl, rfl, rfl, trivial⟩, (sD (sD (sC (sC (sC (sC (sC (sC sR)))))))), ⟨rfl, (FLe.trans leG1 le2), (ha1), (by (try dsimp only) <;> omega), (by (try dsimp only); exact (nowL_succ (by omega)).symm), (hs1), (hc1), (by (try dsimp only); rw [List.length_append]; simp only [List.length_singleton]; omega), (DeepL.snoc hD rfl ⟨_, rfl, rfl⟩), ((Fresh.app hZ leG1 (Fresh.one hr7) le2)), (by (try dsimp only); exact undGo_next (by omega) hgo hpu1), (by (try dsimp only) <;> omega)⟩, (by omega)⟩
 refine X.exit (thenQ_exit (thenQ_exit (blockQ_exit (X.seq (X.region (cX (XOp.loadN [x1, sv] isAgg60 sizeOf60 rfl rfl (Rd.ownN [_] rfl rfl) (cX (XOp.storeN [_, _] _ [x1, sv] sizeOf60 rfl rfl rfl (ones_cons (one_sl (IntsF.isSl hr1)) (ones_cons (one_sl hsv) ones_nil)) rfl rfl rfl (XL.as (.bool (true)) rfl (XL.nil (X.freezeF [] _ _ rfl (fun F3 le3 hz1 => ?_)))))))))))))
 replace hr1 := hr1.mono le3
 replace hC := hC.mono le3
 have hf1 : StepsF F3 sv ss := CO.fz hC (by first | rfl | omega | (rw [List.length_set]; omega) | (simp; done)) hz1.fz
 refine X.ret (retEnd (L' := L) [.agg #[x1, sv], .bool (true)] (.tuple #[.agg #[x1, sv], .bool (true)]) (.cell rfl (loadNV [x1, sv] isAgg60 sizeOf60 rfl (Rd.ownN [_] rfl rfl)) (.tmp rfl .nil)) rfl (FLe.trans (FLe.trans le1 leG1) le3) rF (sD (sD (sD (sD (sD sR))))) ?_)
 have e := undB_yes hwk hsk hpf1 (undGo_end (by omega) hgo)
 exact ⟨_, _, by rw [e], by rw [e]; exact hr1, by rw [e]; exact hf1, by rw [e]; exact (Fresh.app (Fresh.one hr2) le1 (Fresh.one (Fresh.deep hD hZ leG1 hz1 (by omega) le3)) (FLe.trans leG1 le3)), rfl⟩

/- spec.l7Moved -/
theorem l7Moved_spec {F : FH} {L : List HP} {sv : Value} {s : List (List Int)} (hs : RowsF F sv s) {tv : Value} {t : List Int} (ht : IntsF F tv t) {p : Nat} (hp : p ≤ t.length) (hsl : s.length ≤ 4000000) (hsb : ∀ i, (s.getD i []).length ≤ 60) (htl : t.length ≤ 60) (htg : ∀ k, k < t.length → -24 ≤ t.getD k 0) :
    Does prog 103 [.agg #[sv], tv, .int .i64 ((p : Int))] F (L) (fun v F' L' => (.int .i64 (((movedL s t p : Nat) : Int)) : Value) = v ∧ F = F' ∧ L = L') := by
 refine Does.of_X func103 rfl rfl rfl (X.seq (X.region (cX (XOp.box [sv] rfl rfl ?_))))
 intro b1
 refine XL.as (.int .i64 (0)) rfl (XL.nil (X.seq (X.region (XL.as (.int .i64 (0)) rfl (XL.nil (X.seq (X.seq (X.region (XL.as (.int .i64 (0)) rfl (XL.nil (X.block (X.loop (α := Nat) (fun k => [(1, tv), (2, .int .i64 ((p : Int))), (3, ptr b1 0), (7, .int .i64 (((movedL s t k : Nat) : Int))), (8, .int .i64 ((k : Int)))]) (fun k => cellsH b1 [sv] 57 :: L) (fun k F' => F = F' ∧ (k ≤ p)) (fun k => p - k) 0 ⟨rfl, rfl, rfl, rfl, rfl, trivial⟩ (sC sR) ⟨rfl, (by (try dsimp only) <;> omega)⟩ ?_))))))))))))
 rintro k rE _ _ ⟨rfl, hk⟩
 show X _ _ _ _ (envs [(1, tv), (2, .int .i64 ((p : Int))), (3, ptr b1 0), (7, .int .i64 (((movedL s t k : Nat) : Int))), (8, .int .i64 ((k : Int)))] rE) _ (cellsH b1 [sv] 57 :: L)
 have htk := htg k
 have hml := movedL_le (t := t) (s := s) (N := 60) (by omega) hsb k
 have hlk0 := lk_bound (N := 60) (by omega) hsb (-1 - (((-1 - t.getD k 0).toNat : Nat) : Int))
 refine X.seq (X.seq (X.region (XL.mv (.int .i64 ((k : Int))) rfl (XL.mv (.int .i64 ((p : Int))) rfl (cX (XOp.lss rfl rfl (XL.nil ?_)))))))
 refine X.condD (p := (k : Int) < (p : Int)) rfl (fun h1 => ?_) (fun h1 => ?_)
 ·refine X.skip (X.seq (X.block (X.seq (X.region (XL.mv (tv) rfl (XL.mv (.int .i64 ((k : Int))) rfl (cX (XOp.indexS k runUnderlying24 sizeOf2 rfl rfl rfl ht.slv (by omega) (Nat.mul_one _) (cX (XOp.load1 isAgg2 rfl (ht.rd (by omega)) (cX (XOp.lss rfl rfl (XL.nil ?_)))))))))))))
  refine X.condD (p := (t.getD k 0 : Int) < 0) rfl (fun h2 => ?_) (fun h2 => ?_)
  ·refine X.drawG [cellsH b1 [sv] 57] L 9 [[], [], [], [], [], [], [], [], []] [[], [], [], [], [2, 3], [4], [5], [1, 6], [7]] [[], [], [], [], [], [], [], [], []] (phiG [fun FF us v => v = (.int .i64 (((movedL s t k : Nat) : Int)) : Value), fun FF us v => v = (.agg #[sv] : Value), fun FF us v => v = tv, fun FF us v => v = (.int .i64 ((k : Int)) : Value), fun FF us v => v = (.pointer (some (elemA tv (k))) : Value), fun FF us v => v = (.int .i64 (t.getD k 0) : Value), fun FF us v => v = (.int .i64 ((-1) - (t.getD k 0)) : Value), fun FF us v => ((v) : Value) = v ∧ (IntsF FF (v) (lk s (-1 - ((((-1) - (t.getD k 0)).toNat) : Int)))), fun FF us v => v = (.int .i64 (((((lk s (-1 - ((((-1) - (t.getD k 0)).toNat) : Int)))).length : Nat) : Int)) : Value)]) (ownL [fun us v => [], fun us v => [], fun us v => [], fun us v => [], fun us v => [], fun us v => [], fun us v => [], fun us v => [], fun us v => []]) mixed rfl rfl (by kernel_rfl) (by kernel_rfl) (MonoG.get (mC (fun le h => h) (mC (fun le h => h) (mC (fun le h => h) (mC (fun le h => h) (mC (fun le h => h) (mC (fun le h => h) (mC (fun le h => h) (mC (fun le h => ⟨h.1, h.2.mono le⟩) (mC (fun le h => h) MonoG.nil)))))))))) ?_ ?_
   ·refine gC (fun vals Fs R leFs hpZ => ?_) ?_
    ·refine XG.op (XOp.move (.int .i64 (((movedL s t k : Nat) : Int))) rfl ?_)
     exact ⟨rfl, rfl⟩
    refine gC (fun vals Fs R leFs hpZ => ?_) ?_
    ·replace hs := hs.mono leFs
     replace ht := ht.mono leFs
     refine XG.op (XOp.loadN [sv] isAgg57 sizeOf57 rfl rfl (Rd.ownN [] rfl rfl) ?_)
     exact ⟨rfl, rfl⟩
    refine gC (fun vals Fs R leFs hpZ => ?_) ?_
    ·refine XG.op (XOp.move (tv) rfl ?_)
     exact ⟨rfl, rfl⟩
    refine gC (fun vals Fs R leFs hpZ => ?_) ?_
    ·refine XG.op (XOp.move (.int .i64 ((k : Int))) rfl ?_)
     exact ⟨rfl, rfl⟩
    refine gC (fun vals Fs R leFs hpZ => ?_) ?_
    ·replace hs := hs.mono leFs
     replace ht := ht.mono leFs
     rw [eS (l := [(2, tv), (3, (.int .i64 ((k : Int)) : Value))]) ⟨(hpZ 2 (by decide)), (hpZ 3 (by decide)), trivial⟩]
     refine XG.op (XOp.indexS k runUnderlying24 sizeOf2 rfl rfl rfl ht.slv (by omega) (Nat.mul_one _) ?_)
     exact ⟨rfl, rfl⟩
    refine gC (fun vals Fs R leFs hpZ => ?_) ?_
    ·replace hs := hs.mono leFs
     replace ht := ht.mono leFs
     rw [eS (l := [(4, (.pointer (some (elemA tv (k))) : Value))]) ⟨(hpZ 4 (by decide)), trivial⟩]
     refine XG.op (XOp.load1 isAgg2 rfl (ht.rd (by omega)) ?_)
     exact ⟨rfl, rfl⟩
    refine gC (fun vals Fs R leFs hpZ => ?_) ?_
    ·rw [eS (l := [(5, (.int .i64 (t.getD k 0) : Value))]) ⟨(hpZ 5 (by decide)), trivial⟩]
     refine XG.op (XOp.subR ((-1) - (t.getD k 0)) rfl rfl (by omega) (by omega) ?_)
     exact ⟨rfl, rfl⟩
    refine gC (fun vals Fs R leFs hpZ => ?_) ?_
    ·replace hs := hs.mono leFs
     rw [eS (l := [(1, (.agg #[sv] : Value)), (6, (.int .i64 ((-1) - (t.getD k 0)) : Value))]) ⟨(hpZ 1 (by decide)), (hpZ 6 (by decide)), trivial⟩]
     refine XG.op (XOp.frzF <| XOp.call (args := [.agg #[sv], .int .i64 ((((-1) - (t.getD k 0)).toNat : Nat) : Int)]) call132 (by rw [show ((((-1) - (t.getD k 0)).toNat : Nat) : Int) = (-1) - (t.getD k 0) from by omega]; rfl) (l2Gives_spec (i := ((-1) - (t.getD k 0)).toNat) hs (hsl := (by first | assumption | rfl | omega | simp)) (hi := (by first | assumption | rfl | omega | simp)) (hsb := (by have := hsb (-1 - t.getD k 0).toNat; omega))) ?_)
     rintro v2 _ _ _ ⟨rfl, hs2, rfl⟩
     refine ⟨_, _, rfl, fun F1 le1 hz1 => ?_⟩
     have hf1 : IntsF F1 v2 ((lk s (-1 - ((((-1) - (t.getD k 0)).toNat) : Int)))) := intsH.fz (xs := (lk s (-1 - ((((-1) - (t.getD k 0)).toNat) : Int)))) hz1.fz
     exact ⟨⟨rfl, hf1⟩, rfl⟩
    refine gC (fun vals Fs R leFs hpZ => ?_) ?_
    ·obtain ⟨e7, f7_1ha⟩ := hpZ 7 (by decide)
     rw [eS (l := [(7, ((vals 7)))]) ⟨(e7).symm, trivial⟩]
     refine XG.op (XOp.lenS runUnderlying24 rfl f7_1ha.slv ?_)
     exact ⟨rfl, rfl⟩
    exact stepsG.nil
   intro vals F2 le2 hphi
   obtain ⟨e7, f7_1ha⟩ := hphi 7 (by decide)
   generalize hu1 : ((vals 7)) = u1 at e7 f7_1ha
   rw [eS (l := [(0, (.int .i64 (((movedL s t k : Nat) : Int)) : Value)), (8, (.int .i64 (((((lk s (-1 - ((((-1) - (t.getD k 0)).toNat) : Int)))).length : Nat) : Int)) : Value))]) ⟨(hphi 0 (by decide)), (hphi 8 (by decide)), trivial⟩]
   show XL _ _ _ _ _ _ _ (cellsH b1 [sv] 57 :: L)
   refine cX (XOp.addR ((((movedL s t k) + (((lk s (-1 - ((((-1) - (t.getD k 0)).toNat) : Int)))).length) : Nat) : Int)) rfl rfl (by omega) (by omega) (XL.as (.int .i64 ((((movedL s t k) + (((lk s (-1 - ((((-1) - (t.getD k 0)).toNat) : Int)))).length) : Nat) : Int))) rfl (XL.nil (X.region (XL.mv (.int .i64 ((k : Int))) rfl (cX (XOp.addR (((k + 1 : Nat) : Int)) rfl rfl (by omega) (by omega) (XL.as (.int .i64 (((k + 1 : Nat) : Int))) rfl (XL.nil ?_)))))))))
   exact ⟨k + 1, _, FLe.refl _, le2, ⟨rfl, rfl, rfl, (congrArg (fun z : Nat => Value.int .i64 (z : Int)) (by rw [movedL_succ (by omega)]; first | (rw [lk_sym (by omega)]; rfl) | (rw [show (-1 - (((-1 - t.getD k 0).toNat : Nat) : Int)) = t.getD k 0 from by omega]))), rfl, trivial⟩, (sC sR), ⟨rfl, (by omega)⟩, (by omega)⟩
  refine X.region (XL.mv (.int .i64 (((movedL s t k : Nat) : Int))) rfl (cX (XOp.addR ((((movedL s t k) + 1 : Nat) : Int)) rfl rfl (by omega) (by omega) (XL.as (.int .i64 ((((movedL s t k) + 1 : Nat) : Int))) rfl (XL.nil (X.region (XL.mv (.int .i64 ((k : Int))) rfl (cX (XOp.addR (((k + 1 : Nat) : Int)) rfl rfl (by omega) (by omega) (XL.as (.int .i64 (((k + 1 : Nat) : Int))) rfl (XL.nil ?_)))))))))))
  exact ⟨k + 1, _, FLe.refl _, rF, ⟨rfl, rfl, rfl, (congrArg (fun z : Nat => Value.int .i64 (z : Int)) (by rw [movedL_succ (by omega)]; first | (rw [lk_sym (by omega)]; rfl) | (rw [show (-1 - (((-1 - t.getD k 0).toNat : Nat) : Int)) = t.getD k 0 from by omega]))), rfl, trivial⟩, (sC sR), ⟨rfl, (by omega)⟩, (by omega)⟩
 refine X.exit (thenQ_exit (thenQ_exit (blockQ_exit (X.seq (X.region (XL.mv (.int .i64 (((movedL s t k : Nat) : Int))) rfl (XL.as (.int .i64 (((movedL s t k : Nat) : Int))) rfl (XL.nil (X.ret (retEnd (L' := L) [.int .i64 (((movedL s t k : Nat) : Int))] (.int .i64 (((movedL s t k : Nat) : Int))) (.tmp rfl .nil) rfl rF rF (sD sR) ?_))))))))))
 exact ⟨(vI (by rw [show k = p from by omega])), rfl, rfl⟩

/- spec.WalkUnder -/
theorem sWalkUnder_spec {F : FH} {L : List HP} {arv : Value} {ar : List Int} (har : IntsF F arv ar) {rsv : Value} {rs : List (List Int × List Int)} (hrs : PairsF F rsv rs) {fv : Value} {f : List Int} (hf : IntsF F fv f) {xsv : Value} {xs : List StepT} (hxs : StepsF F xsv xs) {uv : Value} {u : List (List Int)} (hu : RowsF F uv u) (hla : ar.length ≤ 4000000) (hlr : rs.length ≤ 4000000) (hrb : ∀ i, i < rs.length → (rs.getD i ([], [])).1.length ≤ 4000000 ∧ (rs.getD i ([], [])).2.length ≤ 4000000) (hlf : f.length ≤ 4000000) (hlss : xs.length ≤ 4000000) (hsb : ∀ i, i < xs.length → (xs.getD i (0, 0, [])).2.2.length ≤ 4000000) (hlrow : u.length ≤ 4000000) (hrowb : ∀ i, i < u.length → (u.getD i []).length ≤ 4000000) :
    Does prog 47 [.agg #[arv, rsv], .agg #[fv, xsv], .agg #[uv]] F (L) (fun v F' L' => ∃ (a : Value), ∃ (b : Value), (.tuple #[.agg #[a, b], .bool ((undB ar rs f xs u).2.2)] : Value) = v ∧ (IntsF F' a (undB ar rs f xs u).1) ∧ (StepsF F' b (undB ar rs f xs u).2.1) ∧ L = L') := by
 refine Does.of_X func47 rfl rfl rfl (X.seq (X.region (cX (XOp.box [arv, rsv] rfl rfl ?_))))
 intro b1
 refine cX (XOp.box [fv, xsv] rfl rfl ?_)
 intro b2
 refine cX (XOp.box [uv] rfl rfl ?_)
 intro b3
 refine cX (XOp.alloc [(.slice none 0 0), (.slice none 0 0)] zeroValue60 rfl ?_)
 intro b4
 refine XL.as (.bool (false)) rfl (XL.nil (X.seq (X.seq (X.region (cX (XOp.loadN [arv, rsv] isAgg29 sizeOf29 rfl rfl (Rd.ownN [_, _, _] rfl rfl) (cX (XOp.loadN [fv, xsv] isAgg60 sizeOf60 rfl rfl (Rd.ownN [_, _] rfl rfl) (cX (XOp.call (args := [.agg #[arv, rsv], .agg #[fv, xsv]]) call42 rfl (sWalkOk_spec har hrs hf hxs (hla := (by first | assumption | rfl | omega | simp)) (hlr := (by first | assumption | rfl | omega | simp)) (hrb := (by first | assumption | rfl | omega | simp)) (hlf := (by first | assumption | rfl | omega | simp)) (hlss := (by first | assumption | rfl | omega | simp)) (hsb := (by first | assumption | rfl | omega | simp))) ?_))))))))))
 rintro _ _ _ _ ⟨rfl, rfl, rfl⟩
 refine cX (XOp.notB rfl (XL.mv (.bool (!(walkOkL ar rs f xs))) rfl ?_))
 by_cases h1 : (!(walkOkL ar rs f xs)) = true
 ·refine XL.no (t := 19) rfl (vB h1) (XL.no (t := 19) rfl (vB h1) (XL.no (t := 19) rfl (vB h1) (XL.no (t := 19) rfl (vB h1) (XL.no (t := 19) rfl (vB h1) (cX (XOp.pickT (.bool (true)) (vB h1) rfl (XL.nil (X.condT rfl (X.seq (X.region (cX (XOp.build [(.slice none 0 0), (.slice none 0 0)] [(.slice none 0 0), (.slice none 0 0)] [(0, 1), (1, 1)] [] runUnderlying60 zeroValue60 rfl (.cons rfl sizeOf24 (.cons rfl sizeOf45 PlacesAre.nil)) rfl CellsAre.nil ?_))))))))))))
  refine cX (XOp.storeN [] _ [(.slice none 0 0), (.slice none 0 0)] sizeOf60 rfl rfl rfl (ones_cons rfl (ones_cons rfl ones_nil)) rfl rfl rfl (XL.as (.bool (false)) rfl (XL.nil (X.ret (thenQ_ret (retEnd (L' := L) [.agg #[(.slice none 0 0), (.slice none 0 0)], .bool (false)] (.tuple #[.agg #[(.slice none 0 0), (.slice none 0 0)], .bool (false)]) (.cell rfl (loadNV [(.slice none 0 0), (.slice none 0 0)] isAgg60 sizeOf60 rfl (Rd.ownN [] rfl rfl)) (.tmp rfl .nil)) rfl rF rF (sD (sD (sD (sD sR)))) ?_))))))
  have e : undB ar rs f xs u = ([], [], false) := undB_no (by simp_all)
  exact ⟨_, _, by rw [e], by rw [e]; exact IntsF.nilV, by rw [e]; exact SlOf.nilV, rfl⟩
 rw [Bool.not_eq_true] at h1
 have hwk : walkOkL ar rs f xs = true := by simpa using h1
 have hwl := (walkOkL_iff.1 hwk).2.1
 have hfo := (right_iff.1 (walkOkL_iff.1 hwk).1).2
 have hfl := termOk_len hfo
 have hfg := fun k (hk : k < f.length) => termOk_ge hfo hk
 refine XL.yes (t := 19) rfl (vB h1) (XOp.fieldP (0) runUnderlying29 rfl sizeOf26 (by decide) rfl rfl (XL.yes (t := 19) rfl (vB h1) (XOp.loadN [arv] isAgg26 sizeOf26 rfl rfl (Rd.ownN [_, _, _] rfl rfl) (XL.yes (t := 19) rfl (vB h1) (XOp.loadN [uv] isAgg57 sizeOf57 rfl rfl (Rd.ownN [_] rfl rfl) (XL.yes (t := 19) rfl (vB h1) (XOp.call (args := [.agg #[arv], .agg #[uv]]) call86 rfl (sSubstOk_spec har hu (hla := (by first | assumption | rfl | omega | simp)) (hsl := (by first | assumption | rfl | omega | simp)) (hsb := (by first | assumption | rfl | omega | simp))) ?_)))))))
 rintro _ _ _ _ ⟨rfl, rfl, rfl⟩
 refine XL.yes (t := 19) rfl (vB h1) (XOp.notB rfl (cX (XOp.pickF (.bool (!(substOk ar u))) (vB h1) rfl (XL.nil ?_))))
 refine X.cond (t := !(substOk ar u)) rfl (fun h2 => ?_) (fun h2 => ?_)
 ·refine X.seq (X.region (cX (XOp.build [(.slice none 0 0), (.slice none 0 0)] [(.slice none 0 0), (.slice none 0 0)] [(0, 1), (1, 1)] [] runUnderlying60 zeroValue60 rfl (.cons rfl sizeOf24 (.cons rfl sizeOf45 PlacesAre.nil)) rfl CellsAre.nil (cX (XOp.storeN [] _ [(.slice none 0 0), (.slice none 0 0)] sizeOf60 rfl rfl rfl (ones_cons rfl (ones_cons rfl ones_nil)) rfl rfl rfl (XL.as (.bool (false)) rfl (XL.nil (X.ret (thenQ_ret (retEnd (L' := L) [.agg #[(.slice none 0 0), (.slice none 0 0)], .bool (false)] (.tuple #[.agg #[(.slice none 0 0), (.slice none 0 0)], .bool (false)]) (.cell rfl (loadNV [(.slice none 0 0), (.slice none 0 0)] isAgg60 sizeOf60 rfl (Rd.ownN [] rfl rfl)) (.tmp rfl .nil)) rfl rF rF (sD (sD (sD (sD sR)))) ?_))))))))))
  have e : undB ar rs f xs u = ([], [], false) := undB_no (by simp_all)
  exact ⟨_, _, by rw [e], by rw [e]; exact IntsF.nilV, by rw [e]; exact SlOf.nilV, rfl⟩
 have hsk : substOk ar u = true := by simpa using h2
 have hsk2 := substOk_len hsk
 have hsk3 := (substOk_iff.1 hsk).2.1
 refine X.skip (X.seq (X.region (cX (XOp.loadN [uv] isAgg57 sizeOf57 rfl rfl (Rd.ownN [_] rfl rfl) (cX (XOp.fieldP (0) runUnderlying60 rfl sizeOf24 (by decide) rfl rfl (cX (XOp.load1 isAgg24 rfl (Rd.own [_, _] rfl rfl) (cX (XOp.call (args := [.agg #[uv], fv]) call84 rfl (l2Filled_spec hu hf (hsl := (by first | assumption | rfl | omega | simp)) (hsb := (fun i => by have := hsk2 i; omega)) (htl := (by first | omega | (have := htk (by omega); omega))) (htg := (by first | (exact fun k hk => by have := hfg k hk; omega) | (exact fun j hj => by have := termOk_ge (hto (by omega)) hj; omega)))) ?_))))))))))
 rintro _ F1 _ le1 ⟨x1, rfl, hr1, rfl⟩
 replace har := har.mono le1
 replace hf := hf.mono le1
 replace hxs := hxs.mono le1
 replace hu := hu.mono le1
 refine XL.mv (.tuple #[x1, .bool ((fillL u f).isSome)]) rfl (cX (XOp.extract (x1) rfl rfl (cX (XOp.extract (.bool ((fillL u f).isSome)) rfl rfl (XL.as (x1) rfl (XL.as (.bool ((fillL u f).isSome)) rfl (XL.nil (X.seq (X.seq (X.region (XL.mv (.bool ((fillL u f).isSome)) rfl (cX (XOp.notB rfl (XL.nil ?_))))))))))))))
 refine X.cond (t := !((fillL u f).isSome)) rfl (fun h3 => ?_) (fun h3 => ?_)
 ·have hpf1 : (fillL u f).isSome = false := by simpa using h3
  refine X.seq (X.region (cX (XOp.build [(.slice none 0 0), (.slice none 0 0)] [(.slice none 0 0), (.slice none 0 0)] [(0, 1), (1, 1)] [] runUnderlying60 zeroValue60 rfl (.cons rfl sizeOf24 (.cons rfl sizeOf45 PlacesAre.nil)) rfl CellsAre.nil (cX (XOp.storeN [] _ [(.slice none 0 0), (.slice none 0 0)] sizeOf60 rfl rfl rfl (ones_cons rfl (ones_cons rfl ones_nil)) rfl rfl rfl (XL.as (.bool (false)) rfl (XL.nil (X.ret (thenQ_ret (retEnd (L' := L) [.agg #[(.slice none 0 0), (.slice none 0 0)], .bool (false)] (.tuple #[.agg #[(.slice none 0 0), (.slice none 0 0)], .bool (false)]) (.cell rfl (loadNV [(.slice none 0 0), (.slice none 0 0)] isAgg60 sizeOf60 rfl (Rd.ownN [] rfl rfl)) (.tmp rfl .nil)) rfl le1 rF (sD (sD (sD (sD sR)))) ?_))))))))))
  have e : undB ar rs f xs u = ([], [], false) := undB_from hpf1
  exact ⟨_, _, by rw [e], by rw [e]; exact IntsF.nilV, by rw [e]; exact SlOf.nilV, rfl⟩
 have hpf1 : (fillL u f).isSome = true := by simpa using h3
 refine X.skip (X.seq (X.region (XL.mv (x1) rfl (cX (XOp.build [x1, (.slice none 0 0)] [(.slice none 0 0), (.slice none 0 0)] [(0, 1), (1, 1)] [(0, [x1])] runUnderlying60 zeroValue60 rfl (.cons rfl sizeOf24 (.cons rfl sizeOf45 PlacesAre.nil)) rfl (.cons (cells_one (IntsF.isSl hr1)) CellsAre.nil) (cX (XOp.alloc [(.slice none 0 0), (.slice none 0 0)] zeroValue60 rfl ?_)))))))
 intro b5
 refine cX (XOp.storeN [] _ [x1, (.slice none 0 0)] sizeOf60 rfl rfl rfl (ones_cons (one_sl (IntsF.isSl hr1)) (ones_cons rfl ones_nil)) rfl rfl rfl (XL.nil (X.seq (X.region (cX (XOp.fieldP (0) runUnderlying60 rfl sizeOf24 (by decide) rfl rfl (cX (XOp.load1 isAgg24 rfl (Rd.own [_, _, _] rfl rfl) (XL.as (fv) rfl (XL.nil (X.seq (X.seq (X.region (XL.as (.int .i64 (0)) rfl (XL.nil (X.block (X.loop (α := Nat × Value × List Int × Value × List StepT × List Value × Nat × FH) (fun xQ => [(4, ptr b2 0), (5, ptr b3 0), (6, ptr b4 0), (10, ptr b5 0), (11, xQ.2.1), (12, .int .i64 (((xQ.1 : Nat) : Int)))]) (fun xQ => slH 48 3 xQ.2.2.2.1 xQ.2.2.2.2.2.2.1 xQ.2.2.2.2.2.1 :: cellsH b5 [x1, xQ.2.2.2.1] 60 :: cellsH b4 [(.slice none 0 0), (.slice none 0 0)] 60 :: cellsH b3 [uv] 57 :: cellsH b2 [fv, xsv] 60 :: cellsH b1 [arv, rsv] 29 :: L) (fun xQ F' => xQ.2.2.2.2.2.2.2 = F' ∧ F1 ≤ xQ.2.2.2.2.2.2.2 ∧ (IntsF xQ.2.2.2.2.2.2.2 xQ.2.1 xQ.2.2.1) ∧ (xQ.1 ≤ xs.length) ∧ (xQ.2.2.1 = nowL f xs xQ.1) ∧ (IsSl xQ.2.2.2.1) ∧ (StepsC xQ.2.2.2.2.2.2.2 xQ.2.2.2.2.2.1 xQ.2.2.2.2.1) ∧ (xQ.2.2.2.2.2.2.1 = xQ.2.2.2.2.1.length) ∧ (undGo u f xs = (undGo u xQ.2.2.1 (xs.drop xQ.1)).map (fun r => xQ.2.2.2.2.1 ++ r)) ∧ (xQ.2.2.2.2.2.2.1 = xQ.1)) (fun xQ => xs.length - xQ.1) (0, fv, f, (.slice none 0 0), [], [], 0, F1) ⟨rfl, rfl, rfl, rfl, rfl, rfl, trivial⟩ (Sub.trans (Sub.addNil 48 3 _ _) (sC (sC (sC (sC (sC (sC sR))))))) ⟨rfl, FLe.refl _, (hf), (by (try dsimp only) <;> omega), (nowL_zero.symm), (⟨_, _, _, rfl⟩), (CO.nil), (rfl), (undGo_start), (rfl)⟩ ?_)))))))))))))))))
 rintro ⟨k, cv, cur, sv, ss, cs, m, G1⟩ rE _ _ ⟨rfl, leG, hcv, hk, hnow, hsv, hC, hm, hgo, hmk⟩
 show X _ _ _ _ (envs [(4, ptr b2 0), (5, ptr b3 0), (6, ptr b4 0), (10, ptr b5 0), (11, cv), (12, .int .i64 ((k : Int)))] rE) _ (slH 48 3 sv m cs :: cellsH b5 [x1, sv] 60 :: cellsH b4 [(.slice none 0 0), (.slice none 0 0)] 60 :: cellsH b3 [uv] 57 :: cellsH b2 [fv, xsv] 60 :: cellsH b1 [arv, rsv] 29 :: L)
 replace leG : F1 ≤ G1 := leG
 dsimp only at hcv hk hnow hsv hC hm hgo hmk
 have hak := fun (h : k < xs.length) => walkOk_at2 hwk h hnow
 have hto := fun (h : k < xs.length) => walkOk_to hwk h
 have htk := fun (h : k < xs.length) => termOk_len (walkOk_to hwk h)
 have hno := now_ok hwk hk hnow
 have hnl := termOk_len hno
 have leG1 := leG
 replace har := har.mono leG1
 replace hxs := hxs.mono leG1
 replace hu := hu.mono leG1
 replace hr1 := hr1.mono leG1
 refine X.seq (X.seq (X.region (XL.mv (.int .i64 ((k : Int))) rfl (cX (XOp.fieldP (1) runUnderlying60 rfl sizeOf45 (by decide) rfl rfl (cX (XOp.load1 isAgg45 rfl (Rd.own [_, _, _, _] rfl rfl) (cX (XOp.lenS runUnderlying45 rfl hxs.slv (cX (XOp.lss rfl rfl (XL.nil ?_))))))))))))
 refine X.condD (p := (k : Int) < (xs.length : Int)) rfl (fun h4 => ?_) (fun h4 => ?_)
 ·refine X.skip (X.seq (X.block (X.seq ?_)))
  obtain ⟨a1, ha1, hr2, hr3, hr4⟩ := hxs.rd (i := k) (by omega)
  refine X.drawG [slH 48 3 sv m cs, cellsH b5 [x1, sv] 60, cellsH b4 [(.slice none 0 0), (.slice none 0 0)] 60, cellsH b3 [uv] 57, cellsH b2 [fv, xsv] 60, cellsH b1 [arv, rsv] 29] L 12 [[], [], [], [], [], [], [], [], [7], [7], [], [7]] [[], [], [1], [], [2, 3], [4], [5], [0, 6], [7], [7, 8], [7, 8], [7, 9]] [[], [], [], [], [], [], [], [], [], [], [], []] (phiG [fun FF us v => v = (.agg #[uv] : Value), fun FF us v => v = ptr b2 1, fun FF us v => v = xsv, fun FF us v => v = (.int .i64 ((k : Int)) : Value), fun FF us v => v = (.pointer (some (elemA xsv (k * 3))) : Value), fun FF us v => v = (.pointer (some (elemA xsv (k * 3 + 2))) : Value), fun FF us v => v = a1, fun FF us v => (.tuple #[((tupAt v 0)), .bool ((fillL u ((xs.getD k (0, 0, [])).2.2)).isSome)] : Value) = v ∧ (IntsF FF ((tupAt v 0)) ((fillL u ((xs.getD k (0, 0, [])).2.2)).getD [])), fun FF us v => v = (.tuple #[((tupAt (us.getD 0 undef) 0)), .bool ((fillL u ((xs.getD k (0, 0, [])).2.2)).isSome)] : Value), fun FF us v => v = ((tupAt (us.getD 0 undef) 0)), fun FF us v => v = (.bool ((fillL u ((xs.getD k (0, 0, [])).2.2)).isSome) : Value), fun FF us v => v = ((tupAt (us.getD 0 undef) 0))]) (ownL [fun us v => [], fun us v => [], fun us v => [], fun us v => [], fun us v => [], fun us v => [], fun us v => [], fun us v => [], fun us v => [], fun us v => [], fun us v => [], fun us v => []]) mixed rfl rfl (by kernel_rfl) (by kernel_rfl) (MonoG.get (mC (fun le h => h) (mC (fun le h => h) (mC (fun le h => h) (mC (fun le h => h) (mC (fun le h => h) (mC (fun le h => h) (mC (fun le h => h) (mC (fun le h => ⟨h.1, h.2.mono le⟩) (mC (fun le h => h) (mC (fun le h => h) (mC (fun le h => h) (mC (fun le h => h) MonoG.nil))))))))))))) ?_ ?_
  ·refine gC (fun vals Fs R leFs hpZ => ?_) ?_
   ·replace har := har.mono leFs
    replace hxs := hxs.mono leFs
    replace hu := hu.mono leFs
    replace hr1 := hr1.mono leFs
    replace hcv := hcv.mono leFs
    replace hC := hC.mono leFs
    replace ha1 := ha1.mono leFs
    replace hr2 := Rd.monoA hr2 leFs
    replace hr3 := Rd.monoA hr3 leFs
    replace hr4 := Rd.monoA hr4 leFs
    refine XG.op (XOp.loadN [uv] isAgg57 sizeOf57 rfl rfl (Rd.ownN [_, _, _] rfl rfl) ?_)
    exact ⟨rfl, rfl⟩
   refine gC (fun vals Fs R leFs hpZ => ?_) ?_
   ·refine XG.op (XOp.fieldP (1) runUnderlying60 rfl sizeOf45 (by decide) rfl rfl ?_)
    exact ⟨rfl, rfl⟩
   refine gC (fun vals Fs R leFs hpZ => ?_) ?_
   ·replace har := har.mono leFs
    replace hxs := hxs.mono leFs
    replace hu := hu.mono leFs
    replace hr1 := hr1.mono leFs
    replace hcv := hcv.mono leFs
    replace hC := hC.mono leFs
    replace ha1 := ha1.mono leFs
    replace hr2 := Rd.monoA hr2 leFs
    replace hr3 := Rd.monoA hr3 leFs
    replace hr4 := Rd.monoA hr4 leFs
    rw [eS (l := [(1, ptr b2 1)]) ⟨(hpZ 1 (by decide)), trivial⟩]
    refine XG.op (XOp.load1 isAgg45 rfl (Rd.own [_, _, _, _] rfl rfl) ?_)
    exact ⟨rfl, rfl⟩
   refine gC (fun vals Fs R leFs hpZ => ?_) ?_
   ·refine XG.op (XOp.move (.int .i64 ((k : Int))) rfl ?_)
    exact ⟨rfl, rfl⟩
   refine gC (fun vals Fs R leFs hpZ => ?_) ?_
   ·replace har := har.mono leFs
    replace hxs := hxs.mono leFs
    replace hu := hu.mono leFs
    replace hr1 := hr1.mono leFs
    replace hcv := hcv.mono leFs
    replace hC := hC.mono leFs
    replace ha1 := ha1.mono leFs
    replace hr2 := Rd.monoA hr2 leFs
    replace hr3 := Rd.monoA hr3 leFs
    replace hr4 := Rd.monoA hr4 leFs
    rw [eS (l := [(2, xsv), (3, (.int .i64 ((k : Int)) : Value))]) ⟨(hpZ 2 (by decide)), (hpZ 3 (by decide)), trivial⟩]
    refine XG.op (XOp.indexS k runUnderlying45 sizeOf48 rfl rfl rfl hxs.slv (by omega) rfl ?_)
    exact ⟨rfl, rfl⟩
   refine gC (fun vals Fs R leFs hpZ => ?_) ?_
   ·rw [eS (l := [(4, (.pointer (some (elemA xsv (k * 3))) : Value))]) ⟨(hpZ 4 (by decide)), trivial⟩]
    refine XG.op (XOp.fieldE (k * 3 + 2) runUnderlying48 rfl sizeOf24 (by decide) rfl rfl ?_)
    exact ⟨rfl, rfl⟩
   refine gC (fun vals Fs R leFs hpZ => ?_) ?_
   ·replace har := har.mono leFs
    replace hxs := hxs.mono leFs
    replace hu := hu.mono leFs
    replace hr1 := hr1.mono leFs
    replace hcv := hcv.mono leFs
    replace hC := hC.mono leFs
    replace ha1 := ha1.mono leFs
    replace hr2 := Rd.monoA hr2 leFs
    replace hr3 := Rd.monoA hr3 leFs
    replace hr4 := Rd.monoA hr4 leFs
    rw [eS (l := [(5, (.pointer (some (elemA xsv (k * 3 + 2))) : Value))]) ⟨(hpZ 5 (by decide)), trivial⟩]
    refine XG.op (XOp.load1 isAgg24 rfl (hr4 _) ?_)
    exact ⟨rfl, rfl⟩
   refine gC (fun vals Fs R leFs hpZ => ?_) ?_
   ·replace har := har.mono leFs
    replace hxs := hxs.mono leFs
    replace hu := hu.mono leFs
    replace hr1 := hr1.mono leFs
    replace hcv := hcv.mono leFs
    replace hC := hC.mono leFs
    replace ha1 := ha1.mono leFs
    replace hr2 := Rd.monoA hr2 leFs
    replace hr3 := Rd.monoA hr3 leFs
    replace hr4 := Rd.monoA hr4 leFs
    rw [eS (l := [(0, (.agg #[uv] : Value)), (6, a1)]) ⟨(hpZ 0 (by decide)), (hpZ 6 (by decide)), trivial⟩]
    refine XG.op (XOp.call (args := [.agg #[uv], a1]) call84 rfl (l2Filled_spec hu ha1 (hsl := (by first | assumption | rfl | omega | simp)) (hsb := (fun i => by have := hsk2 i; omega)) (htl := (by first | omega | (have := htk (by omega); omega))) (htg := (by first | (exact fun k hk => by have := hfg k hk; omega) | (exact fun j hj => by have := termOk_ge (hto (by omega)) hj; omega)))) ?_)
    rintro _ F3 _ le3 ⟨x3, rfl, hr6, rfl⟩
    replace hxs := hxs.mono le3
    replace hu := hu.mono le3
    replace hr1 := hr1.mono le3
    replace hcv := hcv.mono le3
    replace hC := hC.mono le3
    replace ha1 := ha1.mono le3
    replace hr2 := Rd.monoA hr2 le3
    replace hr3 := Rd.monoA hr3 le3
    replace hr4 := Rd.monoA hr4 le3
    exact ⟨⟨rfl, hr6⟩, rfl⟩
   refine gC (fun vals Fs R leFs hpZ => ?_) ?_
   ·obtain ⟨e7, f7_1hr⟩ := hpZ 7 (by decide)
    rw [eS (l := [(7, (.tuple #[((tupAt (vals 7) 0)), .bool ((fillL u ((xs.getD k (0, 0, [])).2.2)).isSome)] : Value))]) ⟨(e7).symm, trivial⟩]
    refine XG.op (XOp.move (.tuple #[((tupAt (vals 7) 0)), .bool ((fillL u ((xs.getD k (0, 0, [])).2.2)).isSome)]) rfl ?_)
    exact ⟨rfl, rfl⟩
   refine gC (fun vals Fs R leFs hpZ => ?_) ?_
   ·obtain ⟨e7, f7_1hr⟩ := hpZ 7 (by decide)
    have e8 : vals 8 = (.tuple #[((tupAt (vals 7) 0)), .bool ((fillL u ((xs.getD k (0, 0, [])).2.2)).isSome)] : Value) := hpZ 8 (by decide)
    rw [eS (l := [(7, (.tuple #[((tupAt (vals 7) 0)), .bool ((fillL u ((xs.getD k (0, 0, [])).2.2)).isSome)] : Value)), (8, (.tuple #[((tupAt (vals 7) 0)), .bool ((fillL u ((xs.getD k (0, 0, [])).2.2)).isSome)] : Value))]) ⟨(e7).symm, e8, trivial⟩]
    refine XG.op (XOp.extract (((tupAt (vals 7) 0))) rfl rfl ?_)
    exact ⟨rfl, rfl⟩
   refine gC (fun vals Fs R leFs hpZ => ?_) ?_
   ·obtain ⟨e7, f7_1hr⟩ := hpZ 7 (by decide)
    have e8 : vals 8 = (.tuple #[((tupAt (vals 7) 0)), .bool ((fillL u ((xs.getD k (0, 0, [])).2.2)).isSome)] : Value) := hpZ 8 (by decide)
    rw [eS (l := [(7, (.tuple #[((tupAt (vals 7) 0)), .bool ((fillL u ((xs.getD k (0, 0, [])).2.2)).isSome)] : Value)), (8, (.tuple #[((tupAt (vals 7) 0)), .bool ((fillL u ((xs.getD k (0, 0, [])).2.2)).isSome)] : Value))]) ⟨(e7).symm, e8, trivial⟩]
    refine XG.op (XOp.extract (.bool ((fillL u ((xs.getD k (0, 0, [])).2.2)).isSome)) rfl rfl ?_)
    exact ⟨rfl, rfl⟩
   refine gC (fun vals Fs R leFs hpZ => ?_) ?_
   ·obtain ⟨e7, f7_1hr⟩ := hpZ 7 (by decide)
    have e9 : vals 9 = ((tupAt (vals 7) 0)) := hpZ 9 (by decide)
    rw [eS (l := [(7, (.tuple #[((tupAt (vals 7) 0)), .bool ((fillL u ((xs.getD k (0, 0, [])).2.2)).isSome)] : Value)), (9, ((tupAt (vals 7) 0)))]) ⟨(e7).symm, e9, trivial⟩]
    refine XG.op (XOp.assign (((tupAt (vals 7) 0))) rfl ?_)
    exact ⟨rfl, rfl⟩
   exact stepsG.nil
  intro vals F4 le4 hphi
  obtain ⟨e7, f7_1hr⟩ := hphi 7 (by decide)
  have e8 : vals 8 = (.tuple #[((tupAt (vals 7) 0)), .bool ((fillL u ((xs.getD k (0, 0, [])).2.2)).isSome)] : Value) := hphi 8 (by decide)
  have e9 : vals 9 = ((tupAt (vals 7) 0)) := hphi 9 (by decide)
  have e11 : vals 11 = ((tupAt (vals 7) 0)) := hphi 11 (by decide)
  generalize hu1 : ((tupAt (vals 7) 0)) = u1 at e7 f7_1hr e8 e9 e11
  rw [eS (l := [(7, (.tuple #[u1, .bool ((fillL u ((xs.getD k (0, 0, [])).2.2)).isSome)] : Value)), (10, (.bool ((fillL u ((xs.getD k (0, 0, [])).2.2)).isSome) : Value)), (11, u1)]) ⟨(e7).symm, (hphi 10 (by decide)), e11, trivial⟩]
  replace hxs := hxs.mono le4
  replace hu := hu.mono le4
  replace hr1 := hr1.mono le4
  replace hcv := hcv.mono le4
  replace hC := hC.mono le4
  replace ha1 := ha1.mono le4
  replace hr2 := Rd.monoA hr2 le4
  replace hr3 := Rd.monoA hr3 le4
  replace hr4 := Rd.monoA hr4 le4
  show XL _ _ _ _ _ _ _ (slH 48 3 sv m cs :: cellsH b5 [x1, sv] 60 :: cellsH b4 [(.slice none 0 0), (.slice none 0 0)] 60 :: cellsH b3 [uv] 57 :: cellsH b2 [fv, xsv] 60 :: cellsH b1 [arv, rsv] 29 :: L)
  refine XL.as (.bool ((fillL u ((xs.getD k (0, 0, [])).2.2)).isSome)) rfl (XL.nil (X.seq (X.seq (X.region (XL.mv (.bool ((fillL u ((xs.getD k (0, 0, [])).2.2)).isSome)) rfl (cX (XOp.notB rfl (XL.nil ?_))))))))
  refine X.cond (t := !((fillL u ((xs.getD k (0, 0, [])).2.2)).isSome)) rfl (fun h5 => ?_) (fun h5 => ?_)
  ·have hpu1 : (fillL u (xs.getD k (0, 0, [])).2.2).isSome = false := by simpa using h5
   refine X.seq (X.region (cX (XOp.build [(.slice none 0 0), (.slice none 0 0)] [(.slice none 0 0), (.slice none 0 0)] [(0, 1), (1, 1)] [] runUnderlying60 zeroValue60 rfl (.cons rfl sizeOf24 (.cons rfl sizeOf45 PlacesAre.nil)) rfl CellsAre.nil (cX (XOp.storeN [_, _] _ [(.slice none 0 0), (.slice none 0 0)] sizeOf60 rfl rfl rfl (ones_cons rfl (ones_cons rfl ones_nil)) rfl rfl rfl (XL.as (.bool (false)) rfl (XL.nil (X.ret (thenQ_ret (blockQ_ret (thenQ_ret (thenQ_ret (blockQ_ret (thenQ_ret (retEnd (L' := L) [.agg #[(.slice none 0 0), (.slice none 0 0)], .bool (false)] (.tuple #[.agg #[(.slice none 0 0), (.slice none 0 0)], .bool (false)]) (.cell rfl (loadNV [(.slice none 0 0), (.slice none 0 0)] isAgg60 sizeOf60 rfl (Rd.ownN [_, _] rfl rfl)) (.tmp rfl .nil)) rfl (FLe.trans (FLe.trans le1 leG1) le4) rF (sD (sD (sD (sD (sD (sD sR)))))) ?_)))))))))))))))
   have e : undB ar rs f xs u = ([], [], false) := undB_steps (undGo_fail (by omega) hgo hpu1)
   exact ⟨_, _, by rw [e], by rw [e]; exact IntsF.nilV, by rw [e]; exact SlOf.nilV, rfl⟩
  have hpu1 : (fillL u (xs.getD k (0, 0, [])).2.2).isSome = true := by simpa using h5
  refine X.skip (X.seq ?_)
  refine X.draw [slH 48 3 sv m cs, cellsH b5 [x1, sv] 60, cellsH b4 [(.slice none 0 0), (.slice none 0 0)] 60, cellsH b3 [uv] 57, cellsH b2 [fv, xsv] 60, cellsH b1 [arv, rsv] 29] L 20 [[], [], [], [], [], [], [], [], [], [], [], [], [], [], [], [], [], [], [], []] [[], [0], [], [], [], [4], [], [5, 6], [7], [8], [2, 3, 9], [], [11], [], [12, 13], [14], [15], [], [10, 16, 17], [18]] (phiL [fun us v => v = ptr b5 1, fun us v => v = sv, fun us v => v = (.agg #[uv] : Value), fun us v => v = cv, fun us v => v = ptr b2 1, fun us v => v = xsv, fun us v => v = (.int .i64 ((k : Int)) : Value), fun us v => v = (.pointer (some (elemA xsv (k * 3))) : Value), fun us v => v = (.pointer (some (elemA xsv (k * 3))) : Value), fun us v => v = (.int .i64 ((xs.getD k (0, 0, [])).1) : Value), fun us v => v = (.int .i64 (((movedL u cur (((xs.getD k (0, 0, [])).1).toNat) : Nat) : Int)) : Value), fun us v => v = ptr b2 1, fun us v => v = xsv, fun us v => v = (.int .i64 ((k : Int)) : Value), fun us v => v = (.pointer (some (elemA xsv (k * 3))) : Value), fun us v => v = (.pointer (some (elemA xsv (k * 3 + 1))) : Value), fun us v => v = (.int .i64 ((xs.getD k (0, 0, [])).2.1) : Value), fun us v => v = u1, fun us v => v = (.agg #[.int .i64 (((movedL u cur (((xs.getD k (0, 0, [])).1).toNat) : Nat) : Int)), .int .i64 ((xs.getD k (0, 0, [])).2.1), u1] : Value), fun us v => ∃ b, v = .slice (some ⟨b, 0, none⟩) 1 1]) (ownL [fun us v => [], fun us v => [], fun us v => [], fun us v => [], fun us v => [], fun us v => [], fun us v => [], fun us v => [], fun us v => [], fun us v => [], fun us v => [], fun us v => [], fun us v => [], fun us v => [], fun us v => [], fun us v => [], fun us v => [], fun us v => [], fun us v => [], fun us v => [slH 48 3 v 1 [.int .i64 (((movedL u cur (((xs.getD k (0, 0, [])).1).toNat) : Nat) : Int)), .int .i64 ((xs.getD k (0, 0, [])).2.1), u1]]]) mixed rfl rfl (by kernel_rfl) ?_ ?_
  ·refine pC (fun vals R hpZ => ?_) ?_
   ·refine XG.op (XOp.fieldP (1) runUnderlying60 rfl sizeOf45 (by decide) rfl rfl ?_)
    exact ⟨rfl, rfl, rfl⟩
   refine pC (fun vals R hpZ => ?_) ?_
   ·rw [eS (l := [(0, ptr b5 1)]) ⟨hpZ 0 (by decide), trivial⟩]
    refine XG.op (XOp.load1 isAgg45 rfl (Rd.own [_] rfl rfl) ?_)
    exact ⟨rfl, rfl, rfl⟩
   refine pC (fun vals R hpZ => ?_) ?_
   ·refine XG.op (XOp.loadN [uv] isAgg57 sizeOf57 rfl rfl (Rd.ownN [_, _, _] rfl rfl) ?_)
    exact ⟨rfl, rfl, rfl⟩
   refine pC (fun vals R hpZ => ?_) ?_
   ·refine XG.op (XOp.move (cv) rfl ?_)
    exact ⟨rfl, rfl, rfl⟩
   refine pC (fun vals R hpZ => ?_) ?_
   ·refine XG.op (XOp.fieldP (1) runUnderlying60 rfl sizeOf45 (by decide) rfl rfl ?_)
    exact ⟨rfl, rfl, rfl⟩
   refine pC (fun vals R hpZ => ?_) ?_
   ·rw [eS (l := [(4, ptr b2 1)]) ⟨hpZ 4 (by decide), trivial⟩]
    refine XG.op (XOp.load1 isAgg45 rfl (Rd.own [_, _, _, _] rfl rfl) ?_)
    exact ⟨rfl, rfl, rfl⟩
   refine pC (fun vals R hpZ => ?_) ?_
   ·refine XG.op (XOp.move (.int .i64 ((k : Int))) rfl ?_)
    exact ⟨rfl, rfl, rfl⟩
   refine pC (fun vals R hpZ => ?_) ?_
   ·rw [eS (l := [(5, xsv), (6, (.int .i64 ((k : Int)) : Value))]) ⟨hpZ 5 (by decide), hpZ 6 (by decide), trivial⟩]
    refine XG.op (XOp.indexS k runUnderlying45 sizeOf48 rfl rfl rfl hxs.slv (by omega) rfl ?_)
    exact ⟨rfl, rfl, rfl⟩
   refine pC (fun vals R hpZ => ?_) ?_
   ·rw [eS (l := [(7, (.pointer (some (elemA xsv (k * 3))) : Value))]) ⟨hpZ 7 (by decide), trivial⟩]
    refine XG.op (XOp.fieldE (k * 3) runUnderlying48 rfl sizeOf2 (by decide) rfl rfl ?_)
    exact ⟨rfl, rfl, rfl⟩
   refine pC (fun vals R hpZ => ?_) ?_
   ·rw [eS (l := [(8, (.pointer (some (elemA xsv (k * 3))) : Value))]) ⟨hpZ 8 (by decide), trivial⟩]
    refine XG.op (XOp.load1 isAgg2 rfl (hr2 _) ?_)
    exact ⟨rfl, rfl, rfl⟩
   refine pC (fun vals R hpZ => ?_) ?_
   ·rw [eS (l := [(2, (.agg #[uv] : Value)), (3, cv), (9, (.int .i64 ((xs.getD k (0, 0, [])).1) : Value))]) ⟨hpZ 2 (by decide), hpZ 3 (by decide), hpZ 9 (by decide), trivial⟩]
    refine XG.op (XOp.call (args := [.agg #[uv], cv, .int .i64 ((((xs.getD k (0, 0, [])).1).toNat : Nat) : Int)]) call103 (by rw [show ((((xs.getD k (0, 0, [])).1).toNat : Nat) : Int) = (xs.getD k (0, 0, [])).1 from by omega]; rfl) (l7Moved_spec (p := ((xs.getD k (0, 0, [])).1).toNat) hu hcv (hp := (by have := hak (by omega); omega)) (hsl := (by first | assumption | rfl | omega | simp)) (hsb := (hsk2)) (htl := (by first | assumption | rfl | omega | simp)) (htg := (fun k hk => termOk_ge hno hk))) ?_)
    rintro _ _ _ _ ⟨rfl, rfl, rfl⟩
    exact ⟨rfl, rfl, rfl⟩
   refine pC (fun vals R hpZ => ?_) ?_
   ·refine XG.op (XOp.fieldP (1) runUnderlying60 rfl sizeOf45 (by decide) rfl rfl ?_)
    exact ⟨rfl, rfl, rfl⟩
   refine pC (fun vals R hpZ => ?_) ?_
   ·rw [eS (l := [(11, ptr b2 1)]) ⟨hpZ 11 (by decide), trivial⟩]
    refine XG.op (XOp.load1 isAgg45 rfl (Rd.own [_, _, _, _] rfl rfl) ?_)
    exact ⟨rfl, rfl, rfl⟩
   refine pC (fun vals R hpZ => ?_) ?_
   ·refine XG.op (XOp.move (.int .i64 ((k : Int))) rfl ?_)
    exact ⟨rfl, rfl, rfl⟩
   refine pC (fun vals R hpZ => ?_) ?_
   ·rw [eS (l := [(12, xsv), (13, (.int .i64 ((k : Int)) : Value))]) ⟨hpZ 12 (by decide), hpZ 13 (by decide), trivial⟩]
    refine XG.op (XOp.indexS k runUnderlying45 sizeOf48 rfl rfl rfl hxs.slv (by omega) rfl ?_)
    exact ⟨rfl, rfl, rfl⟩
   refine pC (fun vals R hpZ => ?_) ?_
   ·rw [eS (l := [(14, (.pointer (some (elemA xsv (k * 3))) : Value))]) ⟨hpZ 14 (by decide), trivial⟩]
    refine XG.op (XOp.fieldE (k * 3 + 1) runUnderlying48 rfl sizeOf2 (by decide) rfl rfl ?_)
    exact ⟨rfl, rfl, rfl⟩
   refine pC (fun vals R hpZ => ?_) ?_
   ·rw [eS (l := [(15, (.pointer (some (elemA xsv (k * 3 + 1))) : Value))]) ⟨hpZ 15 (by decide), trivial⟩]
    refine XG.op (XOp.load1 isAgg2 rfl (hr3 _) ?_)
    exact ⟨rfl, rfl, rfl⟩
   refine pC (fun vals R hpZ => ?_) ?_
   ·refine XG.op (XOp.move (u1) rfl ?_)
    exact ⟨rfl, rfl, rfl⟩
   refine pC (fun vals R hpZ => ?_) ?_
   ·rw [eS (l := [(10, (.int .i64 (((movedL u cur (((xs.getD k (0, 0, [])).1).toNat) : Nat) : Int)) : Value)), (16, (.int .i64 ((xs.getD k (0, 0, [])).2.1) : Value)), (17, u1)]) ⟨hpZ 10 (by decide), hpZ 16 (by decide), hpZ 17 (by decide), trivial⟩]
    refine XG.op (XOp.build [.int .i64 (((movedL u cur (((xs.getD k (0, 0, [])).1).toNat) : Nat) : Int)), .int .i64 ((xs.getD k (0, 0, [])).2.1), u1] [.int .i64 (0), .int .i64 (0), (.slice none 0 0)] [(0, 1), (1, 1), (2, 1)] [(0, [.int .i64 (((movedL u cur (((xs.getD k (0, 0, [])).1).toNat) : Nat) : Int))]), (1, [.int .i64 ((xs.getD k (0, 0, [])).2.1)]), (2, [u1])] runUnderlying48 zeroValue48 rfl (.cons rfl sizeOf2 (.cons rfl sizeOf2 (.cons rfl sizeOf24 PlacesAre.nil))) rfl (.cons rfl (.cons rfl (.cons (cells_one (IntsF.isSl f7_1hr)) CellsAre.nil))) ?_)
    exact ⟨rfl, rfl, rfl⟩
   refine pC (fun vals R hpZ => ?_) ?_
   ·rw [eS (l := [(18, (.agg #[.int .i64 (((movedL u cur (((xs.getD k (0, 0, [])).1).toNat) : Nat) : Int)), .int .i64 ((xs.getD k (0, 0, [])).2.1), u1] : Value))]) ⟨hpZ 18 (by decide), trivial⟩]
    refine XG.op (XOp.buildSlice (s := 3) [.int .i64 (((movedL u cur (((xs.getD k (0, 0, [])).1).toNat) : Nat) : Int)), .int .i64 ((xs.getD k (0, 0, [])).2.1), u1] [.int .i64 (0), .int .i64 (0), (.slice none 0 0)] [(0, [.int .i64 (((movedL u cur (((xs.getD k (0, 0, [])).1).toNat) : Nat) : Int)), .int .i64 ((xs.getD k (0, 0, [])).2.1), u1])] runUnderlying45 sizeOf48 zeroValue48 rfl (by decide) rfl (.cons rfl CellsAre.nil) rfl ?_)
    intro v2 hv2
    exact ⟨rfl, hv2, rfl⟩
   exact stepsP.nil
  intro vals hphi
  have f19 : ∃ b, (vals 19) = .slice (some ⟨b, 0, none⟩) 1 1 := hphi 19 (by decide)
  generalize hu19 : vals 19 = u2 at f19
  rw [eS (l := [(1, sv), (19, u2)]) ⟨(hphi 1 (by decide)), hu19, trivial⟩]
  show XL _ _ _ _ _ _ _ (slH 48 3 u2 1 [.int .i64 (((movedL u cur (((xs.getD k (0, 0, [])).1).toNat) : Nat) : Int)), .int .i64 ((xs.getD k (0, 0, [])).2.1), u1] :: slH 48 3 sv m cs :: cellsH b5 [x1, sv] 60 :: cellsH b4 [(.slice none 0 0), (.slice none 0 0)] 60 :: cellsH b3 [uv] 57 :: cellsH b2 [fv, xsv] 60 :: cellsH b1 [arv, rsv] 29 :: L)
  refine cX (XOp.append (m := 1) (bytes := 40) (cs := cs) [_] _ [.int .i64 (((movedL u cur (((xs.getD k (0, 0, [])).1).toNat) : Nat) : Int)), .int .i64 ((xs.getD k (0, 0, [])).2.1), u1] runUnderlying45 typeInfo48 rfl rfl rfl rfl rfl rfl rfl (SlV.own [] rfl) rfl (Rd.lit [] rfl) (ones_cons rfl (ones_cons rfl (ones_cons (one_sl (IntsF.isSl f7_1hr)) ones_nil))) (by (try simp only [List.length_append, List.length_nil, List.length_cons, List.length_singleton]); omega) (by (try simp only [List.length_append, List.length_nil, List.length_cons, List.length_singleton]); omega) ?_)
  intro v3 hs1 hn1 hm1
  have hc1 := StepsC.snoc hC (i := ((movedL u cur (((xs.getD k (0, 0, [])).1).toNat) : Nat) : Int)) (j := (xs.getD k (0, 0, [])).2.1) f7_1hr
  refine cX (XOp.fieldP (1) runUnderlying60 rfl sizeOf45 (by decide) rfl rfl (cX (XOp.store1 [_, _] _ [x1, v3] sizeOf45 rfl rfl (one_sl hs1) rfl rfl rfl (XL.nil (X.region (cX (XOp.fieldP (1) runUnderlying60 rfl sizeOf45 (by decide) rfl rfl (cX (XOp.load1 isAgg45 rfl (Rd.own [_, _, _, _, _] rfl rfl) (XL.mv (.int .i64 ((k : Int))) rfl (cX (XOp.indexS k runUnderlying45 sizeOf48 rfl rfl rfl hxs.slv (by omega) rfl (cX (XOp.fieldE (k * 3 + 2) runUnderlying48 rfl sizeOf24 (by decide) rfl rfl (cX (XOp.load1 isAgg24 rfl (hr4 _) (XL.as (a1) rfl ?_)))))))))))))))))
  refine XL.nil (X.region (XL.mv (.int .i64 ((k : Int))) rfl (cX (XOp.addR (((k + 1 : Nat) : Int)) rfl rfl (by omega) (by omega) (XL.as (.int .i64 (((k + 1 : Nat) : Int))) rfl (XL.nil ?_))))))
  exact ⟨(k + 1, a1, (xs.getD k (0, 0, [])).2.2, v3, ss ++ [(((movedL u cur (((xs.getD k (0, 0, [])).1).toNat) : Nat) : Int), (xs.getD k (0, 0, [])).2.1, (fillL u ((xs.getD k (0, 0, [])).2.2)).getD [])], cs ++ [.int .i64 (((movedL u cur (((xs.getD k (0, 0, [])).1).toNat) : Nat) : Int)), .int .i64 ((xs.getD k (0, 0, [])).2.1), u1], (m) + 1, F4), _, (FLe.trans leG1 le4), rF, ⟨rfl, rfl, rfl, rfl, rfl, rfl, trivial⟩, (sD (sC (sC (sC (sC (sC (sC sR))))))), ⟨rfl, (FLe.trans leG1 le4), (ha1), (by (try dsimp only) <;> omega), (by (try dsimp only); exact (nowL_succ (by omega)).symm), (hs1), (hc1), (by (try dsimp only); rw [List.length_append]; simp only [List.length_singleton]; omega), (by (try dsimp only); exact undGo_next (by omega) hgo hpu1), (by (try dsimp only) <;> omega)⟩, (by omega)⟩
 refine X.exit (thenQ_exit (thenQ_exit (blockQ_exit (X.seq (X.region (cX (XOp.loadN [x1, sv] isAgg60 sizeOf60 rfl rfl (Rd.ownN [_] rfl rfl) (cX (XOp.storeN [_, _] _ [x1, sv] sizeOf60 rfl rfl rfl (ones_cons (one_sl (IntsF.isSl hr1)) (ones_cons (one_sl hsv) ones_nil)) rfl rfl rfl (XL.as (.bool (true)) rfl (XL.nil (X.freezeF [] _ _ rfl (fun F5 le5 hz1 => ?_)))))))))))))
 replace hr1 := hr1.mono le5
 replace hC := hC.mono le5
 have hf1 : StepsF F5 sv ss := CO.fz hC (by first | rfl | omega | (rw [List.length_set]; omega) | (simp; done)) hz1.fz
 refine X.ret (retEnd (L' := L) [.agg #[x1, sv], .bool (true)] (.tuple #[.agg #[x1, sv], .bool (true)]) (.cell rfl (loadNV [x1, sv] isAgg60 sizeOf60 rfl (Rd.ownN [_] rfl rfl)) (.tmp rfl .nil)) rfl (FLe.trans (FLe.trans le1 leG1) le5) rF (sD (sD (sD (sD (sD sR))))) ?_)
 have e := undB_yes hwk hsk hpf1 (undGo_end (by omega) hgo)
 exact ⟨_, _, by rw [e], by rw [e]; exact hr1, by rw [e]; exact hf1, rfl⟩
end Go.Proofs.Ytmaaifhmhclhdaa
set_option linter.unusedSimpArgs false
set_option linter.unusedVariables false
namespace Go.Proofs.Ytmaaifhmhclhdaa
open Go X M Try
end Go.Proofs.Ytmaaifhmhclhdaa
set_option linter.unusedSimpArgs false
set_option linter.unusedVariables false
namespace Go.Proofs.Ytmaaifhmhclhdaa
open Go X M Try

/- (*impl.Walk).add -/
theorem walkAdd_spec {F : FH} {L : List HP} {b m : Nat} {fv sv tov : Value} {ss : List StepT} {cs : List Value} {i j : Int} {to : List Int} (hto : IntsF F tov to) (hsv : IsSl sv) (hC : StepsC F cs ss) (hm : m = ss.length) (hsb : ss.length ≤ 4000000) (hlt : to.length ≤ 4000000) :
    Does prog 145 [ptr b 0, .agg #[.int .i64 (i), .int .i64 (j), tov]] F (cellsH b [fv, sv] 60 :: slH 48 3 sv m cs :: L) (fun v F' L' => ∃ (sw cw : Value), IsSl sw ∧ IntsF F' cw to ∧ Fresh F F' (intsH 2 cw to) ∧ cellsH b [fv, sw] 60 :: slH 48 3 sw (m + 1) (cs ++ [.int .i64 i, .int .i64 j, cw]) :: L = L') := by
 refine Does.of_X func145 rfl rfl rfl (X.seq (X.region (cX (XOp.box [.int .i64 (i), .int .i64 (j), tov] rfl rfl ?_))))
 intro b1
 refine XL.nil (X.weaken (Sub.front (A := [_, _])) ?_)
 show X _ _ _ _ _ _ (slH 48 3 sv m cs :: cellsH b1 [.int .i64 (i), .int .i64 (j), tov] 48 :: cellsH b [fv, sv] 60 :: L)
 refine X.drawH [cellsH b1 [.int .i64 (i), .int .i64 (j), tov] 48, cellsH b [fv, sv] 60] L 15 [[], [], [], [], [], [], [], [], [], [], [], [], [11], [11], [11, 13]] [[], [], [1], [2], [3], [], [5], [], [7], [], [9], [10], [6, 8, 11], [11, 12], [4, 11, 13]] [[], [], [], [], [], [], [], [], [], [], [], [], [], [], [13]] (phiG [fun FF us v => v = ptr b 0, fun FF us v => v = ptr b 0, fun FF us v => v = ptr b 0, fun FF us v => v = ptr b 1, fun FF us v => v = sv, fun FF us v => v = ptr b1 0, fun FF us v => v = (.int .i64 (i) : Value), fun FF us v => v = ptr b1 1, fun FF us v => v = (.int .i64 (j) : Value), fun FF us v => v = ptr b1 2, fun FF us v => v = tov, fun FF us v => ((v) : Value) = v ∧ (IntsF FF (v) (to)) ∧ (FrIntsF F FF 2 (v) (to)), fun FF us v => v = (.agg #[.int .i64 (i), .int .i64 (j), ((us.getD 0 undef))] : Value), fun FF us v => ∃ b, v = .slice (some ⟨b, 0, none⟩) 1 1, fun FF us v => IsSl v]) (ownL [fun us v => [], fun us v => [], fun us v => [], fun us v => [], fun us v => [], fun us v => [], fun us v => [], fun us v => [], fun us v => [], fun us v => [], fun us v => [], fun us v => [], fun us v => [], fun us v => [slH 48 3 v 1 [.int .i64 (i), .int .i64 (j), ((us.getD 0 undef))]], fun us v => [slH 48 3 (us.getD 1 undef) 1 [.int .i64 (i), .int .i64 (j), ((us.getD 0 undef))], slH 48 3 (v) ((m) + 1) (cs ++ [.int .i64 (i), .int .i64 (j), ((us.getD 0 undef))])]]) (fun i => ([[], [], [], [], [], [], [], [], [], [], [], [], [], [], [slH 48 3 sv m cs]] : List (List HP)).getD i []) mixed rfl rfl (by kernel_rfl) (by kernel_rfl) (MonoG.get (mC (fun le h => h) (mC (fun le h => h) (mC (fun le h => h) (mC (fun le h => h) (mC (fun le h => h) (mC (fun le h => h) (mC (fun le h => h) (mC (fun le h => h) (mC (fun le h => h) (mC (fun le h => h) (mC (fun le h => h) (mC (fun le h => ⟨h.1, h.2.1.mono le, h.2.2.mono le⟩) (mC (fun le h => h) (mC (fun le h => h) (mC (fun le h => h) MonoG.nil)))))))))))))))) ?_ ?_
 ·refine stepsT.cons (fun vals Fs R leFs hpZ => ?_) ?_
  ·refine XG.op (XOp.move (ptr b 0) rfl ?_)
   exact ⟨rfl, rfl⟩
  refine stepsT.cons (fun vals Fs R leFs hpZ => ?_) ?_
  ·refine XG.op (XOp.move (ptr b 0) rfl ?_)
   exact ⟨rfl, rfl⟩
  refine stepsT.cons (fun vals Fs R leFs hpZ => ?_) ?_
  ·replace hto := hto.mono leFs
   replace hC := hC.mono leFs
   rw [eS (l := [(1, ptr b 0)]) ⟨(hpZ 1 (by decide)), trivial⟩]
   refine XG.op (XOp.nilCheck rfl ?_)
   exact ⟨rfl, rfl⟩
  refine stepsT.cons (fun vals Fs R leFs hpZ => ?_) ?_
  ·rw [eS (l := [(2, ptr b 0)]) ⟨(hpZ 2 (by decide)), trivial⟩]
   refine XG.op (XOp.fieldP (1) runUnderlying60 rfl sizeOf45 (by decide) rfl rfl ?_)
   exact ⟨rfl, rfl⟩
  refine stepsT.cons (fun vals Fs R leFs hpZ => ?_) ?_
  ·replace hto := hto.mono leFs
   replace hC := hC.mono leFs
   rw [eS (l := [(3, ptr b 1)]) ⟨(hpZ 3 (by decide)), trivial⟩]
   refine XG.op (XOp.load1 isAgg45 rfl (Rd.own [_] rfl rfl) ?_)
   exact ⟨rfl, rfl⟩
  refine stepsT.cons (fun vals Fs R leFs hpZ => ?_) ?_
  ·refine XG.op (XOp.fieldP (0) runUnderlying48 rfl sizeOf2 (by decide) rfl rfl ?_)
   exact ⟨rfl, rfl⟩
  refine stepsT.cons (fun vals Fs R leFs hpZ => ?_) ?_
  ·replace hto := hto.mono leFs
   replace hC := hC.mono leFs
   rw [eS (l := [(5, ptr b1 0)]) ⟨(hpZ 5 (by decide)), trivial⟩]
   refine XG.op (XOp.load1 isAgg2 rfl (Rd.own [] rfl rfl) ?_)
   exact ⟨rfl, rfl⟩
  refine stepsT.cons (fun vals Fs R leFs hpZ => ?_) ?_
  ·refine XG.op (XOp.fieldP (1) runUnderlying48 rfl sizeOf2 (by decide) rfl rfl ?_)
   exact ⟨rfl, rfl⟩
  refine stepsT.cons (fun vals Fs R leFs hpZ => ?_) ?_
  ·replace hto := hto.mono leFs
   replace hC := hC.mono leFs
   rw [eS (l := [(7, ptr b1 1)]) ⟨(hpZ 7 (by decide)), trivial⟩]
   refine XG.op (XOp.load1 isAgg2 rfl (Rd.own [] rfl rfl) ?_)
   exact ⟨rfl, rfl⟩
  refine stepsT.cons (fun vals Fs R leFs hpZ => ?_) ?_
  ·refine XG.op (XOp.fieldP (2) runUnderlying48 rfl sizeOf24 (by decide) rfl rfl ?_)
   exact ⟨rfl, rfl⟩
  refine stepsT.cons (fun vals Fs R leFs hpZ => ?_) ?_
  ·replace hto := hto.mono leFs
   replace hC := hC.mono leFs
   rw [eS (l := [(9, ptr b1 2)]) ⟨(hpZ 9 (by decide)), trivial⟩]
   refine XG.op (XOp.load1 isAgg24 rfl (Rd.own [] rfl rfl) ?_)
   exact ⟨rfl, rfl⟩
  refine stepsT.cons (fun vals Fs R leFs hpZ => ?_) ?_
  ·replace hto := hto.mono leFs
   replace hC := hC.mono leFs
   rw [eS (l := [(10, tov)]) ⟨(hpZ 10 (by decide)), trivial⟩]
   refine XG.op (XOp.frzF <| XOp.call (args := [tov]) call97 rfl (Clone_spec hto (hlt := (by first | assumption | rfl | omega | simp))) ?_)
   rintro v4 _ _ _ ⟨rfl, hs3, rfl⟩
   refine ⟨_, _, rfl, fun F1 le1 hz1 => ?_⟩
   replace hC := hC.mono le1
   have hf1 : IntsF F1 v4 ((to)) := intsH.fz (xs := (to)) hz1.fz
   exact ⟨⟨rfl, hf1, (hz1.base leFs)⟩, rfl⟩
  refine stepsT.cons (fun vals Fs R leFs hpZ => ?_) ?_
  ·obtain ⟨e11, f11_1ha, f11_1hz⟩ := hpZ 11 (by decide)
   replace hC := hC.mono leFs
   rw [eS (l := [(6, (.int .i64 (i) : Value)), (8, (.int .i64 (j) : Value)), (11, ((vals 11)))]) ⟨(hpZ 6 (by decide)), (hpZ 8 (by decide)), (e11).symm, trivial⟩]
   refine XG.op (XOp.build [.int .i64 (i), .int .i64 (j), ((vals 11))] [.int .i64 (0), .int .i64 (0), (.slice none 0 0)] [(0, 1), (1, 1), (2, 1)] [(0, [.int .i64 (i)]), (1, [.int .i64 (j)]), (2, [((vals 11))])] runUnderlying48 zeroValue48 rfl (.cons rfl sizeOf2 (.cons rfl sizeOf2 (.cons rfl sizeOf24 PlacesAre.nil))) rfl (.cons rfl (.cons rfl (.cons (cells_one (IntsF.isSl f11_1ha)) CellsAre.nil))) ?_)
   exact ⟨rfl, rfl⟩
  refine stepsT.cons (fun vals Fs R leFs hpZ => ?_) ?_
  ·obtain ⟨e11, f11_1ha, f11_1hz⟩ := hpZ 11 (by decide)
   have e12 : vals 12 = (.agg #[.int .i64 (i), .int .i64 (j), ((vals 11))] : Value) := hpZ 12 (by decide)
   replace hC := hC.mono leFs
   rw [eS (l := [(11, ((vals 11))), (12, (.agg #[.int .i64 (i), .int .i64 (j), ((vals 11))] : Value))]) ⟨(e11).symm, e12, trivial⟩]
   refine XG.op (XOp.buildSlice (s := 3) [.int .i64 (i), .int .i64 (j), ((vals 11))] [.int .i64 (0), .int .i64 (0), (.slice none 0 0)] [(0, [.int .i64 (i), .int .i64 (j), ((vals 11))])] runUnderlying45 sizeOf48 zeroValue48 rfl (by decide) rfl (.cons rfl CellsAre.nil) rfl ?_)
   intro v5 hv2
   exact ⟨hv2, rfl⟩
  refine stepsT.cons (fun vals Fs R leFs hpZ => ?_) ?_
  ·obtain ⟨e11, f11_1ha, f11_1hz⟩ := hpZ 11 (by decide)
   have f13 : ∃ b, (vals 13) = .slice (some ⟨b, 0, none⟩) 1 1 := hpZ 13 (by decide)
   replace hC := hC.mono leFs
   rw [eS (l := [(4, sv), (11, ((vals 11)))]) ⟨(hpZ 4 (by decide)), (e11).symm, trivial⟩]
   show XG _ _ _ _ _ (slH 48 3 (vals 13) 1 [.int .i64 (i), .int .i64 (j), ((vals 11))] :: slH 48 3 sv m cs :: ([cellsH b1 [.int .i64 (i), .int .i64 (j), tov] 48, cellsH b [fv, sv] 60] ++ R)) _
   refine XG.op (XOp.append (m := 1) (bytes := 40) (cs := cs) [_] _ [.int .i64 (i), .int .i64 (j), ((vals 11))] runUnderlying45 typeInfo48 rfl rfl rfl rfl rfl rfl rfl (SlV.own [] rfl) rfl (Rd.lit [] rfl) (ones_cons rfl (ones_cons rfl (ones_cons (one_sl (IntsF.isSl f11_1ha)) ones_nil))) (by (try simp only [List.length_append, List.length_nil, List.length_cons, List.length_singleton]); omega) (by (try simp only [List.length_append, List.length_nil, List.length_cons, List.length_singleton]); omega) ?_)
   intro v6 hs4 hn2 hm2
   have hc2 := StepsC.snoc hC (i := i) (j := j) f11_1ha
   exact ⟨hs4, rfl⟩
  exact stepsT.nil
 intro vals F2 le2 hphi
 obtain ⟨e11, f11_1ha, f11_1hz⟩ := hphi 11 (by decide)
 have e12 : vals 12 = (.agg #[.int .i64 (i), .int .i64 (j), ((vals 11))] : Value) := hphi 12 (by decide)
 have f13 : ∃ b, (vals 13) = .slice (some ⟨b, 0, none⟩) 1 1 := hphi 13 (by decide)
 have f14 : IsSl (vals 14) := hphi 14 (by decide)
 generalize hu1 : ((vals 11)) = u1 at e11 f11_1ha f11_1hz e12 f13 f14
 generalize hu13 : vals 13 = u2 at e11 f11_1ha f11_1hz e12 f13 f14
 generalize hu14 : vals 14 = u3 at e11 f11_1ha f11_1hz e12 f13 f14
 rw [eS (l := [(0, ptr b 0), (11, u1), (13, u2), (14, u3)]) ⟨(hphi 0 (by decide)), hu1, hu13, hu14, trivial⟩]
 replace hC := hC.mono le2
 have hc3 := StepsC.snoc hC (i := i) (j := j) f11_1ha
 show XL _ _ _ _ _ _ _ (slH 48 3 u2 1 [.int .i64 (i), .int .i64 (j), u1] :: slH 48 3 u3 ((m) + 1) (cs ++ [.int .i64 (i), .int .i64 (j), u1]) :: cellsH b1 [.int .i64 (i), .int .i64 (j), tov] 48 :: cellsH b [fv, sv] 60 :: L)
 skip
 refine cX (XOp.nilCheck rfl (cX (XOp.fieldP (1) runUnderlying60 rfl sizeOf45 (by decide) rfl rfl (cX (XOp.store1 [_, _, _] _ [fv, u3] sizeOf45 rfl rfl (one_sl f14) rfl rfl rfl (XL.nil (id (retEndN (L' := cellsH b [fv, u3] 60 :: slH 48 3 u3 ((m) + 1) (cs ++ [.int .i64 (i), .int .i64 (j), u1]) :: L) [] (.tuple #[]) (by exact .nil) rfl le2 rF (Sub.trans (Sub.front (A := [_])) (Sub.trans (Sub.front (A := [_, _, _])) (sC (sC (sD (sD sR)))))) ?_))))))))
 exact ⟨_, _, f14, f11_1ha, f11_1hz, rfl⟩
end Go.Proofs.Ytmaaifhmhclhdaa
set_option linter.unusedSimpArgs false
set_option linter.unusedVariables false
namespace Go.Proofs.Ytmaaifhmhclhdaa
open Go X M Try

/- impl.cloneWalk -/
set_option maxRecDepth 20000 in
theorem cloneWalk_spec {F : FH} {L : List HP} {fv : Value} {f : List Int} (hf : IntsF F fv f) {xsv : Value} {xs : List StepT} (hxs : StepsF F xsv xs) (hlf : f.length ≤ 60) (hlx : xs.length ≤ 60) (hxb : ∀ i, i < xs.length → (xs.getD i (0, 0, [])).2.2.length ≤ 60) :
    Does prog 144 [.agg #[fv, xsv]] F (L) (fun v F' L' => ∃ (a : Value), ∃ (b : Value), (.agg #[a, b] : Value) = v ∧ (IntsF F' a (f)) ∧ (StepsF F' b (xs)) ∧ (Fresh F F' (star [intsH 2 a (f), stepsD 2 48 b (xs)])) ∧ L = L') := by
 refine Does.of_X func144 rfl rfl rfl (X.seq (X.region (cX (XOp.box [fv, xsv] rfl rfl ?_))))
 intro b1
 refine cX (XOp.alloc [(.slice none 0 0), (.slice none 0 0)] zeroValue60 rfl ?_)
 intro b2
 refine XL.nil (X.seq (X.region (cX (XOp.fieldP (0) runUnderlying60 rfl sizeOf24 (by decide) rfl rfl (cX (XOp.load1 isAgg24 rfl (Rd.own [_] rfl rfl) (cX (XOp.frzF <| XOp.call (args := [fv]) call97 rfl (Clone_spec hf (hlt := (by first | assumption | rfl | omega | simp))) ?_))))))))
 rintro v1 _ _ _ ⟨rfl, hs1, rfl⟩
 refine ⟨_, _, rfl, fun F1 le1 hz1 => ?_⟩
 replace hxs := hxs.mono le1
 have hf1 : IntsF F1 v1 ((f)) := intsH.fz (xs := (f)) hz1.fz
 refine cX (XOp.build [v1, (.slice none 0 0)] [(.slice none 0 0), (.slice none 0 0)] [(0, 1), (1, 1)] [(0, [v1])] runUnderlying60 zeroValue60 rfl (.cons rfl sizeOf24 (.cons rfl sizeOf45 PlacesAre.nil)) rfl (.cons (cells_one (IntsF.isSl hf1)) CellsAre.nil) (cX (XOp.alloc [(.slice none 0 0), (.slice none 0 0)] zeroValue60 rfl ?_)))
 intro b3
 refine cX (XOp.storeN [] _ [v1, (.slice none 0 0)] sizeOf60 rfl rfl rfl (ones_cons (one_sl (IntsF.isSl hf1)) (ones_cons rfl ones_nil)) rfl rfl rfl (XL.nil (X.seq (X.seq (X.region (cX (XOp.fieldP (1) runUnderlying60 rfl sizeOf45 (by decide) rfl rfl (cX (XOp.load1 isAgg45 rfl (Rd.own [_, _] rfl rfl) (cX (XOp.lenS runUnderlying45 rfl hxs.slv (XL.mv (.int .i64 (0)) rfl (XL.nil (X.block (X.loop (α := Nat × Value × List StepT × List Value × List HP × Nat × FH) (fun xQ => [(2, ptr b2 0), (3, ptr b3 0), (11, xsv), (12, .int .i64 ((xs.length : Int))), (13, .int .i64 (((xQ.1 : Nat) : Int)))]) (fun xQ => slH 48 3 xQ.2.1 xQ.2.2.2.2.2.1 xQ.2.2.2.1 :: cellsH b3 [v1, xQ.2.1] 60 :: cellsH b2 [(.slice none 0 0), (.slice none 0 0)] 60 :: cellsH b1 [fv, xsv] 60 :: L) (fun xQ F' => xQ.2.2.2.2.2.2 = F' ∧ F1 ≤ xQ.2.2.2.2.2.2 ∧ (xQ.1 ≤ xs.length) ∧ (IsSl xQ.2.1) ∧ (StepsC xQ.2.2.2.2.2.2 xQ.2.2.2.1 xQ.2.2.1) ∧ (xQ.2.2.2.2.2.1 = xQ.2.2.1.length) ∧ (DeepL 3 (StepO 2) xQ.2.2.2.1 xQ.2.2.1 xQ.2.2.2.2.1) ∧ (Fresh F1 xQ.2.2.2.2.2.2 (star xQ.2.2.2.2.1)) ∧ (xQ.2.2.1 = xs.take xQ.1)) (fun xQ => xs.length - xQ.1) (0, (.slice none 0 0), [], [], [], 0, F1) ⟨rfl, rfl, rfl, rfl, rfl, trivial⟩ (Sub.trans (Sub.addNil 48 3 _ _) (sC (sC (sC (sC sR))))) ⟨rfl, FLe.refl _, (by (try dsimp only) <;> omega), (⟨_, _, _, rfl⟩), (CO.nil), (rfl), (DeepL.nil), (Fresh.nilL), (rfl)⟩ ?_)))))))))))))))
 rintro ⟨k, sv, ss, cs, Ls, m, G1⟩ rE _ _ ⟨rfl, leG, hk, hsv, hC, hm, hD, hZ, hss⟩
 show X _ _ _ _ (envs [(2, ptr b2 0), (3, ptr b3 0), (11, xsv), (12, .int .i64 ((xs.length : Int))), (13, .int .i64 ((k : Int)))] rE) _ (slH 48 3 sv m cs :: cellsH b3 [v1, sv] 60 :: cellsH b2 [(.slice none 0 0), (.slice none 0 0)] 60 :: cellsH b1 [fv, xsv] 60 :: L)
 replace leG : F1 ≤ G1 := leG
 dsimp only at hk hsv hC hm hD hZ hss
 have hxk := hxb k
 have hml : ss.length = k := by rw [hss, List.length_take]; omega
 have leG1 := leG
 replace hxs := hxs.mono leG1
 replace hf1 := hf1.mono leG1
 refine X.seq (X.region (cX (XOp.lss rfl rfl (XL.nil (X.seq ?_)))))
 refine X.condD (p := (k : Int) < (xs.length : Int)) rfl (fun h1 => ?_) (fun h1 => ?_)
 ·refine X.skip (X.seq (X.block (X.seq (X.region (cX (XOp.indexS k runUnderlying45 sizeOf48 rfl rfl rfl hxs.slv (by omega) rfl ?_))))))
  obtain ⟨a1, ha1, hr1, hr2, hr3⟩ := hxs.rd (i := k) (by omega)
  refine cX (XOp.loadN [.int .i64 ((xs.getD k (0, 0, [])).1), .int .i64 ((xs.getD k (0, 0, [])).2.1), a1] isAgg48 sizeOf48 rfl rfl (Rd.three (hr1 _) (hr2 _) (hr3 _)) (cX (XOp.alloc [.int .i64 (0), .int .i64 (0), (.slice none 0 0)] zeroValue48 rfl ?_)))
  intro b4
  refine cX (XOp.storeN [] _ [.int .i64 ((xs.getD k (0, 0, [])).1), .int .i64 ((xs.getD k (0, 0, [])).2.1), a1] sizeOf48 rfl rfl rfl (ones_cons rfl (ones_cons rfl (ones_cons (one_sl (IntsF.isSl ha1)) ones_nil))) rfl rfl rfl (XL.nil (X.region (cX (XOp.loadN [.int .i64 ((xs.getD k (0, 0, [])).1), .int .i64 ((xs.getD k (0, 0, [])).2.1), a1] isAgg48 sizeOf48 rfl rfl (Rd.ownN [] rfl rfl) (XL.weaken (Sub.front (A := [_])) ?_))))))
  show XL _ _ _ _ _ _ _ (slH 48 3 sv m cs :: cellsH b4 [.int .i64 ((xs.getD k (0, 0, [])).1), .int .i64 ((xs.getD k (0, 0, [])).2.1), a1] 48 :: cellsH b3 [v1, sv] 60 :: cellsH b2 [(.slice none 0 0), (.slice none 0 0)] 60 :: cellsH b1 [fv, xsv] 60 :: L)
  refine XL.weaken (Sub.front (A := [_, _])) ?_
  show XL _ _ _ _ _ _ _ (cellsH b3 [v1, sv] 60 :: slH 48 3 sv m cs :: cellsH b4 [.int .i64 ((xs.getD k (0, 0, [])).1), .int .i64 ((xs.getD k (0, 0, [])).2.1), a1] 48 :: cellsH b2 [(.slice none 0 0), (.slice none 0 0)] 60 :: cellsH b1 [fv, xsv] 60 :: L)
  refine cX (XOp.call (args := [ptr b3 0, .agg #[.int .i64 ((xs.getD k (0, 0, [])).1), .int .i64 ((xs.getD k (0, 0, [])).2.1), a1]]) call145 rfl (walkAdd_spec ha1 hsv hC (by first | rfl | assumption | omega) (by omega) (by omega)) ?_)
  rintro _ F2 _ le2 ⟨sw1, cw1, hs2, hw1, hf2, rfl⟩
  replace hf1 := hf1.mono le2
  replace hC := hC.mono le2
  have hc1 := StepsC.snoc hC (i := (xs.getD k (0, 0, [])).1) (j := (xs.getD k (0, 0, [])).2.1) hw1
  show XL _ _ _ _ _ _ _ (cellsH b3 [v1, sw1] 60 :: slH 48 3 sw1 ((m) + 1) ((cs ++ [.int .i64 ((xs.getD k (0, 0, [])).1), .int .i64 ((xs.getD k (0, 0, [])).2.1), cw1])) :: cellsH b4 [.int .i64 ((xs.getD k (0, 0, [])).1), .int .i64 ((xs.getD k (0, 0, [])).2.1), a1] 48 :: cellsH b2 [(.slice none 0 0), (.slice none 0 0)] 60 :: cellsH b1 [fv, xsv] 60 :: L)
  refine XL.nil (X.region (cX (XOp.addR (((k + 1 : Nat) : Int)) rfl rfl (by omega) (by omega) (XL.mv (.int .i64 (((k + 1 : Nat) : Int))) rfl (XL.nil ?_)))))
  exact ⟨(k + 1, sw1, (ss ++ [((xs.getD k (0, 0, [])).1, (xs.getD k (0, 0, [])).2.1, (xs.getD k (0, 0, [])).2.2)]), (cs ++ [.int .i64 ((xs.getD k (0, 0, [])).1), .int .i64 ((xs.getD k (0, 0, [])).2.1), cw1]), Ls ++ [intsH 2 cw1 ((xs.getD k (0, 0, [])).2.2)], (m) + 1, F2), _, (FLe.trans leG1 le2), rF, ⟨rfl, rfl, rfl, rfl, rfl, trivial⟩, (Sub.trans (Sub.front (A := [_, _, _, _])) (Sub.trans (Sub.front (A := [_, _, _, _])) (Sub.trans (Sub.front (A := [_, _])) (Sub.trans (Sub.front (A := [_, _, _])) (sC (sC (sC (sC (sD sR))))))))), ⟨rfl, (FLe.trans leG1 le2), (by (try dsimp only) <;> omega), (hs2), (hc1), (by (try dsimp only); rw [List.length_append]; simp only [List.length_singleton]; omega), (DeepL.snoc hD rfl ⟨_, rfl, rfl⟩), ((Fresh.app hZ leG1 (Fresh.one hf2) le2)), (by (try dsimp only); rw [take_succ_getD (0, 0, []) (by omega), ← hss])⟩, (by omega)⟩
 refine X.exit (thenQ_exit (thenQ_exit (blockQ_exit (X.seq (X.region (cX (XOp.loadN [v1, sv] isAgg60 sizeOf60 rfl rfl (Rd.ownN [_] rfl rfl) (cX (XOp.storeN [_, _] _ [v1, sv] sizeOf60 rfl rfl rfl (ones_cons (one_sl (IntsF.isSl hf1)) (ones_cons (one_sl hsv) ones_nil)) rfl rfl rfl (XL.nil (X.freezeF [] _ _ rfl (fun F3 le3 hz2 => ?_))))))))))))
 replace hf1 := hf1.mono le3
 replace hC := hC.mono le3
 have hf3 : StepsF F3 sv ss := CO.fz hC (by first | rfl | omega | (rw [List.length_set]; omega) | (simp; done)) hz2.fz
 refine X.ret (retEnd (L' := L) [.agg #[v1, sv]] (.agg #[v1, sv]) (.cell rfl (loadNV [v1, sv] isAgg60 sizeOf60 rfl (Rd.ownN [_] rfl rfl)) .nil) rfl (FLe.trans (FLe.trans le1 leG1) le3) rF (sD (sD (sD sR))) ?_)
 have e9 : ss = xs := by rw [hss, List.take_of_length_le (by omega)]
 subst e9
 exact ⟨_, _, rfl, hf1, hf3, (Fresh.app (Fresh.one hz1) le1 (Fresh.one (Fresh.deep hD hZ leG1 hz2 (by omega) le3)) (FLe.trans leG1 le3)), rfl⟩

/- impl.joinWalks -/
set_option maxRecDepth 20000 in
theorem joinWalks_spec {F : FH} {L : List HP} {fv : Value} {f : List Int} (hf : IntsF F fv f) {xsv : Value} {xs : List StepT} (hxs : StepsF F xsv xs) {gv : Value} {g : List Int} (hg : IntsF F gv g) {ysv : Value} {ys : List StepT} (hys : StepsF F ysv ys) (hlf : f.length ≤ 60) (hlx : xs.length ≤ 60) (hxb : ∀ i, i < xs.length → (xs.getD i (0, 0, [])).2.2.length ≤ 60) (hlg : g.length ≤ 60) (hly : ys.length ≤ 60) (hyb : ∀ i, i < ys.length → (ys.getD i (0, 0, [])).2.2.length ≤ 60) :
    Does prog 104 [.agg #[fv, xsv], .agg #[gv, ysv]] F (L) (fun v F' L' => ∃ (a : Value), ∃ (b : Value), (.tuple #[.agg #[a, b], .bool ((joinW f xs g ys).2.2)] : Value) = v ∧ (IntsF F' a (joinW f xs g ys).1) ∧ (StepsF F' b (joinW f xs g ys).2.1) ∧ (Fresh F F' (star [intsH 2 a (joinW f xs g ys).1, stepsD 2 48 b (joinW f xs g ys).2.1])) ∧ L = L') := by
 refine Does.of_X func104 rfl rfl rfl ?_
 have hel : (endL f xs).length ≤ 60 := by unfold endL; split <;> first | exact hlf | exact hxb _ (by omega)
 refine X.seq (X.region (cX (XOp.box [fv, xsv] rfl rfl ?_)))
 intro b1
 refine cX (XOp.box [gv, ysv] rfl rfl ?_)
 intro b2
 refine cX (XOp.alloc [(.slice none 0 0), (.slice none 0 0)] zeroValue60 rfl ?_)
 intro b3
 refine XL.as (.bool (false)) rfl (XL.nil (X.seq (X.seq ?_)))
 by_cases h1 : ¬((endL f xs) = g)
 ·have hjoin : endL f xs ≠ g := by simpa using h1
  refine X.drawG [cellsH b3 [(.slice none 0 0), (.slice none 0 0)] 60, cellsH b2 [gv, ysv] 60, cellsH b1 [fv, xsv] 60] L 13 [[], [], [], [], [], [], [], [], [], [], [], [], []] [[], [0], [], [2], [1, 3], [4], [5], [6], [6, 7], [6, 8], [6], [6, 10], [6, 11]] [[], [], [], [], [], [], [], [], [], [], [], [], []] (phiG [fun FF us v => v = (.agg #[fv, xsv] : Value), fun FF us v => ((v) : Value) = v ∧ (IntsF FF (v) (endL f xs)), fun FF us v => v = ptr b2 0, fun FF us v => v = gv, fun FF us v => v = (.bool (decide ((endL f xs) = g)) : Value), fun FF us v => v = (.bool (decide (¬((endL f xs) = g))) : Value), fun FF us v => v = (.bool (decide (¬((endL f xs) = g))) : Value), fun FF us v => v = undef, fun FF us v => v = undef, fun FF us v => v = undef, fun FF us v => v = undef, fun FF us v => v = undef, fun FF us v => v = undef]) (ownL [fun us v => [], fun us v => [], fun us v => [], fun us v => [], fun us v => [], fun us v => [], fun us v => [], fun us v => [], fun us v => [], fun us v => [], fun us v => [], fun us v => [], fun us v => []]) mixed rfl rfl (by kernel_rfl) (by kernel_rfl) (MonoG.get (mC (fun le h => h) (mC (fun le h => ⟨h.1, h.2.mono le⟩) (mC (fun le h => h) (mC (fun le h => h) (mC (fun le h => h) (mC (fun le h => h) (mC (fun le h => h) (mC (fun le h => h) (mC (fun le h => h) (mC (fun le h => h) (mC (fun le h => h) (mC (fun le h => h) (mC (fun le h => h) MonoG.nil)))))))))))))) ?_ ?_
  ·refine gC (fun vals Fs R leFs hpZ => ?_) ?_
   ·replace hf := hf.mono leFs
    replace hxs := hxs.mono leFs
    replace hg := hg.mono leFs
    replace hys := hys.mono leFs
    refine XG.op (XOp.loadN [fv, xsv] isAgg60 sizeOf60 rfl rfl (Rd.ownN [_, _] rfl rfl) ?_)
    exact ⟨rfl, rfl⟩
   refine gC (fun vals Fs R leFs hpZ => ?_) ?_
   ·replace hf := hf.mono leFs
    replace hxs := hxs.mono leFs
    replace hg := hg.mono leFs
    replace hys := hys.mono leFs
    rw [eS (l := [(0, (.agg #[fv, xsv] : Value))]) ⟨(hpZ 0 (by decide)), trivial⟩]
    refine XG.op (XOp.call (args := [.agg #[fv, xsv]]) call99 rfl (walkEnd_spec hf hxs (hlss := (by first | assumption | rfl | omega | simp))) ?_)
    rintro _ _ _ _ ⟨rfl, x3, rfl, hr3, rfl⟩
    exact ⟨⟨rfl, hr3⟩, rfl⟩
   refine gC (fun vals Fs R leFs hpZ => ?_) ?_
   ·refine XG.op (XOp.fieldP (0) runUnderlying60 rfl sizeOf24 (by decide) rfl rfl ?_)
    exact ⟨rfl, rfl⟩
   refine gC (fun vals Fs R leFs hpZ => ?_) ?_
   ·replace hf := hf.mono leFs
    replace hxs := hxs.mono leFs
    replace hg := hg.mono leFs
    replace hys := hys.mono leFs
    rw [eS (l := [(2, ptr b2 0)]) ⟨(hpZ 2 (by decide)), trivial⟩]
    refine XG.op (XOp.load1 isAgg24 rfl (Rd.own [_] rfl rfl) ?_)
    exact ⟨rfl, rfl⟩
   refine gC (fun vals Fs R leFs hpZ => ?_) ?_
   ·obtain ⟨e1, f1_2hr⟩ := hpZ 1 (by decide)
    replace hf := hf.mono leFs
    replace hxs := hxs.mono leFs
    replace hg := hg.mono leFs
    replace hys := hys.mono leFs
    rw [eS (l := [(1, ((vals 1))), (3, gv)]) ⟨(e1).symm, (hpZ 3 (by decide)), trivial⟩]
    refine XG.op (XOp.call (args := [((vals 1)), gv]) call73 rfl (Equal_spec f1_2hr hg (hbd := (by first | assumption | rfl | omega | (left; simp; done) | (right; simp; done)))) ?_)
    rintro _ _ _ _ ⟨rfl, rfl, rfl⟩
    exact ⟨rfl, rfl⟩
   refine gC (fun vals Fs R leFs hpZ => ?_) ?_
   ·rw [eS (l := [(4, (.bool (decide ((endL f xs) = g)) : Value))]) ⟨(hpZ 4 (by decide)), trivial⟩]
    refine XG.op (XOp.notD rfl ?_)
    exact ⟨rfl, rfl⟩
   refine gC (fun vals Fs R leFs hpZ => ?_) ?_
   ·rw [eS (l := [(5, (.bool (decide (¬((endL f xs) = g))) : Value))]) ⟨(hpZ 5 (by decide)), trivial⟩]
    refine XG.op (XOp.move (.bool (decide (¬((endL f xs) = g)))) rfl ?_)
    exact ⟨rfl, rfl⟩
   refine gC (fun vals Fs R leFs hpZ => ?_) ?_
   ·rw [eS (l := [(6, (.bool (decide (¬((endL f xs) = g))) : Value))]) ⟨(hpZ 6 (by decide)), trivial⟩]
    exact XG.no (t := 15) rfl (vT h1) ⟨rfl, rfl⟩
   refine gC (fun vals Fs R leFs hpZ => ?_) ?_
   ·replace hf := hf.mono leFs
    replace hxs := hxs.mono leFs
    replace hg := hg.mono leFs
    replace hys := hys.mono leFs
    rw [eS (l := [(6, (.bool (decide (¬((endL f xs) = g))) : Value)), (7, undef)]) ⟨(hpZ 6 (by decide)), (hpZ 7 (by decide)), trivial⟩]
    exact XG.no (t := 15) rfl (vT h1) ⟨rfl, rfl⟩
   refine gC (fun vals Fs R leFs hpZ => ?_) ?_
   ·replace hf := hf.mono leFs
    replace hxs := hxs.mono leFs
    replace hg := hg.mono leFs
    replace hys := hys.mono leFs
    rw [eS (l := [(6, (.bool (decide (¬((endL f xs) = g))) : Value)), (8, undef)]) ⟨(hpZ 6 (by decide)), (hpZ 8 (by decide)), trivial⟩]
    exact XG.no (t := 15) rfl (vT h1) ⟨rfl, rfl⟩
   refine gC (fun vals Fs R leFs hpZ => ?_) ?_
   ·rw [eS (l := [(6, (.bool (decide (¬((endL f xs) = g))) : Value))]) ⟨(hpZ 6 (by decide)), trivial⟩]
    exact XG.no (t := 15) rfl (vT h1) ⟨rfl, rfl⟩
   refine gC (fun vals Fs R leFs hpZ => ?_) ?_
   ·replace hf := hf.mono leFs
    replace hxs := hxs.mono leFs
    replace hg := hg.mono leFs
    replace hys := hys.mono leFs
    rw [eS (l := [(6, (.bool (decide (¬((endL f xs) = g))) : Value)), (10, undef)]) ⟨(hpZ 6 (by decide)), (hpZ 10 (by decide)), trivial⟩]
    exact XG.no (t := 15) rfl (vT h1) ⟨rfl, rfl⟩
   refine gC (fun vals Fs R leFs hpZ => ?_) ?_
   ·replace hf := hf.mono leFs
    replace hxs := hxs.mono leFs
    replace hg := hg.mono leFs
    replace hys := hys.mono leFs
    rw [eS (l := [(6, (.bool (decide (¬((endL f xs) = g))) : Value)), (11, undef)]) ⟨(hpZ 6 (by decide)), (hpZ 11 (by decide)), trivial⟩]
    exact XG.no (t := 15) rfl (vT h1) ⟨rfl, rfl⟩
   exact stepsG.nil
  intro vals F4 le4 hphi
  obtain ⟨e1, f1_2hr⟩ := hphi 1 (by decide)
  generalize hu1 : ((vals 1)) = u1 at e1 f1_2hr
  rw [eS (l := [(6, (.bool (decide (¬((endL f xs) = g))) : Value)), (9, undef), (12, undef)]) ⟨(hphi 6 (by decide)), (hphi 9 (by decide)), (hphi 12 (by decide)), trivial⟩]
  replace hf := hf.mono le4
  replace hxs := hxs.mono le4
  replace hg := hg.mono le4
  replace hys := hys.mono le4
  show XL _ _ _ _ _ _ _ (cellsH b3 [(.slice none 0 0), (.slice none 0 0)] 60 :: cellsH b2 [gv, ysv] 60 :: cellsH b1 [fv, xsv] 60 :: L)
  refine XL.no (t := 15) rfl (vT h1) (XL.no (t := 15) rfl (vT h1) (cX (XOp.pickT (.bool (true)) (vT h1) rfl (XL.nil (X.condT rfl (X.seq (X.region (cX (XOp.build [(.slice none 0 0), (.slice none 0 0)] [(.slice none 0 0), (.slice none 0 0)] [(0, 1), (1, 1)] [] runUnderlying60 zeroValue60 rfl (.cons rfl sizeOf24 (.cons rfl sizeOf45 PlacesAre.nil)) rfl CellsAre.nil (cX (XOp.storeN [] _ [(.slice none 0 0), (.slice none 0 0)] sizeOf60 rfl rfl rfl (ones_cons rfl (ones_cons rfl ones_nil)) rfl rfl rfl (XL.as (.bool (false)) rfl (XL.nil ?_)))))))))))))
  refine X.ret (thenQ_ret (retEnd (L' := L) [.agg #[(.slice none 0 0), (.slice none 0 0)], .bool (false)] (.tuple #[.agg #[(.slice none 0 0), (.slice none 0 0)], .bool (false)]) (.cell rfl (loadNV [(.slice none 0 0), (.slice none 0 0)] isAgg60 sizeOf60 rfl (Rd.ownN [] rfl rfl)) (.tmp rfl .nil)) rfl le4 rF (sD (sD (sD sR))) ?_))
  have e : joinW f xs g ys = ([], [], false) := by first | exact joinW_no hjoin | exact joinW_long (by omega)
  exact ⟨_, _, by rw [e], by rw [e]; exact IntsF.nilV, by rw [e]; exact SlOf.nilV, by rw [e]; exact Fresh.empty nilWalk, rfl⟩
 have hjoin : endL f xs = g := by simpa using h1
 refine X.drawG [cellsH b3 [(.slice none 0 0), (.slice none 0 0)] 60, cellsH b2 [gv, ysv] 60, cellsH b1 [fv, xsv] 60] L 13 [[], [], [], [], [], [], [], [], [], [], [], [], []] [[], [0], [], [2], [1, 3], [4], [5], [6], [6, 7], [6, 8], [6], [6, 10], [6, 11]] [[], [], [], [], [], [], [], [], [], [], [], [], []] (phiG [fun FF us v => v = (.agg #[fv, xsv] : Value), fun FF us v => ((v) : Value) = v ∧ (IntsF FF (v) (endL f xs)), fun FF us v => v = ptr b2 0, fun FF us v => v = gv, fun FF us v => v = (.bool (decide ((endL f xs) = g)) : Value), fun FF us v => v = (.bool (decide (¬((endL f xs) = g))) : Value), fun FF us v => v = (.bool (decide (¬((endL f xs) = g))) : Value), fun FF us v => v = ptr b1 1, fun FF us v => v = xsv, fun FF us v => v = (.int .i64 ((xs.length : Int)) : Value), fun FF us v => v = ptr b2 1, fun FF us v => v = ysv, fun FF us v => v = (.int .i64 ((ys.length : Int)) : Value)]) (ownL [fun us v => [], fun us v => [], fun us v => [], fun us v => [], fun us v => [], fun us v => [], fun us v => [], fun us v => [], fun us v => [], fun us v => [], fun us v => [], fun us v => [], fun us v => []]) mixed rfl rfl (by kernel_rfl) (by kernel_rfl) (MonoG.get (mC (fun le h => h) (mC (fun le h => ⟨h.1, h.2.mono le⟩) (mC (fun le h => h) (mC (fun le h => h) (mC (fun le h => h) (mC (fun le h => h) (mC (fun le h => h) (mC (fun le h => h) (mC (fun le h => h) (mC (fun le h => h) (mC (fun le h => h) (mC (fun le h => h) (mC (fun le h => h) MonoG.nil)))))))))))))) ?_ ?_
 ·refine gC (fun vals Fs R leFs hpZ => ?_) ?_
  ·replace hf := hf.mono leFs
   replace hxs := hxs.mono leFs
   replace hg := hg.mono leFs
   replace hys := hys.mono leFs
   refine XG.op (XOp.loadN [fv, xsv] isAgg60 sizeOf60 rfl rfl (Rd.ownN [_, _] rfl rfl) ?_)
   exact ⟨rfl, rfl⟩
  refine gC (fun vals Fs R leFs hpZ => ?_) ?_
  ·replace hf := hf.mono leFs
   replace hxs := hxs.mono leFs
   replace hg := hg.mono leFs
   replace hys := hys.mono leFs
   rw [eS (l := [(0, (.agg #[fv, xsv] : Value))]) ⟨(hpZ 0 (by decide)), trivial⟩]
   refine XG.op (XOp.call (args := [.agg #[fv, xsv]]) call99 rfl (walkEnd_spec hf hxs (hlss := (by first | assumption | rfl | omega | simp))) ?_)
   rintro _ _ _ _ ⟨rfl, x5, rfl, hr5, rfl⟩
   exact ⟨⟨rfl, hr5⟩, rfl⟩
  refine gC (fun vals Fs R leFs hpZ => ?_) ?_
  ·refine XG.op (XOp.fieldP (0) runUnderlying60 rfl sizeOf24 (by decide) rfl rfl ?_)
   exact ⟨rfl, rfl⟩
  refine gC (fun vals Fs R leFs hpZ => ?_) ?_
  ·replace hf := hf.mono leFs
   replace hxs := hxs.mono leFs
   replace hg := hg.mono leFs
   replace hys := hys.mono leFs
   rw [eS (l := [(2, ptr b2 0)]) ⟨(hpZ 2 (by decide)), trivial⟩]
   refine XG.op (XOp.load1 isAgg24 rfl (Rd.own [_] rfl rfl) ?_)
   exact ⟨rfl, rfl⟩
  refine gC (fun vals Fs R leFs hpZ => ?_) ?_
  ·obtain ⟨e1, f1_3hr⟩ := hpZ 1 (by decide)
   replace hf := hf.mono leFs
   replace hxs := hxs.mono leFs
   replace hg := hg.mono leFs
   replace hys := hys.mono leFs
   rw [eS (l := [(1, ((vals 1))), (3, gv)]) ⟨(e1).symm, (hpZ 3 (by decide)), trivial⟩]
   refine XG.op (XOp.call (args := [((vals 1)), gv]) call73 rfl (Equal_spec f1_3hr hg (hbd := (by first | assumption | rfl | omega | (left; simp; done) | (right; simp; done)))) ?_)
   rintro _ _ _ _ ⟨rfl, rfl, rfl⟩
   exact ⟨rfl, rfl⟩
  refine gC (fun vals Fs R leFs hpZ => ?_) ?_
  ·rw [eS (l := [(4, (.bool (decide ((endL f xs) = g)) : Value))]) ⟨(hpZ 4 (by decide)), trivial⟩]
   refine XG.op (XOp.notD rfl ?_)
   exact ⟨rfl, rfl⟩
  refine gC (fun vals Fs R leFs hpZ => ?_) ?_
  ·rw [eS (l := [(5, (.bool (decide (¬((endL f xs) = g))) : Value))]) ⟨(hpZ 5 (by decide)), trivial⟩]
   refine XG.op (XOp.move (.bool (decide (¬((endL f xs) = g)))) rfl ?_)
   exact ⟨rfl, rfl⟩
  refine gC (fun vals Fs R leFs hpZ => ?_) ?_
  ·rw [eS (l := [(6, (.bool (decide (¬((endL f xs) = g))) : Value))]) ⟨(hpZ 6 (by decide)), trivial⟩]
   refine XG.yes (t := 15) rfl (vF h1) (XOp.fieldP (1) runUnderlying60 rfl sizeOf45 (by decide) rfl rfl ?_)
   exact ⟨rfl, rfl⟩
  refine gC (fun vals Fs R leFs hpZ => ?_) ?_
  ·replace hf := hf.mono leFs
   replace hxs := hxs.mono leFs
   replace hys := hys.mono leFs
   rw [eS (l := [(6, (.bool (decide (¬((endL f xs) = g))) : Value)), (7, ptr b1 1)]) ⟨(hpZ 6 (by decide)), (hpZ 7 (by decide)), trivial⟩]
   refine XG.yes (t := 15) rfl (vF h1) (XOp.load1 isAgg45 rfl (Rd.own [_, _] rfl rfl) ?_)
   exact ⟨rfl, rfl⟩
  refine gC (fun vals Fs R leFs hpZ => ?_) ?_
  ·replace hf := hf.mono leFs
   replace hxs := hxs.mono leFs
   replace hys := hys.mono leFs
   rw [eS (l := [(6, (.bool (decide (¬((endL f xs) = g))) : Value)), (8, xsv)]) ⟨(hpZ 6 (by decide)), (hpZ 8 (by decide)), trivial⟩]
   refine XG.yes (t := 15) rfl (vF h1) (XOp.lenS runUnderlying45 rfl hxs.slv ?_)
   exact ⟨rfl, rfl⟩
  refine gC (fun vals Fs R leFs hpZ => ?_) ?_
  ·rw [eS (l := [(6, (.bool (decide (¬((endL f xs) = g))) : Value))]) ⟨(hpZ 6 (by decide)), trivial⟩]
   refine XG.yes (t := 15) rfl (vF h1) (XOp.fieldP (1) runUnderlying60 rfl sizeOf45 (by decide) rfl rfl ?_)
   exact ⟨rfl, rfl⟩
  refine gC (fun vals Fs R leFs hpZ => ?_) ?_
  ·replace hf := hf.mono leFs
   replace hxs := hxs.mono leFs
   replace hys := hys.mono leFs
   rw [eS (l := [(6, (.bool (decide (¬((endL f xs) = g))) : Value)), (10, ptr b2 1)]) ⟨(hpZ 6 (by decide)), (hpZ 10 (by decide)), trivial⟩]
   refine XG.yes (t := 15) rfl (vF h1) (XOp.load1 isAgg45 rfl (Rd.own [_] rfl rfl) ?_)
   exact ⟨rfl, rfl⟩
  refine gC (fun vals Fs R leFs hpZ => ?_) ?_
  ·replace hf := hf.mono leFs
   replace hxs := hxs.mono leFs
   replace hys := hys.mono leFs
   rw [eS (l := [(6, (.bool (decide (¬((endL f xs) = g))) : Value)), (11, ysv)]) ⟨(hpZ 6 (by decide)), (hpZ 11 (by decide)), trivial⟩]
   refine XG.yes (t := 15) rfl (vF h1) (XOp.lenS runUnderlying45 rfl hys.slv ?_)
   exact ⟨rfl, rfl⟩
  exact stepsG.nil
 intro vals F7 le7 hphi
 obtain ⟨e1, f1_3hr⟩ := hphi 1 (by decide)
 generalize hu2 : ((vals 1)) = u2 at e1 f1_3hr
 rw [eS (l := [(6, (.bool (decide (¬((endL f xs) = g))) : Value)), (9, (.int .i64 ((xs.length : Int)) : Value)), (12, (.int .i64 ((ys.length : Int)) : Value))]) ⟨(hphi 6 (by decide)), (hphi 9 (by decide)), (hphi 12 (by decide)), trivial⟩]
 replace hf := hf.mono le7
 replace hxs := hxs.mono le7
 replace hys := hys.mono le7
 show XL _ _ _ _ _ _ _ (cellsH b3 [(.slice none 0 0), (.slice none 0 0)] 60 :: cellsH b2 [gv, ysv] 60 :: cellsH b1 [fv, xsv] 60 :: L)
 refine XL.yes (t := 15) rfl (vF h1) (XOp.addR (((((xs).length) + ((ys).length) : Nat) : Int)) rfl rfl (by omega) (by omega) (XL.yes (t := 15) rfl (vF h1) (XOp.gtr rfl rfl (cX (XOp.pickF (.bool (decide ((((((xs).length) + ((ys).length) : Nat) : Int) : Int) > 60))) (vF h1) rfl (XL.nil ?_))))))
 refine X.condD (p := (((((xs).length) + ((ys).length) : Nat) : Int) : Int) > 60) rfl (fun h2 => ?_) (fun h2 => ?_)
 ·refine X.seq (X.region (cX (XOp.build [(.slice none 0 0), (.slice none 0 0)] [(.slice none 0 0), (.slice none 0 0)] [(0, 1), (1, 1)] [] runUnderlying60 zeroValue60 rfl (.cons rfl sizeOf24 (.cons rfl sizeOf45 PlacesAre.nil)) rfl CellsAre.nil (cX (XOp.storeN [] _ [(.slice none 0 0), (.slice none 0 0)] sizeOf60 rfl rfl rfl (ones_cons rfl (ones_cons rfl ones_nil)) rfl rfl rfl (XL.as (.bool (false)) rfl (XL.nil (X.ret (thenQ_ret (retEnd (L' := L) [.agg #[(.slice none 0 0), (.slice none 0 0)], .bool (false)] (.tuple #[.agg #[(.slice none 0 0), (.slice none 0 0)], .bool (false)]) (.cell rfl (loadNV [(.slice none 0 0), (.slice none 0 0)] isAgg60 sizeOf60 rfl (Rd.ownN [] rfl rfl)) (.tmp rfl .nil)) rfl le7 rF (sD (sD (sD sR))) ?_))))))))))
  have e : joinW f xs g ys = ([], [], false) := by first | exact joinW_no hjoin | exact joinW_long (by omega)
  exact ⟨_, _, by rw [e], by rw [e]; exact IntsF.nilV, by rw [e]; exact SlOf.nilV, by rw [e]; exact Fresh.empty nilWalk, rfl⟩
 refine X.skip (X.seq (X.region (cX (XOp.loadN [fv, xsv] isAgg60 sizeOf60 rfl rfl (Rd.ownN [_, _] rfl rfl) (cX (XOp.thawL (id (XOp.call (args := [.agg #[fv, xsv]]) call144 rfl (cloneWalk_spec hf hxs (hlf := (by first | assumption | rfl | omega | simp)) (hlx := (by first | assumption | rfl | omega | simp)) (hxb := (hxb))) ?_))))))))
 rintro _ F8 _ le8 ⟨x6, x7, rfl, hr6, hr7, hr8, rfl⟩
 refine ⟨[intsH 2 x6 f, stepsD 2 48 x7 xs], hr8, ?_⟩
 show XL _ _ _ _ _ _ _ (intsH 2 x6 f :: stepsD 2 48 x7 xs :: cellsH b3 [(.slice none 0 0), (.slice none 0 0)] 60 :: cellsH b2 [gv, ysv] 60 :: cellsH b1 [fv, xsv] 60 :: L)
 refine cX (XOp.alloc [(.slice none 0 0), (.slice none 0 0)] zeroValue60 rfl ?_)
 intro b4
 refine cX (XOp.storeN [] _ [x6, x7] sizeOf60 rfl rfl rfl (ones_cons (one_sl (IntsF.isSl hr6)) (ones_cons (one_sl (StepsF.isSl hr7)) ones_nil)) rfl rfl rfl (XL.nil (X.seq (X.seq (X.region (XL.openD [_, _] _ rfl (fun cs1 Ls1 F9 le9 hs1 hD1 hZ1 => ?_)))))))
 replace hys := hys.mono le9
 have hc1 := hD1.steps hZ1
 show XL _ _ _ _ _ _ _ (cellsH b4 [x6, x7] 60 :: intsH 2 x6 f :: slH 48 3 x7 xs.length cs1 :: cellsH b3 [(.slice none 0 0), (.slice none 0 0)] 60 :: cellsH b2 [gv, ysv] 60 :: cellsH b1 [fv, xsv] 60 :: L)
 skip
 refine cX (XOp.fieldP (1) runUnderlying60 rfl sizeOf45 (by decide) rfl rfl (cX (XOp.load1 isAgg45 rfl (Rd.own [_, _, _, _] rfl rfl) (cX (XOp.lenS runUnderlying45 rfl hys.slv (XL.mv (.int .i64 (0)) rfl (XL.nil (X.block (X.loop (α := Nat × Value × List StepT × List Value × List HP × Nat × FH) (fun xQ => [(4, ptr b3 0), (6, ptr b4 0), (29, ysv), (30, .int .i64 ((ys.length : Int))), (31, .int .i64 (((xQ.1 : Nat) : Int)))]) (fun xQ => slH 48 3 xQ.2.1 xQ.2.2.2.2.2.1 xQ.2.2.2.1 :: cellsH b4 [x6, xQ.2.1] 60 :: intsH 2 x6 f :: cellsH b3 [(.slice none 0 0), (.slice none 0 0)] 60 :: cellsH b2 [gv, ysv] 60 :: cellsH b1 [fv, xsv] 60 :: L) (fun xQ F' => xQ.2.2.2.2.2.2 = F' ∧ F9 ≤ xQ.2.2.2.2.2.2 ∧ (xQ.1 ≤ ys.length) ∧ (IsSl xQ.2.1) ∧ (StepsC xQ.2.2.2.2.2.2 xQ.2.2.2.1 xQ.2.2.1) ∧ (xQ.2.2.2.2.2.1 = xQ.2.2.1.length) ∧ (DeepL 3 (StepO 2) xQ.2.2.2.1 xQ.2.2.1 xQ.2.2.2.2.1) ∧ (Fresh F7 xQ.2.2.2.2.2.2 (star xQ.2.2.2.2.1)) ∧ (xQ.2.2.1 = xs ++ ys.take xQ.1)) (fun xQ => ys.length - xQ.1) (0, x7, xs, cs1, Ls1, xs.length, F9) ⟨rfl, rfl, rfl, rfl, rfl, trivial⟩ (Sub.trans (Sub.front (A := [_, _, _, _, _])) (Sub.trans (Sub.front (A := [_, _, _, _, _])) (Sub.trans (Sub.front (A := [_, _, _, _, _])) (Sub.trans (Sub.front (A := [_, _, _, _])) (Sub.trans (Sub.front (A := [_, _, _, _])) (Sub.trans (Sub.front (A := [_, _, _, _, _])) (sC (sC (sC (sC (sC (sC sR)))))))))))) ⟨rfl, FLe.refl _, (by (try dsimp only) <;> omega), (hs1), (hc1), (rfl), (hD1), (hZ1), (by simp)⟩ ?_)))))))))
 rintro ⟨k, sv, ss, cs, Ls, m, G1⟩ rE _ _ ⟨rfl, leG, hk, hsv, hC, hm, hD, hZ, hss⟩
 show X _ _ _ _ (envs [(4, ptr b3 0), (6, ptr b4 0), (29, ysv), (30, .int .i64 ((ys.length : Int))), (31, .int .i64 ((k : Int)))] rE) _ (slH 48 3 sv m cs :: cellsH b4 [x6, sv] 60 :: intsH 2 x6 f :: cellsH b3 [(.slice none 0 0), (.slice none 0 0)] 60 :: cellsH b2 [gv, ysv] 60 :: cellsH b1 [fv, xsv] 60 :: L)
 replace leG : F9 ≤ G1 := leG
 dsimp only at hk hsv hC hm hD hZ hss
 have hyk := hyb k
 have hml : ss.length = xs.length + k := by rw [hss, List.length_append, List.length_take]; omega
 have leG1 := leG
 replace hys := hys.mono leG1
 refine X.seq (X.region (cX (XOp.lss rfl rfl (XL.nil (X.seq ?_)))))
 refine X.condD (p := (k : Int) < (ys.length : Int)) rfl (fun h3 => ?_) (fun h3 => ?_)
 ·refine X.skip (X.seq (X.block (X.seq (X.region (cX (XOp.indexS k runUnderlying45 sizeOf48 rfl rfl rfl hys.slv (by omega) rfl ?_))))))
  obtain ⟨a1, ha1, hr9, hr10, hr11⟩ := hys.rd (i := k) (by omega)
  refine cX (XOp.loadN [.int .i64 ((ys.getD k (0, 0, [])).1), .int .i64 ((ys.getD k (0, 0, [])).2.1), a1] isAgg48 sizeOf48 rfl rfl (Rd.three (hr9 _) (hr10 _) (hr11 _)) (cX (XOp.alloc [.int .i64 (0), .int .i64 (0), (.slice none 0 0)] zeroValue48 rfl ?_)))
  intro b5
  refine cX (XOp.storeN [] _ [.int .i64 ((ys.getD k (0, 0, [])).1), .int .i64 ((ys.getD k (0, 0, [])).2.1), a1] sizeOf48 rfl rfl rfl (ones_cons rfl (ones_cons rfl (ones_cons (one_sl (IntsF.isSl ha1)) ones_nil))) rfl rfl rfl (XL.nil (X.region (cX (XOp.loadN [.int .i64 ((ys.getD k (0, 0, [])).1), .int .i64 ((ys.getD k (0, 0, [])).2.1), a1] isAgg48 sizeOf48 rfl rfl (Rd.ownN [] rfl rfl) (XL.weaken (Sub.front (A := [_])) ?_))))))
  show XL _ _ _ _ _ _ _ (slH 48 3 sv m cs :: cellsH b5 [.int .i64 ((ys.getD k (0, 0, [])).1), .int .i64 ((ys.getD k (0, 0, [])).2.1), a1] 48 :: cellsH b4 [x6, sv] 60 :: intsH 2 x6 f :: cellsH b3 [(.slice none 0 0), (.slice none 0 0)] 60 :: cellsH b2 [gv, ysv] 60 :: cellsH b1 [fv, xsv] 60 :: L)
  refine XL.weaken (Sub.front (A := [_, _])) ?_
  show XL _ _ _ _ _ _ _ (cellsH b4 [x6, sv] 60 :: slH 48 3 sv m cs :: cellsH b5 [.int .i64 ((ys.getD k (0, 0, [])).1), .int .i64 ((ys.getD k (0, 0, [])).2.1), a1] 48 :: intsH 2 x6 f :: cellsH b3 [(.slice none 0 0), (.slice none 0 0)] 60 :: cellsH b2 [gv, ysv] 60 :: cellsH b1 [fv, xsv] 60 :: L)
  refine cX (XOp.call (args := [ptr b4 0, .agg #[.int .i64 ((ys.getD k (0, 0, [])).1), .int .i64 ((ys.getD k (0, 0, [])).2.1), a1]]) call145 rfl (walkAdd_spec ha1 hsv hC (by first | rfl | assumption | omega) (by omega) (by omega)) ?_)
  rintro _ F10 _ le10 ⟨sw1, cw1, hs2, hw1, hf1, rfl⟩
  replace hC := hC.mono le10
  have hc2 := StepsC.snoc hC (i := (ys.getD k (0, 0, [])).1) (j := (ys.getD k (0, 0, [])).2.1) hw1
  show XL _ _ _ _ _ _ _ (cellsH b4 [x6, sw1] 60 :: slH 48 3 sw1 ((m) + 1) ((cs ++ [.int .i64 ((ys.getD k (0, 0, [])).1), .int .i64 ((ys.getD k (0, 0, [])).2.1), cw1])) :: cellsH b5 [.int .i64 ((ys.getD k (0, 0, [])).1), .int .i64 ((ys.getD k (0, 0, [])).2.1), a1] 48 :: intsH 2 x6 f :: cellsH b3 [(.slice none 0 0), (.slice none 0 0)] 60 :: cellsH b2 [gv, ysv] 60 :: cellsH b1 [fv, xsv] 60 :: L)
  refine XL.nil (X.region (cX (XOp.addR (((k + 1 : Nat) : Int)) rfl rfl (by omega) (by omega) (XL.mv (.int .i64 (((k + 1 : Nat) : Int))) rfl (XL.nil ?_)))))
  exact ⟨(k + 1, sw1, (ss ++ [((ys.getD k (0, 0, [])).1, (ys.getD k (0, 0, [])).2.1, (ys.getD k (0, 0, [])).2.2)]), (cs ++ [.int .i64 ((ys.getD k (0, 0, [])).1), .int .i64 ((ys.getD k (0, 0, [])).2.1), cw1]), Ls ++ [intsH 2 cw1 ((ys.getD k (0, 0, [])).2.2)], (m) + 1, F10), _, (FLe.trans leG1 le10), rF, ⟨rfl, rfl, rfl, rfl, rfl, trivial⟩, (Sub.trans (Sub.front (A := [_, _, _, _, _, _])) (Sub.trans (Sub.front (A := [_, _, _, _, _, _])) (Sub.trans (Sub.front (A := [_, _, _, _, _, _])) (Sub.trans (Sub.front (A := [_, _, _, _, _, _])) (Sub.trans (Sub.front (A := [_, _, _, _])) (Sub.trans (Sub.front (A := [_, _, _, _, _])) (sC (sC (sC (sC (sC (sC (sD sR))))))))))))), ⟨rfl, (FLe.trans leG1 le10), (by (try dsimp only) <;> omega), (hs2), (hc2), (by (try dsimp only); rw [List.length_append]; simp only [List.length_singleton]; omega), (DeepL.snoc hD rfl ⟨_, rfl, rfl⟩), ((Fresh.app hZ (FLe.trans le9 leG1) (Fresh.one hf1) le10)), (by (try dsimp only); rw [take_succ_getD (0, 0, []) (by omega), ← List.append_assoc, ← hss])⟩, (by omega)⟩
 refine X.exit (thenQ_exit (thenQ_exit (blockQ_exit (X.seq (X.region (cX (XOp.loadN [x6, sv] isAgg60 sizeOf60 rfl rfl (Rd.ownN [_] rfl rfl) (cX (XOp.storeN [_, _, _] _ [x6, sv] sizeOf60 rfl rfl rfl (ones_cons (one_sl (IntsF.isSl hr6)) (ones_cons (one_sl hsv) ones_nil)) rfl rfl rfl (XL.as (.bool (true)) rfl (XL.nil (X.freezeF [_, _] _ _ rfl (fun F11 le11 hz1 => ?_)))))))))))))
 replace hC := hC.mono le11
 have hf2 : IntsF F11 x6 f := intsH.fz (xs := f) hz1.fz
 refine X.freezeF [] _ _ rfl (fun F12 le12 hz2 => ?_)
 replace hC := hC.mono le12
 replace hf2 := hf2.mono le12
 have hf3 : StepsF F12 sv ss := CO.fz hC (by first | rfl | omega | (rw [List.length_set]; omega) | (simp; done)) hz2.fz
 refine X.ret (retEnd (L' := L) [.agg #[x6, sv], .bool (true)] (.tuple #[.agg #[x6, sv], .bool (true)]) (.cell rfl (loadNV [x6, sv] isAgg60 sizeOf60 rfl (Rd.ownN [_] rfl rfl)) (.tmp rfl .nil)) rfl (FLe.trans (FLe.trans (FLe.trans (FLe.trans le7 le9) leG1) le11) le12) rF (sD (sD (sD (sD sR)))) ?_)
 have e9 : ss = xs ++ ys := by rw [hss, List.take_of_length_le (by omega)]
 have e : joinW f xs g ys = (f, ss, true) := by rw [e9]; exact joinW_yes hjoin (by omega)
 exact ⟨_, _, by rw [e], by rw [e]; exact hf2, by rw [e]; exact hf3, by rw [e]; exact ((Fresh.deepM (M := [_]) hD (Fresh.cons hZ (FLe.trans le9 leG1) hz1 le11) (FLe.trans (FLe.trans le9 leG1) le11) hz2 (by first | rfl | omega | (rw [List.length_append]; rfl)) le12).base le7), rfl⟩

/- impl.JoinedWalk -/
set_option maxRecDepth 20000 in
theorem JoinedWalk_spec {F : FH} {L : List HP} {arv : Value} {ar : List Int} (har : IntsF F arv ar) {rsv : Value} {rs : List (List Int × List Int)} (hrs : PairsF F rsv rs) {fv : Value} {f : List Int} (hf : IntsF F fv f) {xsv : Value} {xs : List StepT} (hxs : StepsF F xsv xs) {gv : Value} {g : List Int} (hg : IntsF F gv g) {ysv : Value} {ys : List StepT} (hys : StepsF F ysv ys) (hlf : f.length ≤ 4000000) (hsb : ∀ i, i < xs.length → (xs.getD i (0, 0, [])).2.2.length ≤ 4000000) (hlg : g.length ≤ 4000000) (hyb : ∀ i, i < ys.length → (ys.getD i (0, 0, [])).2.2.length ≤ 4000000) :
    Does prog 48 [.agg #[arv, rsv], .agg #[fv, xsv], .agg #[gv, ysv]] F (L) (fun v F' L' => ∃ (a : Value), ∃ (b : Value), (.tuple #[.agg #[a, b], .bool ((joinedF ar rs f xs g ys).2.2)] : Value) = v ∧ (IntsF F' a (joinedF ar rs f xs g ys).1) ∧ (StepsF F' b (joinedF ar rs f xs g ys).2.1) ∧ (Fresh F F' (star [intsH 2 a (joinedF ar rs f xs g ys).1, stepsD 2 48 b (joinedF ar rs f xs g ys).2.1])) ∧ L = L') := by
 refine Does.of_X func48 rfl rfl rfl (X.seq (X.region (cX (XOp.box [arv, rsv] rfl rfl ?_))))
 intro b1
 refine cX (XOp.box [fv, xsv] rfl rfl ?_)
 intro b2
 refine cX (XOp.box [gv, ysv] rfl rfl ?_)
 intro b3
 refine cX (XOp.alloc [(.slice none 0 0), (.slice none 0 0)] zeroValue60 rfl ?_)
 intro b4
 refine XL.as (.bool (false)) rfl (XL.nil (X.seq (X.seq (X.region (cX (XOp.loadN [arv, rsv] isAgg29 sizeOf29 rfl rfl (Rd.ownN [_, _, _] rfl rfl) (cX (XOp.loadN [fv, xsv] isAgg60 sizeOf60 rfl rfl (Rd.ownN [_, _] rfl rfl) (cX (XOp.call (args := [.agg #[arv, rsv], .agg #[fv, xsv]]) call39 rfl (WalkOk_spec har hrs hf hxs (hlf := (by first | assumption | rfl | omega | simp)) (hsb := (by first | assumption | rfl | omega | simp))) ?_))))))))))
 rintro _ _ _ _ ⟨rfl, rfl, rfl⟩
 refine cX (XOp.notB rfl (XL.mv (.bool (!(walkOkL ar rs f xs))) rfl ?_))
 by_cases h1 : (!(walkOkL ar rs f xs)) = true
 ·have hw1 : walkOkL ar rs f xs = false := by simpa using h1
  refine XL.no (t := 12) rfl (vB h1) (XL.no (t := 12) rfl (vB h1) (XL.no (t := 12) rfl (vB h1) (XL.no (t := 12) rfl (vB h1) (cX (XOp.pickT (.bool (true)) (vB h1) rfl (XL.nil (X.condT rfl (X.seq (X.region (cX (XOp.build [(.slice none 0 0), (.slice none 0 0)] [(.slice none 0 0), (.slice none 0 0)] [(0, 1), (1, 1)] [] runUnderlying60 zeroValue60 rfl (.cons rfl sizeOf24 (.cons rfl sizeOf45 PlacesAre.nil)) rfl CellsAre.nil (cX (XOp.storeN [] _ [(.slice none 0 0), (.slice none 0 0)] sizeOf60 rfl rfl rfl (ones_cons rfl (ones_cons rfl ones_nil)) rfl rfl rfl ?_)))))))))))))
  refine XL.as (.bool (false)) rfl (XL.nil (X.ret (thenQ_ret (retEnd (L' := L) [.agg #[(.slice none 0 0), (.slice none 0 0)], .bool (false)] (.tuple #[.agg #[(.slice none 0 0), (.slice none 0 0)], .bool (false)]) (.cell rfl (loadNV [(.slice none 0 0), (.slice none 0 0)] isAgg60 sizeOf60 rfl (Rd.ownN [] rfl rfl)) (.tmp rfl .nil)) rfl rF rF (sD (sD (sD (sD sR)))) ?_))))
  have e : joinedF ar rs f xs g ys = ([], [], false) := joinedF_no (by simp_all)
  exact ⟨_, _, by rw [e], by rw [e]; exact IntsF.nilV, by rw [e]; exact SlOf.nilV, by rw [e]; exact Fresh.empty nilWalk, rfl⟩
 rw [Bool.not_eq_true] at h1
 have hw1 : walkOkL ar rs f xs = true := by simpa using h1
 have hwb1 := walkOk_bnd hw1
 have hwc1 := hwb1.1
 have hwd1 := hwb1.2.1
 have hel := termOk_len (right_iff.1 (walkOk_end hw1)).2
 refine XL.yes (t := 12) rfl (vB h1) (XOp.loadN [arv, rsv] isAgg29 sizeOf29 rfl rfl (Rd.ownN [_, _, _] rfl rfl) (XL.yes (t := 12) rfl (vB h1) (XOp.loadN [gv, ysv] isAgg60 sizeOf60 rfl rfl (Rd.ownN [_] rfl rfl) (XL.yes (t := 12) rfl (vB h1) (XOp.call (args := [.agg #[arv, rsv], .agg #[gv, ysv]]) call39 rfl (WalkOk_spec har hrs hg hys (hlf := (hlg)) (hsb := (hyb))) ?_)))))
 rintro _ _ _ _ ⟨rfl, rfl, rfl⟩
 refine XL.yes (t := 12) rfl (vB h1) (XOp.notB rfl (cX (XOp.pickF (.bool (!(walkOkL ar rs g ys))) (vB h1) rfl (XL.nil ?_))))
 refine X.cond (t := !(walkOkL ar rs g ys)) rfl (fun h2 => ?_) (fun h2 => ?_)
 ·have hw2 : walkOkL ar rs g ys = false := by simpa using h2
  refine X.seq (X.region (cX (XOp.build [(.slice none 0 0), (.slice none 0 0)] [(.slice none 0 0), (.slice none 0 0)] [(0, 1), (1, 1)] [] runUnderlying60 zeroValue60 rfl (.cons rfl sizeOf24 (.cons rfl sizeOf45 PlacesAre.nil)) rfl CellsAre.nil (cX (XOp.storeN [] _ [(.slice none 0 0), (.slice none 0 0)] sizeOf60 rfl rfl rfl (ones_cons rfl (ones_cons rfl ones_nil)) rfl rfl rfl (XL.as (.bool (false)) rfl (XL.nil (X.ret (thenQ_ret (retEnd (L' := L) [.agg #[(.slice none 0 0), (.slice none 0 0)], .bool (false)] (.tuple #[.agg #[(.slice none 0 0), (.slice none 0 0)], .bool (false)]) (.cell rfl (loadNV [(.slice none 0 0), (.slice none 0 0)] isAgg60 sizeOf60 rfl (Rd.ownN [] rfl rfl)) (.tmp rfl .nil)) rfl rF rF (sD (sD (sD (sD sR)))) ?_))))))))))
  have e : joinedF ar rs f xs g ys = ([], [], false) := joinedF_no (by simp_all)
  exact ⟨_, _, by rw [e], by rw [e]; exact IntsF.nilV, by rw [e]; exact SlOf.nilV, by rw [e]; exact Fresh.empty nilWalk, rfl⟩
 have hw2 : walkOkL ar rs g ys = true := by simpa using h2
 have hwb2 := walkOk_bnd hw2
 have hwc2 := hwb2.1
 have hwd2 := hwb2.2.1
 refine X.skip (X.seq (X.region (cX (XOp.loadN [fv, xsv] isAgg60 sizeOf60 rfl rfl (Rd.ownN [_, _] rfl rfl) (cX (XOp.loadN [gv, ysv] isAgg60 sizeOf60 rfl rfl (Rd.ownN [_] rfl rfl) (cX (XOp.call (args := [.agg #[fv, xsv], .agg #[gv, ysv]]) call104 rfl (joinWalks_spec hf hxs hg hys (hlf := (by first | assumption | rfl | omega | simp)) (hlx := (by first | assumption | rfl | omega | simp)) (hxb := (hwb1.2.2)) (hlg := (by first | assumption | rfl | omega | simp)) (hly := (by first | assumption | rfl | omega | simp)) (hyb := (hwb2.2.2))) ?_))))))))
 rintro _ F1 _ le1 ⟨x1, x2, rfl, hr1, hr2, hr3, rfl⟩
 refine cX (XOp.extract (.agg #[x1, x2]) rfl rfl (cX (XOp.extract (.bool ((joinW f xs g ys).2.2)) rfl rfl (cX (XOp.storeN [] _ [x1, x2] sizeOf60 rfl rfl rfl (ones_cons (one_sl (IntsF.isSl hr1)) (ones_cons (one_sl (StepsF.isSl hr2)) ones_nil)) rfl rfl rfl (XL.as (.bool ((joinW f xs g ys).2.2)) rfl (XL.nil (X.ret (retEnd (L' := L) [.agg #[x1, x2], .bool ((joinW f xs g ys).2.2)] (.tuple #[.agg #[x1, x2], .bool ((joinW f xs g ys).2.2)]) (.cell rfl (loadNV [x1, x2] isAgg60 sizeOf60 rfl (Rd.ownN [] rfl rfl)) (.tmp rfl .nil)) rfl le1 rF (sD (sD (sD (sD sR)))) ?_)))))))))
 have e := joinedF_yes hw1 hw2
 rw [e]
 exact ⟨_, _, rfl, hr1, hr2, hr3, rfl⟩
end Go.Proofs.Ytmaaifhmhclhdaa
