/-
  Walks, one after the other (part 5).
-/
import Derived.Test.YtmaaifhmhclhdaaQFL1
import Derived.Test.YtmaaifhmhclhdaaQFB3
set_option linter.unusedSimpArgs false
set_option linter.unusedVariables false
namespace Go.Proofs.Ytmaaifhmhclhdaa
open Go X M Try

/- impl.RedexesIn -/
theorem iRedexesIn_spec {F : FH} {L : List HP} {arv : Value} {ar : List Int} (har : IntsF F arv ar) {rsv : Value} {rs : List (List Int × List Int)} (hrs : PairsF F rsv rs) {tv : Value} {t : List Int} (ht : IntsF F tv t) :
    Does prog 10 [.agg #[arv, rsv], tv] F (L) (fun v F' L' => ∃ (a : Value), (a : Value) = v ∧ (IntsF F' a (redS ar rs t)) ∧ L = L') := by
 refine Does.of_X func10 rfl rfl rfl ?_
 refine X.seq (X.region ?_)
 refine cX (XOp.box [arv, rsv] rfl rfl ?_)
 intro b1
 refine XL.as ((.slice none 0 0)) rfl ?_
 refine XL.nil (X.seq (X.seq (X.region ?_)))
 refine cX (XOp.loadN [arv, rsv] isAgg29 sizeOf29 rfl rfl (Rd.ownN [] rfl rfl) ?_)
 refine cX (XOp.call (args := [.agg #[arv, rsv]]) call51 rfl (SystemOk_spec har hrs) ?_)
 rintro _ _ _ _ ⟨rfl, rfl, rfl⟩
 refine cX (XOp.notB (b := sysOk ar rs) rfl ?_)
 refine XL.mv (.bool (!(sysOk ar rs))) rfl ?_
 by_cases h1 : (!(sysOk ar rs)) = true
 ·refine XL.no (t := 8) rfl (vB h1) ?_
  refine XL.no (t := 8) rfl (vB h1) ?_
  refine XL.no (t := 8) rfl (vB h1) ?_
  refine XL.no (t := 8) rfl (vB h1) ?_
  refine XL.no (t := 8) rfl (vB h1) ?_
  refine cX (XOp.pickT (.bool (true)) (vB h1) rfl ?_)
  refine XL.nil ?_
  refine X.condT rfl ?_
  refine X.seq (X.region ?_)
  refine XL.as ((.slice none 0 0)) rfl ?_
  refine XL.nil ?_
  refine X.ret (thenQ_ret (retEnd (L' := L) [(.slice none 0 0)] ((.slice none 0 0)) (.tmp rfl .nil) rfl rF rF (sD sR) ?_))
  have hri : rightB ar rs t = false := by unfold rightB; simp_all
  rw [redS_n hri]
  exact ⟨_, rfl, IntsF.nilV, rfl⟩
 rw [Bool.not_eq_true] at h1
 refine XL.yes (t := 8) rfl (vB h1) (XOp.fieldP (b := b1) (0) runUnderlying29 rfl sizeOf26 (by decide) rfl rfl ?_)
 refine XL.yes (t := 8) rfl (vB h1) (XOp.loadN [arv] isAgg26 sizeOf26 rfl rfl (Rd.ownN [] rfl rfl) ?_)
 refine XL.yes (t := 8) rfl (vB h1) (XOp.move (tv) rfl ?_)
 refine XL.yes (t := 8) rfl (vB h1) (XOp.call (args := [.agg #[arv], tv]) call52 rfl (TermOk_spec har ht) ?_)
 rintro _ _ _ _ ⟨rfl, rfl, rfl⟩
 refine XL.yes (t := 8) rfl (vB h1) (XOp.notB (b := termOk ar t) rfl ?_)
 refine cX (XOp.pickF (.bool (!(termOk ar t))) (vB h1) rfl ?_)
 refine XL.nil ?_
 refine X.cond (t := !(termOk ar t)) rfl (fun h2 => ?_) (fun h2 => ?_)
 ·refine X.seq (X.region ?_)
  refine XL.as ((.slice none 0 0)) rfl ?_
  refine XL.nil ?_
  refine X.ret (thenQ_ret (retEnd (L' := L) [(.slice none 0 0)] ((.slice none 0 0)) (.tmp rfl .nil) rfl rF rF (sD sR) ?_))
  have hri : rightB ar rs t = false := by unfold rightB; simp_all
  rw [redS_n hri]
  exact ⟨_, rfl, IntsF.nilV, rfl⟩
 have hri : rightB ar rs t = true := by unfold rightB; simp_all
 have hsys := (right_iff.1 hri).1
 have ho := (right_iff.1 hri).2
 have htl := termOk_len ho
 have hrd := redL_len (ar := ar) (rs := rs) (t := t)
 have hin9 := inTo_len (ar := ar) (t := t) (all := redL ar rs t) (k := (redL ar rs t).length)
 refine X.skip (X.seq (X.region ?_))
 refine cX (XOp.loadN [arv, rsv] isAgg29 sizeOf29 rfl rfl (Rd.ownN [] rfl rfl) ?_)
 refine XL.mv (tv) rfl ?_
 refine cX (XOp.frzF <| XOp.call (args := [.agg #[arv, rsv], tv]) call54 rfl (redexes_spec har hrs ht (hsys := (by first | assumption | rfl | omega | simp)) (ho := (by first | assumption | rfl | omega | simp))) ?_)
 rintro v1 _ _ _ ⟨rfl, hs1, rfl⟩
 refine ⟨_, _, rfl, fun F1 le1 hz1 => ?_⟩
 have hf1 : IntsF F1 v1 ((redL ar rs t)) := intsH.fz (xs := (redL ar rs t)) hz1.fz
 refine cX (XOp.frzF <| XOp.call (args := [v1]) call53 rfl (wide_spec hf1 (hlx := (by omega))) ?_)
 rintro v2 _ _ _ ⟨rfl, hs2, rfl⟩
 refine ⟨_, _, rfl, fun F2 le2 hz2 => ?_⟩
 have hf2 : IntsF F2 v2 ((((redL ar rs t)))) := intsH.fz (xs := (((redL ar rs t)))) hz2.fz
 refine XL.as (v2) rfl ?_
 refine XL.nil ?_
 refine X.ret (retEnd (L' := L) [v2] (v2) (.tmp rfl .nil) rfl (FLe.trans le1 le2) rF (sD sR) ?_)
 rw [redS_y hri]
 exact ⟨_, rfl, hf2, rfl⟩

/- impl.InmostIn -/
theorem iInmostIn_spec {F : FH} {L : List HP} {arv : Value} {ar : List Int} (har : IntsF F arv ar) {rsv : Value} {rs : List (List Int × List Int)} (hrs : PairsF F rsv rs) {tv : Value} {t : List Int} (ht : IntsF F tv t) :
    Does prog 11 [.agg #[arv, rsv], tv] F (L) (fun v F' L' => ∃ (a : Value), (a : Value) = v ∧ (IntsF F' a (inS ar rs t)) ∧ L = L') := by
 refine Does.of_X func11 rfl rfl rfl ?_
 refine X.seq (X.region ?_)
 refine cX (XOp.box [arv, rsv] rfl rfl ?_)
 intro b1
 refine XL.as ((.slice none 0 0)) rfl ?_
 refine XL.nil (X.seq (X.seq (X.region ?_)))
 refine cX (XOp.loadN [arv, rsv] isAgg29 sizeOf29 rfl rfl (Rd.ownN [] rfl rfl) ?_)
 refine cX (XOp.call (args := [.agg #[arv, rsv]]) call51 rfl (SystemOk_spec har hrs) ?_)
 rintro _ _ _ _ ⟨rfl, rfl, rfl⟩
 refine cX (XOp.notB (b := sysOk ar rs) rfl ?_)
 refine XL.mv (.bool (!(sysOk ar rs))) rfl ?_
 by_cases h1 : (!(sysOk ar rs)) = true
 ·refine XL.no (t := 8) rfl (vB h1) ?_
  refine XL.no (t := 8) rfl (vB h1) ?_
  refine XL.no (t := 8) rfl (vB h1) ?_
  refine XL.no (t := 8) rfl (vB h1) ?_
  refine XL.no (t := 8) rfl (vB h1) ?_
  refine cX (XOp.pickT (.bool (true)) (vB h1) rfl ?_)
  refine XL.nil ?_
  refine X.condT rfl ?_
  refine X.seq (X.region ?_)
  refine XL.as ((.slice none 0 0)) rfl ?_
  refine XL.nil ?_
  refine X.ret (thenQ_ret (retEnd (L' := L) [(.slice none 0 0)] ((.slice none 0 0)) (.tmp rfl .nil) rfl rF rF (sD sR) ?_))
  have hri : rightB ar rs t = false := by unfold rightB; simp_all
  rw [inS_n hri]
  exact ⟨_, rfl, IntsF.nilV, rfl⟩
 rw [Bool.not_eq_true] at h1
 refine XL.yes (t := 8) rfl (vB h1) (XOp.fieldP (b := b1) (0) runUnderlying29 rfl sizeOf26 (by decide) rfl rfl ?_)
 refine XL.yes (t := 8) rfl (vB h1) (XOp.loadN [arv] isAgg26 sizeOf26 rfl rfl (Rd.ownN [] rfl rfl) ?_)
 refine XL.yes (t := 8) rfl (vB h1) (XOp.move (tv) rfl ?_)
 refine XL.yes (t := 8) rfl (vB h1) (XOp.call (args := [.agg #[arv], tv]) call52 rfl (TermOk_spec har ht) ?_)
 rintro _ _ _ _ ⟨rfl, rfl, rfl⟩
 refine XL.yes (t := 8) rfl (vB h1) (XOp.notB (b := termOk ar t) rfl ?_)
 refine cX (XOp.pickF (.bool (!(termOk ar t))) (vB h1) rfl ?_)
 refine XL.nil ?_
 refine X.cond (t := !(termOk ar t)) rfl (fun h2 => ?_) (fun h2 => ?_)
 ·refine X.seq (X.region ?_)
  refine XL.as ((.slice none 0 0)) rfl ?_
  refine XL.nil ?_
  refine X.ret (thenQ_ret (retEnd (L' := L) [(.slice none 0 0)] ((.slice none 0 0)) (.tmp rfl .nil) rfl rF rF (sD sR) ?_))
  have hri : rightB ar rs t = false := by unfold rightB; simp_all
  rw [inS_n hri]
  exact ⟨_, rfl, IntsF.nilV, rfl⟩
 have hri : rightB ar rs t = true := by unfold rightB; simp_all
 have hsys := (right_iff.1 hri).1
 have ho := (right_iff.1 hri).2
 have htl := termOk_len ho
 have hrd := redL_len (ar := ar) (rs := rs) (t := t)
 have hin9 := inTo_len (ar := ar) (t := t) (all := redL ar rs t) (k := (redL ar rs t).length)
 refine X.skip (X.seq (X.region ?_))
 refine cX (XOp.loadN [arv, rsv] isAgg29 sizeOf29 rfl rfl (Rd.ownN [] rfl rfl) ?_)
 refine XL.mv (tv) rfl ?_
 refine cX (XOp.frzF <| XOp.call (args := [.agg #[arv, rsv], tv]) call55 rfl (inmost_spec har hrs ht (hsys := (by first | assumption | rfl | omega | simp)) (ho := (by first | assumption | rfl | omega | simp))) ?_)
 rintro v1 _ _ _ ⟨rfl, hs1, rfl⟩
 refine ⟨_, _, rfl, fun F1 le1 hz1 => ?_⟩
 have hf1 : IntsF F1 v1 ((inL ar rs t)) := intsH.fz (xs := (inL ar rs t)) hz1.fz
 refine cX (XOp.frzF <| XOp.call (args := [v1]) call53 rfl (wide_spec hf1 (hlx := (by have h9 : (inL ar rs t).length ≤ _ := hin9; omega))) ?_)
 rintro v2 _ _ _ ⟨rfl, hs2, rfl⟩
 refine ⟨_, _, rfl, fun F2 le2 hz2 => ?_⟩
 have hf2 : IntsF F2 v2 ((((inL ar rs t)))) := intsH.fz (xs := (((inL ar rs t)))) hz2.fz
 refine XL.as (v2) rfl ?_
 refine XL.nil ?_
 refine X.ret (retEnd (L' := L) [v2] (v2) (.tmp rfl .nil) rfl (FLe.trans le1 le2) rF (sD sR) ?_)
 rw [inS_y hri]
 exact ⟨_, rfl, hf2, rfl⟩

/- impl.OutmostIn -/
set_option maxRecDepth 20000 in
theorem iOutmostIn_spec {F : FH} {L : List HP} {arv : Value} {ar : List Int} (har : IntsF F arv ar) {rsv : Value} {rs : List (List Int × List Int)} (hrs : PairsF F rsv rs) {tv : Value} {t : List Int} (ht : IntsF F tv t) :
    Does prog 12 [.agg #[arv, rsv], tv] F (L) (fun v F' L' => ∃ (a : Value), (a : Value) = v ∧ (IntsF F' a (outS ar rs t)) ∧ L = L') := by
 refine Does.of_X func12 rfl rfl rfl ?_
 refine X.seq (X.region ?_)
 refine cX (XOp.box [arv, rsv] rfl rfl ?_)
 intro b1
 refine XL.as ((.slice none 0 0)) rfl ?_
 refine XL.nil (X.seq (X.seq (X.region ?_)))
 refine cX (XOp.loadN [arv, rsv] isAgg29 sizeOf29 rfl rfl (Rd.ownN [] rfl rfl) ?_)
 refine cX (XOp.call (args := [.agg #[arv, rsv]]) call51 rfl (SystemOk_spec har hrs) ?_)
 rintro _ _ _ _ ⟨rfl, rfl, rfl⟩
 refine cX (XOp.notB (b := sysOk ar rs) rfl ?_)
 refine XL.mv (.bool (!(sysOk ar rs))) rfl ?_
 by_cases h1 : (!(sysOk ar rs)) = true
 ·refine XL.no (t := 12) rfl (vB h1) ?_
  refine XL.no (t := 12) rfl (vB h1) ?_
  refine XL.no (t := 12) rfl (vB h1) ?_
  refine XL.no (t := 12) rfl (vB h1) ?_
  refine XL.no (t := 12) rfl (vB h1) ?_
  refine cX (XOp.pickT (.bool (true)) (vB h1) rfl ?_)
  refine XL.nil ?_
  refine X.condT rfl ?_
  refine X.seq (X.region ?_)
  refine XL.as ((.slice none 0 0)) rfl ?_
  refine XL.nil ?_
  refine X.ret (thenQ_ret (retEnd (L' := L) [(.slice none 0 0)] ((.slice none 0 0)) (.tmp rfl .nil) rfl rF rF (sD sR) ?_))
  have hri : rightB ar rs t = false := by unfold rightB; simp_all
  rw [outS_n hri]
  exact ⟨_, rfl, IntsF.nilV, rfl⟩
 rw [Bool.not_eq_true] at h1
 refine XL.yes (t := 12) rfl (vB h1) (XOp.fieldP (b := b1) (0) runUnderlying29 rfl sizeOf26 (by decide) rfl rfl ?_)
 refine XL.yes (t := 12) rfl (vB h1) (XOp.loadN [arv] isAgg26 sizeOf26 rfl rfl (Rd.ownN [] rfl rfl) ?_)
 refine XL.yes (t := 12) rfl (vB h1) (XOp.move (tv) rfl ?_)
 refine XL.yes (t := 12) rfl (vB h1) (XOp.call (args := [.agg #[arv], tv]) call52 rfl (TermOk_spec har ht) ?_)
 rintro _ _ _ _ ⟨rfl, rfl, rfl⟩
 refine XL.yes (t := 12) rfl (vB h1) (XOp.notB (b := termOk ar t) rfl ?_)
 refine cX (XOp.pickF (.bool (!(termOk ar t))) (vB h1) rfl ?_)
 refine XL.nil ?_
 refine X.cond (t := !(termOk ar t)) rfl (fun h2 => ?_) (fun h2 => ?_)
 ·refine X.seq (X.region ?_)
  refine XL.as ((.slice none 0 0)) rfl ?_
  refine XL.nil ?_
  refine X.ret (thenQ_ret (retEnd (L' := L) [(.slice none 0 0)] ((.slice none 0 0)) (.tmp rfl .nil) rfl rF rF (sD sR) ?_))
  have hri : rightB ar rs t = false := by unfold rightB; simp_all
  rw [outS_n hri]
  exact ⟨_, rfl, IntsF.nilV, rfl⟩
 have hri : rightB ar rs t = true := by unfold rightB; simp_all
 have hsys := (right_iff.1 hri).1
 have ho := (right_iff.1 hri).2
 have htl := termOk_len ho
 have hrd := redL_len (ar := ar) (rs := rs) (t := t)
 have hin9 := inTo_len (ar := ar) (t := t) (all := redL ar rs t) (k := (redL ar rs t).length)
 refine X.skip (X.seq (X.region ?_))
 refine XL.as ((.slice none 0 0)) rfl ?_
 refine XL.nil (X.seq (X.region ?_))
 refine XL.as (.int .i64 (0)) rfl ?_
 refine XL.nil (X.seq (X.seq (X.region ?_)))
 refine cX (XOp.loadN [arv, rsv] isAgg29 sizeOf29 rfl rfl (Rd.ownN [] rfl rfl) ?_)
 refine XL.mv (tv) rfl ?_
 refine cX (XOp.frzF <| XOp.call (args := [.agg #[arv, rsv], tv]) call54 rfl (redexes_spec har hrs ht (hsys := (by first | assumption | rfl | omega | simp)) (ho := (by first | assumption | rfl | omega | simp))) ?_)
 rintro v1 _ _ _ ⟨rfl, hs1, rfl⟩
 refine ⟨_, _, rfl, fun F1 le1 hz1 => ?_⟩
 replace har := har.mono le1
 replace ht := ht.mono le1
 have hf1 : IntsF F1 v1 ((redL ar rs t)) := intsH.fz (xs := (redL ar rs t)) hz1.fz
 refine cX (XOp.lenS (v := v1) (n := ((redL ar rs t)).length) runUnderlying78 rfl hf1.slv ?_)
 refine XL.mv (.int .i64 (0)) rfl ?_
 refine XL.nil (X.block ?_)
 refine X.loop (α := Nat × Value × List Int × Int) (fun xQ => [(1, tv), (2, ptr b1 0), (5, xQ.2.1), (6, .int .i64 (xQ.2.2.2)), (21, v1), (22, .int .i64 (((((redL ar rs t)).length : Nat) : Int))), (23, .int .i64 (((xQ.1 : Nat) : Int)))]) (fun xQ => intsH 2 xQ.2.1 xQ.2.2.1 :: cellsH b1 [arv, rsv] 29 :: L) (fun xQ F' => F1 = F' ∧ (IsSl xQ.2.1) ∧ (xQ.1 ≤ (redL ar rs t).length) ∧ (xQ.2.2.1.length ≤ xQ.1) ∧ (xQ.2.2.1 ++ outGo ar t ((redL ar rs t).drop xQ.1) xQ.2.2.2 = outGo ar t (redL ar rs t) 0)) (fun xQ => (redL ar rs t).length - xQ.1) (0, (.slice none 0 0), [], 0) ⟨rfl, rfl, rfl, rfl, rfl, rfl, rfl, trivial⟩ (Sub.trans (intsH.addNil 2 none _) (sC (sC sR))) ⟨rfl, (⟨_, _, _, rfl⟩), (Nat.zero_le _), (Nat.le_refl _), (rfl)⟩ ?_
 rintro ⟨k, ov, os, e⟩ rE _ _ ⟨rfl, hov, hk, hol, hos⟩
 show X _ _ _ _ (envs [(1, tv), (2, ptr b1 0), (5, ov), (6, .int .i64 (e)), (21, v1), (22, .int .i64 (((((redL ar rs t)).length : Nat) : Int))), (23, .int .i64 ((k : Int)))] rE) _ (intsH 2 ov os :: cellsH b1 [arv, rsv] 29 :: L)
 dsimp only at hov hk hol hos
 have hra := fun (h : k < (redL ar rs t).length) => redL_at h
 refine X.seq (X.region ?_)
 refine cX (XOp.lss (a := (k : Int)) (b := ((((redL ar rs t)).length : Nat) : Int)) rfl rfl ?_)
 refine XL.nil (X.seq ?_)
 refine X.condD (p := (k : Int) < ((((redL ar rs t)).length : Nat) : Int)) rfl (fun h3 => ?_) (fun h3 => ?_)
 ·refine X.skip (X.seq (X.block (X.seq (X.region ?_))))
  refine cX (XOp.indexS (v := v1) (i := (k : Int)) (n := ((redL ar rs t)).length) k runUnderlying78 sizeOf3 rfl rfl rfl hf1.slv (by omega) (Nat.mul_one _) ?_)
  refine cX (XOp.load1 (v := .int .i64 (((redL ar rs t)).getD k 0)) isAgg3 rfl (hf1.rd (by omega)) ?_)
  refine XL.as (.int .i64 (((redL ar rs t)).getD k 0)) rfl ?_
  refine XL.nil (X.seq (X.region ?_))
  refine XL.mv (.int .i64 (((redL ar rs t)).getD k 0)) rfl ?_
  refine XL.mv (.int .i64 (e)) rfl ?_
  refine cX (XOp.geq (a := ((redL ar rs t)).getD k 0) (b := e) rfl rfl ?_)
  refine XL.nil ?_
  refine X.condD (p := (((redL ar rs t)).getD k 0 : Int) ≥ e) rfl (fun h4 => ?_) (fun h4 => ?_)
  ·refine X.seq (X.region ?_)
   refine XL.mv (ov) rfl ?_
   refine XL.mv (.int .i64 (((redL ar rs t)).getD k 0)) rfl ?_
   refine cX (XOp.buildSlice (s := 1) [.int .i64 (((redL ar rs t)).getD k 0)] [.int .i64 (0)] [(0, [.int .i64 (((redL ar rs t)).getD k 0)])] runUnderlying24 sizeOf2 zeroValue2 rfl (by decide) rfl (.cons rfl CellsAre.nil) rfl ?_)
   intro v2 hv1
   refine cX (XOp.append1 (u := ((redL ar rs t)).getD k 0) [_] _ runUnderlying24 typeInfo2 rfl rfl rfl rfl rfl rfl (SlV.own [] rfl) (Rd.sl [] rfl rfl) (by (try simp only [List.length_append, List.length_nil, List.length_cons, List.length_singleton, List.length_take, List.length_drop]); omega) ?_)
   intro v3 hs2 hn1
   refine XL.as (v3) rfl ?_
   refine XL.nil (X.region ?_)
   refine cX (XOp.fieldP (b := b1) (0) runUnderlying29 rfl sizeOf26 (by decide) rfl rfl ?_)
   refine cX (XOp.loadN [arv] isAgg26 sizeOf26 rfl rfl (Rd.ownN [_, _] rfl rfl) ?_)
   refine XL.mv (tv) rfl ?_
   refine XL.mv (.int .i64 (((redL ar rs t)).getD k 0)) rfl ?_
   refine cX (XOp.call (args := [.agg #[arv], tv, .int .i64 (((((redL ar rs t)).getD k 0).toNat : Nat) : Int)]) call56 (by rw [show (((((redL ar rs t)).getD k 0).toNat : Nat) : Int) = ((redL ar rs t)).getD k 0 from by omega]; rfl) (endAt_ok (p := (((redL ar rs t)).getD k 0).toNat) har ht (ho := (by first | assumption | rfl | omega | (left; simp; done) | (right; simp; done))) (hp := (by first | assumption | rfl | omega | (left; simp; done) | (right; simp; done)))) ?_)
   rintro _ _ _ _ ⟨rfl, rfl, rfl⟩
   refine XL.as (.int .i64 (((endN ar t ((((redL ar rs t)).getD k 0).toNat) : Nat) : Int))) rfl ?_
   refine XL.nil (X.region ?_)
   refine cX (XOp.addR (a := (k : Int)) (b := 1) (((k + 1 : Nat) : Int)) rfl rfl (by omega) (by omega) ?_)
   refine XL.mv (.int .i64 (((k + 1 : Nat) : Int))) rfl ?_
   refine XL.nil ?_
   exact ⟨(k + 1, v3, os ++ [((redL ar rs t)).getD k 0], ((endN ar t ((((redL ar rs t)).getD k 0).toNat) : Nat) : Int)), _, FLe.refl _, rF, ⟨rfl, rfl, rfl, rfl, rfl, rfl, rfl, trivial⟩, (sD (sC (sC sR))), ⟨rfl, (hs2), (by (try dsimp only) <;> omega), (by (try dsimp only); (try rw [List.length_append]); (try simp only [List.length_singleton]); omega), (by (try dsimp only); first | exact out_next (by omega) (by omega) hos | exact out_skip (by omega) (by omega) hos)⟩, (by omega)⟩
  refine X.skip (X.region ?_)
  refine cX (XOp.addR (a := (k : Int)) (b := 1) (((k + 1 : Nat) : Int)) rfl rfl (by omega) (by omega) ?_)
  refine XL.mv (.int .i64 (((k + 1 : Nat) : Int))) rfl ?_
  refine XL.nil ?_
  exact ⟨(k + 1, ov, os, e), _, FLe.refl _, rF, ⟨rfl, rfl, rfl, rfl, rfl, rfl, rfl, trivial⟩, (sC (sC sR)), ⟨rfl, (hov), (by (try dsimp only) <;> omega), (by (try dsimp only); (try rw [List.length_append]); (try simp only [List.length_singleton]); omega), (by (try dsimp only); first | exact out_next (by omega) (by omega) hos | exact out_skip (by omega) (by omega) hos)⟩, (by omega)⟩
 refine X.exit (thenQ_exit (thenQ_exit (blockQ_exit ?_)))
 refine X.seq (X.region ?_)
 refine XL.mv (ov) rfl ?_
 refine XL.as (ov) rfl ?_
 refine XL.nil ?_
 refine X.freezeF [] _ _ rfl (fun F2 le2 hz2 => ?_)
 have hf2 : IntsF F2 ov os := intsH.fz (xs := os) hz2.fz
 refine X.ret (retEnd (L' := L) [ov] (ov) (.tmp rfl .nil) rfl (FLe.trans le1 le2) rF (sD sR) ?_)
 have e9 : outS ar rs t = os := by rw [outS_y hri]; exact (out_done (by omega) hos).symm
 rw [e9]
 exact ⟨_, rfl, hf2, rfl⟩

/- spec.OutmostIn -/
set_option maxRecDepth 20000 in
theorem sOutmostIn_spec {F : FH} {L : List HP} {arv : Value} {ar : List Int} (har : IntsF F arv ar) {rsv : Value} {rs : List (List Int × List Int)} (hrs : PairsF F rsv rs) {tv : Value} {t : List Int} (ht : IntsF F tv t) (hla : ar.length ≤ 4000000) (hlr : rs.length ≤ 4000000) (hrb : ∀ i, i < rs.length → (rs.getD i ([], [])).1.length ≤ 4000000 ∧ (rs.getD i ([], [])).2.length ≤ 4000000) (hlt : t.length ≤ 4000000) :
    Does prog 16 [.agg #[arv, rsv], tv] F (L) (fun v F' L' => ∃ (a : Value), (a : Value) = v ∧ (IntsF F' a (outS ar rs t)) ∧ L = L') := by
 refine Does.of_X func16 rfl rfl rfl ?_
 have hsl := S_len (ar := ar) (rs := rs) (t := t)
 refine X.seq (X.region ?_)
 refine cX (XOp.box [arv, rsv] rfl rfl ?_)
 intro b1
 refine XL.as ((.slice none 0 0)) rfl ?_
 refine XL.nil (X.seq (X.region ?_))
 refine cX (XOp.buildSlice (s := 1) [] [.int .i64 (0)] [] runUnderlying24 sizeOf2 zeroValue2 rfl (by decide) rfl CellsAre.nil rfl ?_)
 intro v1 hv1
 refine XL.as (v1) rfl ?_
 refine XL.nil (X.seq (X.region ?_))
 refine cX (XOp.loadN [arv, rsv] isAgg29 sizeOf29 rfl rfl (Rd.ownN [_] rfl rfl) ?_)
 refine XL.mv (tv) rfl ?_
 refine cX (XOp.frzF <| XOp.call (args := [.agg #[arv, rsv], tv]) call14 rfl (sRedexesIn_spec har hrs ht (hla := (by first | assumption | rfl | omega | simp)) (hlr := (by first | assumption | rfl | omega | simp)) (hrb := (by first | assumption | rfl | omega | simp)) (hlt := (by first | assumption | rfl | omega | simp))) ?_)
 rintro v2 _ _ _ ⟨rfl, hs1, rfl⟩
 refine ⟨_, _, rfl, fun F1 le1 hz1 => ?_⟩
 replace har := har.mono le1
 replace ht := ht.mono le1
 have hf1 : IntsF F1 v2 ((redS ar rs t)) := intsH.fz (xs := (redS ar rs t)) hz1.fz
 refine XL.as (v2) rfl ?_
 refine XL.nil (X.seq (X.region ?_))
 refine XL.as (.int .i64 (0)) rfl ?_
 refine XL.nil (X.seq (X.seq (X.region ?_)))
 refine XL.as (.int .i64 (0)) rfl ?_
 refine XL.nil (X.block ?_)
 refine X.loop (α := Nat × Value × List Int × Int) (fun xQ => [(1, tv), (2, ptr b1 0), (5, xQ.2.1), (6, v2), (7, .int .i64 (xQ.2.2.2)), (8, .int .i64 (((xQ.1 : Nat) : Int)))]) (fun xQ => intsH 2 xQ.2.1 xQ.2.2.1 :: cellsH b1 [arv, rsv] 29 :: L) (fun xQ F' => F1 = F' ∧ (IsSl xQ.2.1) ∧ (xQ.1 ≤ (redS ar rs t).length) ∧ (xQ.2.2.1.length ≤ xQ.1) ∧ (xQ.2.2.1 ++ outGo ar t ((redS ar rs t).drop xQ.1) xQ.2.2.2 = outGo ar t (redS ar rs t) 0)) (fun xQ => (redS ar rs t).length - xQ.1) (0, v1, [], 0) ⟨rfl, rfl, rfl, rfl, rfl, rfl, trivial⟩ (sC (sC sR)) ⟨rfl, ((isSl_lit hv1)), (Nat.zero_le _), (Nat.le_refl _), (rfl)⟩ ?_
 rintro ⟨k, ov, os, e⟩ rE _ _ ⟨rfl, hov, hk, hol, hos⟩
 show X _ _ _ _ (envs [(1, tv), (2, ptr b1 0), (5, ov), (6, v2), (7, .int .i64 (e)), (8, .int .i64 ((k : Int)))] rE) _ (intsH 2 ov os :: cellsH b1 [arv, rsv] 29 :: L)
 dsimp only at hov hk hol hos
 refine X.seq (X.seq (X.region ?_))
 refine XL.mv (.int .i64 ((k : Int))) rfl ?_
 refine XL.mv (v2) rfl ?_
 refine cX (XOp.lenS (v := v2) (n := ((redS ar rs t)).length) runUnderlying24 rfl hf1.slv ?_)
 refine cX (XOp.lss (a := (k : Int)) (b := ((((redS ar rs t)).length : Nat) : Int)) rfl rfl ?_)
 refine XL.nil ?_
 refine X.condD (p := (k : Int) < ((((redS ar rs t)).length : Nat) : Int)) rfl (fun h1 => ?_) (fun h1 => ?_)
 ·have hri := redS_right (ar := ar) (rs := rs) (t := t) (k := k) (by omega)
  have ho := (right_iff.1 hri).2
  have htl := termOk_len ho
  have hra := redL_at (ar := ar) (rs := rs) (t := t) (k := k) (by rw [← redS_y hri]; omega)
  rw [← redS_y hri] at hra
  refine X.skip (X.seq (X.block (X.seq (X.region ?_))))
  refine XL.mv (v2) rfl ?_
  refine XL.mv (.int .i64 ((k : Int))) rfl ?_
  refine cX (XOp.indexS (v := v2) (i := (k : Int)) (n := ((redS ar rs t)).length) k runUnderlying24 sizeOf2 rfl rfl rfl hf1.slv (by omega) (Nat.mul_one _) ?_)
  refine cX (XOp.load1 (v := .int .i64 (((redS ar rs t)).getD k 0)) isAgg2 rfl (hf1.rd (by omega)) ?_)
  refine XL.mv (.int .i64 (e)) rfl ?_
  refine cX (XOp.geq (a := ((redS ar rs t)).getD k 0) (b := e) rfl rfl ?_)
  refine XL.nil ?_
  refine X.condD (p := (((redS ar rs t)).getD k 0 : Int) ≥ e) rfl (fun h2 => ?_) (fun h2 => ?_)
  ·refine X.seq (X.region ?_)
   refine XL.mv (ov) rfl ?_
   refine XL.mv (v2) rfl ?_
   refine XL.mv (.int .i64 ((k : Int))) rfl ?_
   refine cX (XOp.indexS (v := v2) (i := (k : Int)) (n := ((redS ar rs t)).length) k runUnderlying24 sizeOf2 rfl rfl rfl hf1.slv (by omega) (Nat.mul_one _) ?_)
   refine cX (XOp.load1 (v := .int .i64 (((redS ar rs t)).getD k 0)) isAgg2 rfl (hf1.rd (by omega)) ?_)
   refine cX (XOp.buildSlice (s := 1) [.int .i64 (((redS ar rs t)).getD k 0)] [.int .i64 (0)] [(0, [.int .i64 (((redS ar rs t)).getD k 0)])] runUnderlying24 sizeOf2 zeroValue2 rfl (by decide) rfl (.cons rfl CellsAre.nil) rfl ?_)
   intro v3 hv2
   refine cX (XOp.append1 (u := ((redS ar rs t)).getD k 0) [_] _ runUnderlying24 typeInfo2 rfl rfl rfl rfl rfl rfl (SlV.own [] rfl) (Rd.sl [] rfl rfl) (by (try simp only [List.length_append, List.length_nil, List.length_cons, List.length_singleton, List.length_take, List.length_drop]); omega) ?_)
   intro v4 hs2 hn1
   refine XL.as (v4) rfl ?_
   refine XL.nil ?_
   refine X.draw [slH 2 1 v3 1 [.int .i64 (((redS ar rs t)).getD k 0)], intsH 2 v4 (os ++ [((redS ar rs t)).getD k 0]), cellsH b1 [arv, rsv] 29] L 7 [[], [], [], [], [], [], []] [[], [0], [], [], [], [3, 4], [5]] (phiL [fun us v => v = ptr b1 0, fun us v => v = (.agg #[arv] : Value), fun us v => v = tv, fun us v => v = v2, fun us v => v = (.int .i64 ((k : Int)) : Value), fun us v => v = (.pointer (some (elemA v2 (k))) : Value), fun us v => v = (.int .i64 (((redS ar rs t)).getD k 0) : Value)]) (ownL [fun us v => [], fun us v => [], fun us v => [], fun us v => [], fun us v => [], fun us v => [], fun us v => []]) mixed rfl rfl (by kernel_rfl) ?_ ?_
   ·refine pC (fun vals R hpZ => ?_) ?_
    ·refine XG.op (XOp.fieldP (b := b1) (0) runUnderlying29 rfl sizeOf26 (by decide) rfl rfl ?_)
     exact ⟨rfl, rfl, rfl⟩
    refine pC (fun vals R hpZ => ?_) ?_
    ·rw [eS (l := [(0, ptr b1 0)]) ⟨hpZ 0 (by decide), trivial⟩]
     refine XG.op (XOp.loadN [arv] isAgg26 sizeOf26 rfl rfl (Rd.ownN [_, _] rfl rfl) ?_)
     exact ⟨rfl, rfl, rfl⟩
    refine pC (fun vals R hpZ => ?_) ?_
    ·refine XG.op (XOp.move (tv) rfl ?_)
     exact ⟨rfl, rfl, rfl⟩
    refine pC (fun vals R hpZ => ?_) ?_
    ·refine XG.op (XOp.move (v2) rfl ?_)
     exact ⟨rfl, rfl, rfl⟩
    refine pC (fun vals R hpZ => ?_) ?_
    ·refine XG.op (XOp.move (.int .i64 ((k : Int))) rfl ?_)
     exact ⟨rfl, rfl, rfl⟩
    refine pC (fun vals R hpZ => ?_) ?_
    ·rw [eS (l := [(3, v2), (4, (.int .i64 ((k : Int)) : Value))]) ⟨hpZ 3 (by decide), hpZ 4 (by decide), trivial⟩]
     refine XG.op (XOp.indexS (v := v2) (i := (k : Int)) (n := ((redS ar rs t)).length) k runUnderlying24 sizeOf2 rfl rfl rfl hf1.slv (by omega) (Nat.mul_one _) ?_)
     exact ⟨rfl, rfl, rfl⟩
    refine pC (fun vals R hpZ => ?_) ?_
    ·rw [eS (l := [(5, (.pointer (some (elemA v2 (k))) : Value))]) ⟨hpZ 5 (by decide), trivial⟩]
     refine XG.op (XOp.load1 (v := .int .i64 (((redS ar rs t)).getD k 0)) isAgg2 rfl (hf1.rd (by omega)) ?_)
     exact ⟨rfl, rfl, rfl⟩
    exact stepsP.nil
   intro vals hphi
   rw [eS (l := [(1, (.agg #[arv] : Value)), (2, tv), (6, (.int .i64 (((redS ar rs t)).getD k 0) : Value))]) ⟨(hphi 1 (by decide)), (hphi 2 (by decide)), (hphi 6 (by decide)), trivial⟩]
   show XL _ _ _ _ _ _ _ (slH 2 1 v3 1 [.int .i64 (((redS ar rs t)).getD k 0)] :: intsH 2 v4 (os ++ [((redS ar rs t)).getD k 0]) :: cellsH b1 [arv, rsv] 29 :: L)
   refine cX (XOp.call (args := [.agg #[arv], tv, .int .i64 (((((redS ar rs t)).getD k 0).toNat : Nat) : Int)]) call59 (by rw [show (((((redS ar rs t)).getD k 0).toNat : Nat) : Int) = ((redS ar rs t)).getD k 0 from by omega]; rfl) (l1End_ok (p := (((redS ar rs t)).getD k 0).toNat) har ht (ho := (by first | assumption | rfl | omega | (left; simp; done) | (right; simp; done))) (hp := (by first | assumption | rfl | omega | (left; simp; done) | (right; simp; done)))) ?_)
   rintro _ _ _ _ ⟨rfl, rfl, rfl⟩
   refine XL.as (.int .i64 (((endN ar t ((((redS ar rs t)).getD k 0).toNat) : Nat) : Int))) rfl ?_
   refine XL.nil (X.region ?_)
   refine XL.mv (.int .i64 ((k : Int))) rfl ?_
   refine cX (XOp.addR (a := (k : Int)) (b := 1) (((k + 1 : Nat) : Int)) rfl rfl (by omega) (by omega) ?_)
   refine XL.as (.int .i64 (((k + 1 : Nat) : Int))) rfl ?_
   refine XL.nil ?_
   exact ⟨(k + 1, v4, os ++ [((redS ar rs t)).getD k 0], ((endN ar t ((((redS ar rs t)).getD k 0).toNat) : Nat) : Int)), _, FLe.refl _, rF, ⟨rfl, rfl, rfl, rfl, rfl, rfl, trivial⟩, (sD (sC (sC sR))), ⟨rfl, (hs2), (by (try dsimp only) <;> omega), (by (try dsimp only); (try rw [List.length_append]); (try simp only [List.length_singleton]); omega), (by (try dsimp only); first | exact out_next (by omega) (by omega) hos | exact out_skip (by omega) (by omega) hos)⟩, (by omega)⟩
  refine X.skip (X.region ?_)
  refine XL.mv (.int .i64 ((k : Int))) rfl ?_
  refine cX (XOp.addR (a := (k : Int)) (b := 1) (((k + 1 : Nat) : Int)) rfl rfl (by omega) (by omega) ?_)
  refine XL.as (.int .i64 (((k + 1 : Nat) : Int))) rfl ?_
  refine XL.nil ?_
  exact ⟨(k + 1, ov, os, e), _, FLe.refl _, rF, ⟨rfl, rfl, rfl, rfl, rfl, rfl, trivial⟩, (sC (sC sR)), ⟨rfl, (hov), (by (try dsimp only) <;> omega), (by (try dsimp only); (try rw [List.length_append]); (try simp only [List.length_singleton]); omega), (by (try dsimp only); first | exact out_next (by omega) (by omega) hos | exact out_skip (by omega) (by omega) hos)⟩, (by omega)⟩
 refine X.exit (thenQ_exit (thenQ_exit (blockQ_exit ?_)))
 refine X.seq (X.region ?_)
 refine XL.mv (ov) rfl ?_
 refine XL.as (ov) rfl ?_
 refine XL.nil ?_
 refine X.freezeF [] _ _ rfl (fun F2 le2 hz2 => ?_)
 have hf2 : IntsF F2 ov os := intsH.fz (xs := os) hz2.fz
 refine X.ret (retEnd (L' := L) [ov] (ov) (.tmp rfl .nil) rfl (FLe.trans le1 le2) rF (sD sR) ?_)
 have e9 : outS ar rs t = os := by rw [← outS_red]; exact (out_done (by omega) hos).symm
 rw [e9]
 exact ⟨_, rfl, hf2, rfl⟩

/- impl.InsideIn -/
theorem InsideIn_spec {F : FH} {L : List HP} {arv : Value} {ar : List Int} (har : IntsF F arv ar) {tv : Value} {t : List Int} (ht : IntsF F tv t) {a : Int} {p : Int} :
    Does prog 17 [.agg #[arv], tv, .int .i64 (a), .int .i64 (p)] F (L) (fun v F' L' => (.bool (insideB ar t a p) : Value) = v ∧ F = F' ∧ L = L') := by
 refine Does.of_X func17 rfl rfl rfl ?_
 refine X.seq (X.region ?_)
 refine cX (XOp.box [arv] rfl rfl ?_)
 intro b1
 refine XL.as (.bool (false)) rfl ?_
 refine XL.nil (X.seq (X.region ?_))
 refine cX (XOp.loadN [arv] isAgg26 sizeOf26 rfl rfl (Rd.ownN [] rfl rfl) ?_)
 refine XL.mv (tv) rfl ?_
 refine XL.mv (.int .i64 (a)) rfl ?_
 refine cX (XOp.call (args := [.agg #[arv], tv, .int .i64 (a)]) call60 rfl (posOk_spec (n := a) har ht) ?_)
 rintro _ _ _ _ ⟨rfl, rfl, rfl⟩
 refine XL.mv (.bool (posOk ar t a)) rfl ?_
 by_cases h1 : (posOk ar t a) = true
 ·have hp1 := posOk_iff.1 h1
  have ho := hp1.1
  have hat : ((a.toNat : Nat) : Int) = a := by have := hp1.2; omega
  refine XL.yes (t := 13) rfl (vB h1) (XOp.loadN [arv] isAgg26 sizeOf26 rfl rfl (Rd.ownN [] rfl rfl) ?_)
  refine XL.yes (t := 13) rfl (vB h1) (XOp.move (tv) rfl ?_)
  refine XL.yes (t := 13) rfl (vB h1) (XOp.move (.int .i64 (p)) rfl ?_)
  refine XL.yes (t := 13) rfl (vB h1) (XOp.call (args := [.agg #[arv], tv, .int .i64 (p)]) call60 rfl (posOk_spec (n := p) har ht) ?_)
  rintro _ _ _ _ ⟨rfl, rfl, rfl⟩
  refine cX (XOp.pickT (.bool (posOk ar t p)) (vB h1) rfl ?_)
  refine XL.mv (.bool (posOk ar t p)) rfl ?_
  by_cases h2 : (posOk ar t p) = true
  ·have hp2 := posOk_iff.1 h2
   refine XL.yes (t := 19) rfl (vB h2) (XOp.loadN [arv] isAgg26 sizeOf26 rfl rfl (Rd.ownN [] rfl rfl) ?_)
   refine XL.yes (t := 19) rfl (vB h2) (XOp.move (tv) rfl ?_)
   refine XL.yes (t := 19) rfl (vB h2) (XOp.move (.int .i64 (a)) rfl ?_)
   refine XL.yes (t := 19) rfl (vB h2) (XOp.move (.int .i64 (p)) rfl ?_)
   refine XL.yes (t := 19) rfl (vB h2) (XOp.call (args := [.agg #[arv], tv, .int .i64 (((a).toNat : Nat) : Int), .int .i64 (p)]) call61 (by rw [show (((a).toNat : Nat) : Int) = a from by omega]; rfl) (inside_spec (p := (a).toNat) (q := p) har ht (ho := (by first | assumption | rfl | omega | simp)) (hp := (by first | assumption | rfl | omega | simp))) ?_)
   rintro _ _ _ _ ⟨rfl, rfl, rfl⟩
   refine cX (XOp.pickT (.bool (decide ((((a).toNat) : Int) ≤ p ∧ p < (endN ar t ((a).toNat) : Int)))) (vB h2) rfl ?_)
   refine XL.as (.bool (decide ((((a).toNat) : Int) ≤ p ∧ p < (endN ar t ((a).toNat) : Int)))) rfl ?_
   refine XL.nil ?_
   refine X.ret (retEnd (L' := L) [.bool (decide ((((a).toNat) : Int) ≤ p ∧ p < (endN ar t ((a).toNat) : Int)))] (.bool (decide ((((a).toNat) : Int) ≤ p ∧ p < (endN ar t ((a).toNat) : Int)))) (.tmp rfl .nil) rfl rF rF (sD sR) ?_)
   exact ⟨(vB (by first | (unfold insideB; rw [‹posOk ar t a = true›, ‹posOk ar t p = true›, hat]; rfl) | (unfold insideB; simp_all))), rfl, rfl⟩
  rw [Bool.not_eq_true] at h2
  refine XL.no (t := 19) rfl (vB h2) ?_
  refine XL.no (t := 19) rfl (vB h2) ?_
  refine XL.no (t := 19) rfl (vB h2) ?_
  refine XL.no (t := 19) rfl (vB h2) ?_
  refine XL.no (t := 19) rfl (vB h2) ?_
  refine cX (XOp.pickF (.bool (false)) (vB h2) rfl ?_)
  refine XL.as (.bool (false)) rfl ?_
  refine XL.nil ?_
  refine X.ret (retEnd (L' := L) [.bool (false)] (.bool (false)) (.tmp rfl .nil) rfl rF rF (sD sR) ?_)
  exact ⟨(vB (by first | (unfold insideB; rw [‹posOk ar t a = true›, ‹posOk ar t p = true›, hat]; rfl) | (unfold insideB; simp_all))), rfl, rfl⟩
 rw [Bool.not_eq_true] at h1
 refine XL.no (t := 13) rfl (vB h1) ?_
 refine XL.no (t := 13) rfl (vB h1) ?_
 refine XL.no (t := 13) rfl (vB h1) ?_
 refine XL.no (t := 13) rfl (vB h1) ?_
 refine cX (XOp.pickF (.bool (false)) (vB h1) rfl ?_)
 refine XL.mv (.bool (false)) rfl ?_
 refine XL.no (t := 19) rfl rfl ?_
 refine XL.no (t := 19) rfl rfl ?_
 refine XL.no (t := 19) rfl rfl ?_
 refine XL.no (t := 19) rfl rfl ?_
 refine XL.no (t := 19) rfl rfl ?_
 refine cX (XOp.pickF (.bool (false)) rfl rfl ?_)
 refine XL.as (.bool (false)) rfl ?_
 refine XL.nil ?_
 refine X.ret (retEnd (L' := L) [.bool (false)] (.bool (false)) (.tmp rfl .nil) rfl rF rF (sD sR) ?_)
 exact ⟨(vB (by first | (unfold insideB; rw [‹posOk ar t a = true›, ‹posOk ar t p = true›, hat]; rfl) | (unfold insideB; simp_all))), rfl, rfl⟩

/- impl.PickBy -/
theorem iPickBy_spec {F : FH} {L : List HP} {arv : Value} {ar : List Int} (har : IntsF F arv ar) {rsv : Value} {rs : List (List Int × List Int)} (hrs : PairsF F rsv rs) {tv : Value} {t : List Int} (ht : IntsF F tv t) {st : Int} :
    Does prog 18 [.agg #[arv, rsv], tv, .int .i64 (st)] F (L) (fun v F' L' => (.tuple #[.int .i64 (pickAt ar rs t st), .int .i64 (pickRule ar rs t st), .bool (pickB ar rs t st)] : Value) = v ∧ F = F' ∧ L = L') := by
 refine Does.of_X func18 rfl rfl rfl ?_
 refine X.seq (X.region ?_)
 refine cX (XOp.box [arv, rsv] rfl rfl ?_)
 intro b1
 refine XL.as (.int .i64 (0)) rfl ?_
 refine XL.as (.int .i64 (0)) rfl ?_
 refine XL.as (.bool (false)) rfl ?_
 refine XL.nil (X.seq (X.seq (X.region ?_)))
 refine cX (XOp.loadN [arv, rsv] isAgg29 sizeOf29 rfl rfl (Rd.ownN [] rfl rfl) ?_)
 refine XL.mv (tv) rfl ?_
 refine XL.mv (.int .i64 (st)) rfl ?_
 refine cX (XOp.call (args := [.agg #[arv, rsv], tv, .int .i64 (st)]) call62 rfl (strategyOk_spec (st := st) har hrs ht) ?_)
 rintro _ _ _ _ ⟨rfl, rfl, rfl⟩
 refine cX (XOp.notB (b := (rightB ar rs t && decide (1 ≤ st ∧ st ≤ 3))) rfl ?_)
 refine XL.nil ?_
 refine X.cond (t := !((rightB ar rs t && decide (1 ≤ st ∧ st ≤ 3)))) rfl (fun h1 => ?_) (fun h1 => ?_)
 ·refine X.seq (X.region ?_)
  refine XL.as (.int .i64 (0)) rfl ?_
  refine XL.as (.int .i64 (0)) rfl ?_
  refine XL.as (.bool (false)) rfl ?_
  refine XL.nil ?_
  refine X.ret (thenQ_ret (retEnd (L' := L) [.int .i64 (0), .int .i64 (0), .bool (false)] (.tuple #[.int .i64 (0), .int .i64 (0), .bool (false)]) (.tmp rfl (.tmp rfl (.tmp rfl .nil))) rfl rF rF (sD sR) ?_))
  refine ⟨?_, rfl, rfl⟩
  have hz : pickB ar rs t st = false := pickB_no (by intro h; simp_all)
  rw [pickAt, pickRule, hz]; rfl
 have hri : rightB ar rs t = true ∧ (1 ≤ st ∧ st ≤ 3) := by simpa using h1
 have hsys := (right_iff.1 hri.1).1
 have ho := (right_iff.1 hri.1).2
 have hps := pick_spec (ar := ar) (rs := rs) (t := t) st
 refine X.skip (X.seq (X.region ?_))
 refine cX (XOp.loadN [arv, rsv] isAgg29 sizeOf29 rfl rfl (Rd.ownN [] rfl rfl) ?_)
 refine XL.mv (tv) rfl ?_
 refine XL.mv (.int .i64 (st)) rfl ?_
 refine cX (XOp.call (args := [.agg #[arv, rsv], tv, .int .i64 (st)]) call63 rfl (pick_all (st := st) har hrs ht (by assumption) (by assumption) (by omega)) ?_)
 rintro _ _ _ _ ⟨rfl, rfl, rfl⟩
 refine XL.as (.int .i64 (pickL ar rs t st)) rfl ?_
 refine XL.nil (X.seq (X.seq (X.region ?_)))
 refine XL.mv (.int .i64 (pickL ar rs t st)) rfl ?_
 refine cX (XOp.lss (a := pickL ar rs t st) (b := 0) rfl rfl ?_)
 refine XL.nil ?_
 refine X.condD (p := (pickL ar rs t st : Int) < 0) rfl (fun h2 => ?_) (fun h2 => ?_)
 ·refine X.seq (X.region ?_)
  refine XL.as (.int .i64 (0)) rfl ?_
  refine XL.as (.int .i64 (0)) rfl ?_
  refine XL.as (.bool (false)) rfl ?_
  refine XL.nil ?_
  refine X.ret (thenQ_ret (retEnd (L' := L) [.int .i64 (0), .int .i64 (0), .bool (false)] (.tuple #[.int .i64 (0), .int .i64 (0), .bool (false)]) (.tmp rfl (.tmp rfl (.tmp rfl .nil))) rfl rF rF (sD sR) ?_))
  refine ⟨?_, rfl, rfl⟩
  have hz : pickB ar rs t st = false := pickB_no (by intro h; rcases hps with h2 | ⟨q, h1, _⟩; exact h.2.2 h2.2; omega)
  rw [pickAt, pickRule, hz]; rfl
 obtain ⟨q, hq1, hq2, hq3, hne⟩ := hps.resolve_left (fun h => by have := h.1; omega)
 have hz : pickB ar rs t st = true := pickB_iff.2 ⟨hri.1, hri.2, hne⟩
 refine X.skip (X.seq (X.region ?_))
 refine XL.mv (.int .i64 (pickL ar rs t st)) rfl ?_
 refine cX (XOp.loadN [arv, rsv] isAgg29 sizeOf29 rfl rfl (Rd.ownN [] rfl rfl) ?_)
 refine XL.mv (tv) rfl ?_
 refine XL.mv (.int .i64 (pickL ar rs t st)) rfl ?_
 refine cX (XOp.call (args := [.agg #[arv, rsv], tv, .int .i64 (((pickL ar rs t st).toNat : Nat) : Int)]) call64 (by rw [show (((pickL ar rs t st).toNat : Nat) : Int) = pickL ar rs t st from by omega]; rfl) (ruleAt_spec (p := (pickL ar rs t st).toNat) har hrs ht (hsys := (by first | assumption | rfl | omega | simp)) (ho := (by first | assumption | rfl | omega | simp)) (hp := (by first | assumption | rfl | omega | simp))) ?_)
 rintro _ _ _ _ ⟨rfl, rfl, rfl⟩
 refine XL.as (.int .i64 (pickL ar rs t st)) rfl ?_
 refine XL.as (.int .i64 (ruleAtL ar rs t ((pickL ar rs t st).toNat))) rfl ?_
 refine XL.as (.bool (true)) rfl ?_
 refine XL.nil ?_
 refine X.ret (retEnd (L' := L) [.int .i64 (pickL ar rs t st), .int .i64 (ruleAtL ar rs t ((pickL ar rs t st).toNat)), .bool (true)] (.tuple #[.int .i64 (pickL ar rs t st), .int .i64 (ruleAtL ar rs t ((pickL ar rs t st).toNat)), .bool (true)]) (.tmp rfl (.tmp rfl (.tmp rfl .nil))) rfl rF rF (sD sR) ?_)
 refine ⟨?_, rfl, rfl⟩
 rw [pickAt, pickRule, hz, if_pos rfl, if_pos rfl]

/- laws.FnRedexes -/
set_option maxRecDepth 20000 in
theorem FnRedexes_does {F : FH} {L : List HP} {bsv : Value} {bs : List Int} (hbs : BytesF F bsv bs) (hlb : bs.length ≤ 9223372036854775807) :
    Does prog 3 [bsv] F (L) (fun v F' L' => (.bool (true) : Value) = v ∧ F = F' ∧ L = L') := by
 refine Does.of_X func3 rfl rfl rfl ?_
 refine X.seq (X.region ?_)
 refine XL.as (.bool (false)) rfl ?_
 refine XL.nil (X.seq (X.seq (X.region ?_)))
 refine XL.mv (bsv) rfl ?_
 refine cX (XOp.call (args := [bsv]) call8 rfl (big_spec hbs) ?_)
 rintro _ _ _ _ ⟨rfl, rfl, rfl⟩
 refine XL.nil ?_
 refine X.condD (p := (bs.length : Int) > 4096) rfl (fun h1 => ?_) (fun h1 => ?_)
 ·refine X.seq (X.region ?_)
  refine XL.as (.bool (true)) rfl ?_
  refine XL.nil ?_
  refine X.ret (thenQ_ret (retEnd (L' := L) [.bool (true)] (.bool (true)) (.tmp rfl .nil) rfl rF rF sR ?_))
  exact ⟨rfl, rfl, rfl⟩
 have hbl2 : bs.length ≤ 4000000 := by omega
 refine X.skip (X.seq (X.region ?_))
 refine XL.mv (bsv) rfl ?_
 refine cX (XOp.call (args := [bsv]) call9 rfl (DrawRedexesIn_spec hbs (hbl := (by first | assumption | rfl | omega | simp))) ?_)
 rintro _ F1 _ le1 ⟨x1, x2, x3, x4, x5, x6, rfl, hr1, hr2, hr3, hr4, hr5, rfl⟩
 have hla := hr4.la
 have hlr := hr4.lr
 have hrb := hr4.each
 have hlt9 : x6.length ≤ 4000000 := by omega
 have hsl := S_len (ar := x4) (rs := x5) (t := x6)
 have hsm8 := some_law (ar := x4) (rs := x5) (t := x6)
 refine XL.mv (.tuple #[.agg #[x1, x2], x3]) rfl ?_
 refine cX (XOp.extract (.agg #[x1, x2]) rfl rfl ?_)
 refine cX (XOp.extract (x3) rfl rfl ?_)
 refine cX (XOp.alloc [(.slice none 0 0), (.slice none 0 0)] zeroValue29 rfl ?_)
 intro b1
 refine cX (XOp.storeN (vs := [x1, x2]) [] _ [x1, x2] sizeOf29 rfl rfl rfl (ones_cons (one_sl (IntsF.isSl hr1)) (ones_cons (one_sl (PairsF.isSl hr2)) ones_nil)) rfl rfl rfl ?_)
 refine XL.as (x3) rfl ?_
 refine XL.nil (X.seq (X.region ?_))
 refine cX (XOp.loadN [x1, x2] isAgg29 sizeOf29 rfl rfl (Rd.ownN [] rfl rfl) ?_)
 refine XL.mv (x3) rfl ?_
 refine cX (XOp.call (args := [.agg #[x1, x2], x3]) call10 rfl (iRedexesIn_spec hr1 hr2 hr3) ?_)
 rintro _ F2 _ le2 ⟨x7, rfl, hr6, rfl⟩
 replace hr1 := hr1.mono le2
 replace hr2 := hr2.mono le2
 replace hr3 := hr3.mono le2
 refine XL.as (x7) rfl ?_
 refine XL.nil (X.seq (X.region ?_))
 refine cX (XOp.loadN [x1, x2] isAgg29 sizeOf29 rfl rfl (Rd.ownN [] rfl rfl) ?_)
 refine XL.mv (x3) rfl ?_
 refine cX (XOp.call (args := [.agg #[x1, x2], x3]) call11 rfl (iInmostIn_spec hr1 hr2 hr3) ?_)
 rintro _ F3 _ le3 ⟨x8, rfl, hr7, rfl⟩
 replace hr1 := hr1.mono le3
 replace hr2 := hr2.mono le3
 replace hr3 := hr3.mono le3
 replace hr6 := hr6.mono le3
 refine XL.as (x8) rfl ?_
 refine XL.nil (X.seq (X.region ?_))
 refine cX (XOp.loadN [x1, x2] isAgg29 sizeOf29 rfl rfl (Rd.ownN [] rfl rfl) ?_)
 refine XL.mv (x3) rfl ?_
 refine cX (XOp.call (args := [.agg #[x1, x2], x3]) call12 rfl (iOutmostIn_spec hr1 hr2 hr3) ?_)
 rintro _ F4 _ le4 ⟨x9, rfl, hr8, rfl⟩
 replace hr1 := hr1.mono le4
 replace hr2 := hr2.mono le4
 replace hr3 := hr3.mono le4
 replace hr6 := hr6.mono le4
 replace hr7 := hr7.mono le4
 refine XL.as (x9) rfl ?_
 refine XL.nil (X.seq (X.seq (X.region ?_)))
 refine XL.mv (x7) rfl ?_
 refine cX (XOp.loadN [x1, x2] isAgg29 sizeOf29 rfl rfl (Rd.ownN [] rfl rfl) ?_)
 refine XL.mv (x3) rfl ?_
 refine cX (XOp.frzF <| XOp.call (args := [.agg #[x1, x2], x3]) call14 rfl (sRedexesIn_spec hr1 hr2 hr3 (hla := (by first | assumption | rfl | omega | simp)) (hlr := (by first | assumption | rfl | omega | simp)) (hrb := (by first | assumption | rfl | omega | simp)) (hlt := (by first | assumption | rfl | omega | simp))) ?_)
 rintro v1 _ _ _ ⟨rfl, hs1, rfl⟩
 refine ⟨_, _, rfl, fun F5 le5 hz1 => ?_⟩
 replace hr1 := hr1.mono le5
 replace hr2 := hr2.mono le5
 replace hr3 := hr3.mono le5
 replace hr6 := hr6.mono le5
 replace hr7 := hr7.mono le5
 replace hr8 := hr8.mono le5
 have hf1 : IntsF F5 v1 ((redS x4 x5 x6)) := intsH.fz (xs := (redS x4 x5 x6)) hz1.fz
 refine cX (XOp.call (args := [x7, v1]) call13 rfl (likeInts_spec hr6 hf1 (hbd := (.inl (by omega)))) ?_)
 rintro _ _ _ _ ⟨rfl, rfl, rfl⟩
 refine cX (XOp.notD (p := (redS x4 x5 x6) = ((redS x4 x5 x6))) rfl ?_)
 refine XL.mv (.bool (decide (¬((redS x4 x5 x6) = ((redS x4 x5 x6)))))) rfl ?_
 by_cases h2 : ¬((redS x4 x5 x6) = ((redS x4 x5 x6)))
 ·exact absurd rfl h2
 refine XL.yes (t := 37) rfl (vF h2) (XOp.move (x8) rfl ?_)
 refine XL.yes (t := 37) rfl (vF h2) (XOp.loadN [x1, x2] isAgg29 sizeOf29 rfl rfl (Rd.ownN [] rfl rfl) ?_)
 refine XL.yes (t := 37) rfl (vF h2) (XOp.move (x3) rfl ?_)
 refine XL.yes (t := 37) rfl (vF h2) (XOp.frzF <| XOp.call (args := [.agg #[x1, x2], x3]) call15 rfl (sInmostIn_spec hr1 hr2 hr3 (hla := (by first | assumption | rfl | omega | simp)) (hlr := (by first | assumption | rfl | omega | simp)) (hrb := (by first | assumption | rfl | omega | simp)) (hlt := (by first | assumption | rfl | omega | simp))) ?_)
 rintro v2 _ _ _ ⟨rfl, hs2, rfl⟩
 refine ⟨_, _, rfl, fun F6 le6 hz2 => ?_⟩
 replace hr1 := hr1.mono le6
 replace hr2 := hr2.mono le6
 replace hr3 := hr3.mono le6
 replace hr6 := hr6.mono le6
 replace hr7 := hr7.mono le6
 replace hr8 := hr8.mono le6
 have hf2 : IntsF F6 v2 ((inS x4 x5 x6)) := intsH.fz (xs := (inS x4 x5 x6)) hz2.fz
 refine XL.yes (t := 37) rfl (vF h2) (XOp.call (args := [x8, v2]) call13 rfl (likeInts_spec hr7 hf2 (hbd := (.inl (by omega)))) ?_)
 rintro _ _ _ _ ⟨rfl, rfl, rfl⟩
 refine XL.yes (t := 37) rfl (vF h2) (XOp.notD (p := (inS x4 x5 x6) = ((inS x4 x5 x6))) rfl ?_)
 refine cX (XOp.pickF (.bool (decide (¬((inS x4 x5 x6) = ((inS x4 x5 x6)))))) (vF h2) rfl ?_)
 refine XL.mv (.bool (decide (¬((inS x4 x5 x6) = ((inS x4 x5 x6)))))) rfl ?_
 by_cases h3 : ¬((inS x4 x5 x6) = ((inS x4 x5 x6)))
 ·exact absurd rfl h3
 refine XL.yes (t := 45) rfl (vF h3) (XOp.move (x9) rfl ?_)
 refine XL.yes (t := 45) rfl (vF h3) (XOp.loadN [x1, x2] isAgg29 sizeOf29 rfl rfl (Rd.ownN [] rfl rfl) ?_)
 refine XL.yes (t := 45) rfl (vF h3) (XOp.move (x3) rfl ?_)
 refine XL.yes (t := 45) rfl (vF h3) (XOp.call (args := [.agg #[x1, x2], x3]) call16 rfl (sOutmostIn_spec hr1 hr2 hr3 (hla := (by first | assumption | rfl | omega | simp)) (hlr := (by first | assumption | rfl | omega | simp)) (hrb := (by first | assumption | rfl | omega | simp)) (hlt := (by first | assumption | rfl | omega | simp))) ?_)
 rintro _ F7 _ le7 ⟨x10, rfl, hr9, rfl⟩
 replace hr1 := hr1.mono le7
 replace hr2 := hr2.mono le7
 replace hr3 := hr3.mono le7
 replace hr6 := hr6.mono le7
 replace hr7 := hr7.mono le7
 replace hr8 := hr8.mono le7
 refine XL.yes (t := 45) rfl (vF h3) (XOp.call (args := [x9, x10]) call13 rfl (likeInts_spec hr8 hr9 (hbd := (.inl (by omega)))) ?_)
 rintro _ _ _ _ ⟨rfl, rfl, rfl⟩
 refine XL.yes (t := 45) rfl (vF h3) (XOp.notD (p := (outS x4 x5 x6) = (outS x4 x5 x6)) rfl ?_)
 refine cX (XOp.pickF (.bool (decide (¬((outS x4 x5 x6) = (outS x4 x5 x6))))) (vF h3) rfl ?_)
 refine XL.nil ?_
 refine X.condD (p := ¬((outS x4 x5 x6) = (outS x4 x5 x6))) rfl (fun h4 => ?_) (fun h4 => ?_)
 ·exact absurd rfl h4
 refine X.skip (X.seq (X.seq (X.region ?_)))
 refine XL.as (.int .i64 (0)) rfl ?_
 refine XL.nil (X.block ?_)
 refine X.loop (α := Nat) (fun i => [(3, ptr b1 0), (4, x3), (5, x7), (6, x8), (7, x9), (8, .int .i64 ((i : Int)))]) (fun i => cellsH b1 [x1, x2] 29 :: L) (fun i F' => F7 = F' ∧ (i ≤ (inS x4 x5 x6).length)) (fun i => (inS x4 x5 x6).length - i) 0 ⟨rfl, rfl, rfl, rfl, rfl, rfl, trivial⟩ (sC sR) ⟨rfl, (Nat.zero_le _)⟩ ?_
 rintro i rE _ _ ⟨rfl, hi⟩
 show X _ _ _ _ (envs [(3, ptr b1 0), (4, x3), (5, x7), (6, x8), (7, x9), (8, .int .i64 ((i : Int)))] rE) _ (cellsH b1 [x1, x2] 29 :: L)
 refine X.seq (X.seq (X.region ?_))
 refine XL.mv (.int .i64 ((i : Int))) rfl ?_
 refine XL.mv (x8) rfl ?_
 refine cX (XOp.lenS (v := x8) (n := (inS x4 x5 x6).length) runUnderlying24 rfl hr7.slv ?_)
 refine cX (XOp.lss (a := (i : Int)) (b := (((inS x4 x5 x6).length : Nat) : Int)) rfl rfl ?_)
 refine XL.nil ?_
 refine X.condD (p := (i : Int) < (((inS x4 x5 x6).length : Nat) : Int)) rfl (fun h5 => ?_) (fun h5 => ?_)
 ·refine X.skip (X.seq (X.block (X.seq (X.region ?_))))
  refine XL.as (.int .i64 (0)) rfl ?_
  refine XL.nil (X.block ?_)
  refine X.loop (α := Nat) (fun k => [(3, ptr b1 0), (4, x3), (5, x7), (6, x8), (7, x9), (8, .int .i64 ((i : Int))), (9, .int .i64 ((k : Int)))]) (fun k => cellsH b1 [x1, x2] 29 :: L) (fun k F' => F7 = F' ∧ (k ≤ (redS x4 x5 x6).length)) (fun k => (redS x4 x5 x6).length - k) 0 ⟨rfl, rfl, rfl, rfl, rfl, rfl, rfl, trivial⟩ (sC sR) ⟨rfl, (Nat.zero_le _)⟩ ?_
  rintro k rE _ _ ⟨rfl, hk⟩
  show X _ _ _ _ (envs [(3, ptr b1 0), (4, x3), (5, x7), (6, x8), (7, x9), (8, .int .i64 ((i : Int))), (9, .int .i64 ((k : Int)))] rE) _ (cellsH b1 [x1, x2] 29 :: L)
  refine X.seq (X.seq (X.region ?_))
  refine XL.mv (.int .i64 ((k : Int))) rfl ?_
  refine XL.mv (x7) rfl ?_
  refine cX (XOp.lenS (v := x7) (n := (redS x4 x5 x6).length) runUnderlying24 rfl hr6.slv ?_)
  refine cX (XOp.lss (a := (k : Int)) (b := (((redS x4 x5 x6).length : Nat) : Int)) rfl rfl ?_)
  refine XL.nil ?_
  refine X.condD (p := (k : Int) < (((redS x4 x5 x6).length : Nat) : Int)) rfl (fun h6 => ?_) (fun h6 => ?_)
  ·refine X.skip (X.seq (X.block (X.seq ?_)))
   by_cases h7 : ((redS x4 x5 x6).getD k 0 : Int) ≠ (inS x4 x5 x6).getD i 0
   ·refine X.draw [cellsH b1 [x1, x2] 29] L 21 [[], [], [], [], [], [], [], [], [], [], [], [], [], [], [], [], [], [], [], [], []] [[], [], [0, 1], [2], [], [], [4, 5], [6], [3, 7], [8], [9], [9, 10], [9], [9], [9], [9, 13, 14], [9, 15], [9], [9], [9, 17, 18], [9, 19]] (phiL [fun us v => v = x7, fun us v => v = (.int .i64 ((k : Int)) : Value), fun us v => v = (.pointer (some (elemA x7 (k))) : Value), fun us v => v = (.int .i64 ((redS x4 x5 x6).getD k 0) : Value), fun us v => v = x8, fun us v => v = (.int .i64 ((i : Int)) : Value), fun us v => v = (.pointer (some (elemA x8 (i))) : Value), fun us v => v = (.int .i64 ((inS x4 x5 x6).getD i 0) : Value), fun us v => v = (.bool (decide (((redS x4 x5 x6).getD k 0 : Int) ≠ (inS x4 x5 x6).getD i 0)) : Value), fun us v => v = (.bool (decide (((redS x4 x5 x6).getD k 0 : Int) ≠ (inS x4 x5 x6).getD i 0)) : Value), fun us v => v = ptr b1 0, fun us v => v = (.agg #[x1] : Value), fun us v => v = x3, fun us v => v = x8, fun us v => v = (.int .i64 ((i : Int)) : Value), fun us v => v = (.pointer (some (elemA x8 (i))) : Value), fun us v => v = (.int .i64 ((inS x4 x5 x6).getD i 0) : Value), fun us v => v = x7, fun us v => v = (.int .i64 ((k : Int)) : Value), fun us v => v = (.pointer (some (elemA x7 (k))) : Value), fun us v => v = (.int .i64 ((redS x4 x5 x6).getD k 0) : Value)]) (ownL [fun us v => [], fun us v => [], fun us v => [], fun us v => [], fun us v => [], fun us v => [], fun us v => [], fun us v => [], fun us v => [], fun us v => [], fun us v => [], fun us v => [], fun us v => [], fun us v => [], fun us v => [], fun us v => [], fun us v => [], fun us v => [], fun us v => [], fun us v => [], fun us v => []]) mixed rfl rfl (by kernel_rfl) ?_ ?_
    ·refine pC (fun vals R hpZ => ?_) ?_
     ·refine XG.op (XOp.move (x7) rfl ?_)
      exact ⟨rfl, rfl, rfl⟩
     refine pC (fun vals R hpZ => ?_) ?_
     ·refine XG.op (XOp.move (.int .i64 ((k : Int))) rfl ?_)
      exact ⟨rfl, rfl, rfl⟩
     refine pC (fun vals R hpZ => ?_) ?_
     ·rw [eS (l := [(0, x7), (1, (.int .i64 ((k : Int)) : Value))]) ⟨hpZ 0 (by decide), hpZ 1 (by decide), trivial⟩]
      refine XG.op (XOp.indexS (v := x7) (i := (k : Int)) (n := (redS x4 x5 x6).length) k runUnderlying24 sizeOf2 rfl rfl rfl hr6.slv (by omega) (Nat.mul_one _) ?_)
      exact ⟨rfl, rfl, rfl⟩
     refine pC (fun vals R hpZ => ?_) ?_
     ·rw [eS (l := [(2, (.pointer (some (elemA x7 (k))) : Value))]) ⟨hpZ 2 (by decide), trivial⟩]
      refine XG.op (XOp.load1 (v := .int .i64 ((redS x4 x5 x6).getD k 0)) isAgg2 rfl (hr6.rd (by omega)) ?_)
      exact ⟨rfl, rfl, rfl⟩
     refine pC (fun vals R hpZ => ?_) ?_
     ·refine XG.op (XOp.move (x8) rfl ?_)
      exact ⟨rfl, rfl, rfl⟩
     refine pC (fun vals R hpZ => ?_) ?_
     ·refine XG.op (XOp.move (.int .i64 ((i : Int))) rfl ?_)
      exact ⟨rfl, rfl, rfl⟩
     refine pC (fun vals R hpZ => ?_) ?_
     ·rw [eS (l := [(4, x8), (5, (.int .i64 ((i : Int)) : Value))]) ⟨hpZ 4 (by decide), hpZ 5 (by decide), trivial⟩]
      refine XG.op (XOp.indexS (v := x8) (i := (i : Int)) (n := (inS x4 x5 x6).length) i runUnderlying24 sizeOf2 rfl rfl rfl hr7.slv (by omega) (Nat.mul_one _) ?_)
      exact ⟨rfl, rfl, rfl⟩
     refine pC (fun vals R hpZ => ?_) ?_
     ·rw [eS (l := [(6, (.pointer (some (elemA x8 (i))) : Value))]) ⟨hpZ 6 (by decide), trivial⟩]
      refine XG.op (XOp.load1 (v := .int .i64 ((inS x4 x5 x6).getD i 0)) isAgg2 rfl (hr7.rd (by omega)) ?_)
      exact ⟨rfl, rfl, rfl⟩
     refine pC (fun vals R hpZ => ?_) ?_
     ·rw [eS (l := [(3, (.int .i64 ((redS x4 x5 x6).getD k 0) : Value)), (7, (.int .i64 ((inS x4 x5 x6).getD i 0) : Value))]) ⟨hpZ 3 (by decide), hpZ 7 (by decide), trivial⟩]
      refine XG.op (XOp.neq (a := (redS x4 x5 x6).getD k 0) (b := (inS x4 x5 x6).getD i 0) rfl rfl ?_)
      exact ⟨rfl, rfl, rfl⟩
     refine pC (fun vals R hpZ => ?_) ?_
     ·rw [eS (l := [(8, (.bool (decide (((redS x4 x5 x6).getD k 0 : Int) ≠ (inS x4 x5 x6).getD i 0)) : Value))]) ⟨hpZ 8 (by decide), trivial⟩]
      refine XG.op (XOp.move (.bool (decide (((redS x4 x5 x6).getD k 0 : Int) ≠ (inS x4 x5 x6).getD i 0))) rfl ?_)
      exact ⟨rfl, rfl, rfl⟩
     refine pC (fun vals R hpZ => ?_) ?_
     ·rw [eS (l := [(9, (.bool (decide (((redS x4 x5 x6).getD k 0 : Int) ≠ (inS x4 x5 x6).getD i 0)) : Value))]) ⟨hpZ 9 (by decide), trivial⟩]
      refine XG.yes (t := 74) rfl (vT h7) (XOp.fieldP (b := b1) (0) runUnderlying29 rfl sizeOf26 (by decide) rfl rfl ?_)
      exact ⟨rfl, rfl, rfl⟩
     refine pC (fun vals R hpZ => ?_) ?_
     ·rw [eS (l := [(9, (.bool (decide (((redS x4 x5 x6).getD k 0 : Int) ≠ (inS x4 x5 x6).getD i 0)) : Value)), (10, ptr b1 0)]) ⟨hpZ 9 (by decide), hpZ 10 (by decide), trivial⟩]
      refine XG.yes (t := 74) rfl (vT h7) (XOp.loadN [x1] isAgg26 sizeOf26 rfl rfl (Rd.ownN [] rfl rfl) ?_)
      exact ⟨rfl, rfl, rfl⟩
     refine pC (fun vals R hpZ => ?_) ?_
     ·rw [eS (l := [(9, (.bool (decide (((redS x4 x5 x6).getD k 0 : Int) ≠ (inS x4 x5 x6).getD i 0)) : Value))]) ⟨hpZ 9 (by decide), trivial⟩]
      refine XG.yes (t := 74) rfl (vT h7) (XOp.move (x3) rfl ?_)
      exact ⟨rfl, rfl, rfl⟩
     refine pC (fun vals R hpZ => ?_) ?_
     ·rw [eS (l := [(9, (.bool (decide (((redS x4 x5 x6).getD k 0 : Int) ≠ (inS x4 x5 x6).getD i 0)) : Value))]) ⟨hpZ 9 (by decide), trivial⟩]
      refine XG.yes (t := 74) rfl (vT h7) (XOp.move (x8) rfl ?_)
      exact ⟨rfl, rfl, rfl⟩
     refine pC (fun vals R hpZ => ?_) ?_
     ·rw [eS (l := [(9, (.bool (decide (((redS x4 x5 x6).getD k 0 : Int) ≠ (inS x4 x5 x6).getD i 0)) : Value))]) ⟨hpZ 9 (by decide), trivial⟩]
      refine XG.yes (t := 74) rfl (vT h7) (XOp.move (.int .i64 ((i : Int))) rfl ?_)
      exact ⟨rfl, rfl, rfl⟩
     refine pC (fun vals R hpZ => ?_) ?_
     ·rw [eS (l := [(9, (.bool (decide (((redS x4 x5 x6).getD k 0 : Int) ≠ (inS x4 x5 x6).getD i 0)) : Value)), (13, x8), (14, (.int .i64 ((i : Int)) : Value))]) ⟨hpZ 9 (by decide), hpZ 13 (by decide), hpZ 14 (by decide), trivial⟩]
      refine XG.yes (t := 74) rfl (vT h7) (XOp.indexS (v := x8) (i := (i : Int)) (n := (inS x4 x5 x6).length) i runUnderlying24 sizeOf2 rfl rfl rfl hr7.slv (by omega) (Nat.mul_one _) ?_)
      exact ⟨rfl, rfl, rfl⟩
     refine pC (fun vals R hpZ => ?_) ?_
     ·rw [eS (l := [(9, (.bool (decide (((redS x4 x5 x6).getD k 0 : Int) ≠ (inS x4 x5 x6).getD i 0)) : Value)), (15, (.pointer (some (elemA x8 (i))) : Value))]) ⟨hpZ 9 (by decide), hpZ 15 (by decide), trivial⟩]
      refine XG.yes (t := 74) rfl (vT h7) (XOp.load1 (v := .int .i64 ((inS x4 x5 x6).getD i 0)) isAgg2 rfl (hr7.rd (by omega)) ?_)
      exact ⟨rfl, rfl, rfl⟩
     refine pC (fun vals R hpZ => ?_) ?_
     ·rw [eS (l := [(9, (.bool (decide (((redS x4 x5 x6).getD k 0 : Int) ≠ (inS x4 x5 x6).getD i 0)) : Value))]) ⟨hpZ 9 (by decide), trivial⟩]
      refine XG.yes (t := 74) rfl (vT h7) (XOp.move (x7) rfl ?_)
      exact ⟨rfl, rfl, rfl⟩
     refine pC (fun vals R hpZ => ?_) ?_
     ·rw [eS (l := [(9, (.bool (decide (((redS x4 x5 x6).getD k 0 : Int) ≠ (inS x4 x5 x6).getD i 0)) : Value))]) ⟨hpZ 9 (by decide), trivial⟩]
      refine XG.yes (t := 74) rfl (vT h7) (XOp.move (.int .i64 ((k : Int))) rfl ?_)
      exact ⟨rfl, rfl, rfl⟩
     refine pC (fun vals R hpZ => ?_) ?_
     ·rw [eS (l := [(9, (.bool (decide (((redS x4 x5 x6).getD k 0 : Int) ≠ (inS x4 x5 x6).getD i 0)) : Value)), (17, x7), (18, (.int .i64 ((k : Int)) : Value))]) ⟨hpZ 9 (by decide), hpZ 17 (by decide), hpZ 18 (by decide), trivial⟩]
      refine XG.yes (t := 74) rfl (vT h7) (XOp.indexS (v := x7) (i := (k : Int)) (n := (redS x4 x5 x6).length) k runUnderlying24 sizeOf2 rfl rfl rfl hr6.slv (by omega) (Nat.mul_one _) ?_)
      exact ⟨rfl, rfl, rfl⟩
     refine pC (fun vals R hpZ => ?_) ?_
     ·rw [eS (l := [(9, (.bool (decide (((redS x4 x5 x6).getD k 0 : Int) ≠ (inS x4 x5 x6).getD i 0)) : Value)), (19, (.pointer (some (elemA x7 (k))) : Value))]) ⟨hpZ 9 (by decide), hpZ 19 (by decide), trivial⟩]
      refine XG.yes (t := 74) rfl (vT h7) (XOp.load1 (v := .int .i64 ((redS x4 x5 x6).getD k 0)) isAgg2 rfl (hr6.rd (by omega)) ?_)
      exact ⟨rfl, rfl, rfl⟩
     exact stepsP.nil
    intro vals hphi
    rw [eS (l := [(9, (.bool (decide (((redS x4 x5 x6).getD k 0 : Int) ≠ (inS x4 x5 x6).getD i 0)) : Value)), (11, (.agg #[x1] : Value)), (12, x3), (16, (.int .i64 ((inS x4 x5 x6).getD i 0) : Value)), (20, (.int .i64 ((redS x4 x5 x6).getD k 0) : Value))]) ⟨(hphi 9 (by decide)), (hphi 11 (by decide)), (hphi 12 (by decide)), (hphi 16 (by decide)), (hphi 20 (by decide)), trivial⟩]
    show XL _ _ _ _ _ _ _ (cellsH b1 [x1, x2] 29 :: L)
    refine XL.yes (t := 74) rfl (vT h7) (XOp.call (args := [.agg #[x1], x3, .int .i64 ((inS x4 x5 x6).getD i 0), .int .i64 ((redS x4 x5 x6).getD k 0)]) call17 rfl (InsideIn_spec (a := (inS x4 x5 x6).getD i 0) (p := (redS x4 x5 x6).getD k 0) hr1 hr3) ?_)
    rintro _ _ _ _ ⟨rfl, rfl, rfl⟩
    refine cX (XOp.pickT (.bool (insideB x4 x6 ((inS x4 x5 x6).getD i 0) ((redS x4 x5 x6).getD k 0))) (vT h7) rfl ?_)
    refine XL.nil ?_
    refine X.cond (t := insideB x4 x6 ((inS x4 x5 x6).getD i 0) ((redS x4 x5 x6).getD k 0)) rfl (fun h8 => ?_) (fun h8 => ?_)
    ·exact absurd h8 (by first | (rw [inS_law (by omega) (by omega) (by assumption)]; simp) | (rw [outS_law (by omega) (by omega) (by assumption)]; simp))
    refine X.skip (X.region ?_)
    refine XL.mv (.int .i64 ((k : Int))) rfl ?_
    refine cX (XOp.addR (a := (k : Int)) (b := 1) (((k + 1 : Nat) : Int)) rfl rfl (by omega) (by omega) ?_)
    refine XL.as (.int .i64 (((k + 1 : Nat) : Int))) rfl ?_
    refine XL.nil ?_
    exact ⟨k + 1, _, FLe.refl _, rF, ⟨rfl, rfl, rfl, rfl, rfl, rfl, rfl, trivial⟩, (sC sR), ⟨rfl, (by (try dsimp only) <;> omega)⟩, (by omega)⟩
   refine X.draw [cellsH b1 [x1, x2] 29] L 21 [[], [], [], [], [], [], [], [], [], [], [], [], [], [], [], [], [], [], [], [], []] [[], [], [0, 1], [2], [], [], [4, 5], [6], [3, 7], [8], [9], [9, 10], [9], [9], [9], [9, 13, 14], [9, 15], [9], [9], [9, 17, 18], [9, 19]] (phiL [fun us v => v = x7, fun us v => v = (.int .i64 ((k : Int)) : Value), fun us v => v = (.pointer (some (elemA x7 (k))) : Value), fun us v => v = (.int .i64 ((redS x4 x5 x6).getD k 0) : Value), fun us v => v = x8, fun us v => v = (.int .i64 ((i : Int)) : Value), fun us v => v = (.pointer (some (elemA x8 (i))) : Value), fun us v => v = (.int .i64 ((inS x4 x5 x6).getD i 0) : Value), fun us v => v = (.bool (decide (((redS x4 x5 x6).getD k 0 : Int) ≠ (inS x4 x5 x6).getD i 0)) : Value), fun us v => v = (.bool (decide (((redS x4 x5 x6).getD k 0 : Int) ≠ (inS x4 x5 x6).getD i 0)) : Value), fun us v => v = undef, fun us v => v = undef, fun us v => v = undef, fun us v => v = undef, fun us v => v = undef, fun us v => v = undef, fun us v => v = undef, fun us v => v = undef, fun us v => v = undef, fun us v => v = undef, fun us v => v = undef]) (ownL [fun us v => [], fun us v => [], fun us v => [], fun us v => [], fun us v => [], fun us v => [], fun us v => [], fun us v => [], fun us v => [], fun us v => [], fun us v => [], fun us v => [], fun us v => [], fun us v => [], fun us v => [], fun us v => [], fun us v => [], fun us v => [], fun us v => [], fun us v => [], fun us v => []]) mixed rfl rfl (by kernel_rfl) ?_ ?_
   ·refine pC (fun vals R hpZ => ?_) ?_
    ·refine XG.op (XOp.move (x7) rfl ?_)
     exact ⟨rfl, rfl, rfl⟩
    refine pC (fun vals R hpZ => ?_) ?_
    ·refine XG.op (XOp.move (.int .i64 ((k : Int))) rfl ?_)
     exact ⟨rfl, rfl, rfl⟩
    refine pC (fun vals R hpZ => ?_) ?_
    ·rw [eS (l := [(0, x7), (1, (.int .i64 ((k : Int)) : Value))]) ⟨hpZ 0 (by decide), hpZ 1 (by decide), trivial⟩]
     refine XG.op (XOp.indexS (v := x7) (i := (k : Int)) (n := (redS x4 x5 x6).length) k runUnderlying24 sizeOf2 rfl rfl rfl hr6.slv (by omega) (Nat.mul_one _) ?_)
     exact ⟨rfl, rfl, rfl⟩
    refine pC (fun vals R hpZ => ?_) ?_
    ·rw [eS (l := [(2, (.pointer (some (elemA x7 (k))) : Value))]) ⟨hpZ 2 (by decide), trivial⟩]
     refine XG.op (XOp.load1 (v := .int .i64 ((redS x4 x5 x6).getD k 0)) isAgg2 rfl (hr6.rd (by omega)) ?_)
     exact ⟨rfl, rfl, rfl⟩
    refine pC (fun vals R hpZ => ?_) ?_
    ·refine XG.op (XOp.move (x8) rfl ?_)
     exact ⟨rfl, rfl, rfl⟩
    refine pC (fun vals R hpZ => ?_) ?_
    ·refine XG.op (XOp.move (.int .i64 ((i : Int))) rfl ?_)
     exact ⟨rfl, rfl, rfl⟩
    refine pC (fun vals R hpZ => ?_) ?_
    ·rw [eS (l := [(4, x8), (5, (.int .i64 ((i : Int)) : Value))]) ⟨hpZ 4 (by decide), hpZ 5 (by decide), trivial⟩]
     refine XG.op (XOp.indexS (v := x8) (i := (i : Int)) (n := (inS x4 x5 x6).length) i runUnderlying24 sizeOf2 rfl rfl rfl hr7.slv (by omega) (Nat.mul_one _) ?_)
     exact ⟨rfl, rfl, rfl⟩
    refine pC (fun vals R hpZ => ?_) ?_
    ·rw [eS (l := [(6, (.pointer (some (elemA x8 (i))) : Value))]) ⟨hpZ 6 (by decide), trivial⟩]
     refine XG.op (XOp.load1 (v := .int .i64 ((inS x4 x5 x6).getD i 0)) isAgg2 rfl (hr7.rd (by omega)) ?_)
     exact ⟨rfl, rfl, rfl⟩
    refine pC (fun vals R hpZ => ?_) ?_
    ·rw [eS (l := [(3, (.int .i64 ((redS x4 x5 x6).getD k 0) : Value)), (7, (.int .i64 ((inS x4 x5 x6).getD i 0) : Value))]) ⟨hpZ 3 (by decide), hpZ 7 (by decide), trivial⟩]
     refine XG.op (XOp.neq (a := (redS x4 x5 x6).getD k 0) (b := (inS x4 x5 x6).getD i 0) rfl rfl ?_)
     exact ⟨rfl, rfl, rfl⟩
    refine pC (fun vals R hpZ => ?_) ?_
    ·rw [eS (l := [(8, (.bool (decide (((redS x4 x5 x6).getD k 0 : Int) ≠ (inS x4 x5 x6).getD i 0)) : Value))]) ⟨hpZ 8 (by decide), trivial⟩]
     refine XG.op (XOp.move (.bool (decide (((redS x4 x5 x6).getD k 0 : Int) ≠ (inS x4 x5 x6).getD i 0))) rfl ?_)
     exact ⟨rfl, rfl, rfl⟩
    refine pC (fun vals R hpZ => ?_) ?_
    ·rw [eS (l := [(9, (.bool (decide (((redS x4 x5 x6).getD k 0 : Int) ≠ (inS x4 x5 x6).getD i 0)) : Value))]) ⟨hpZ 9 (by decide), trivial⟩]
     exact XG.no (t := 74) rfl (vF h7) ⟨rfl, rfl, rfl⟩
    refine pC (fun vals R hpZ => ?_) ?_
    ·rw [eS (l := [(9, (.bool (decide (((redS x4 x5 x6).getD k 0 : Int) ≠ (inS x4 x5 x6).getD i 0)) : Value)), (10, undef)]) ⟨hpZ 9 (by decide), hpZ 10 (by decide), trivial⟩]
     exact XG.no (t := 74) rfl (vF h7) ⟨rfl, rfl, rfl⟩
    refine pC (fun vals R hpZ => ?_) ?_
    ·rw [eS (l := [(9, (.bool (decide (((redS x4 x5 x6).getD k 0 : Int) ≠ (inS x4 x5 x6).getD i 0)) : Value))]) ⟨hpZ 9 (by decide), trivial⟩]
     exact XG.no (t := 74) rfl (vF h7) ⟨rfl, rfl, rfl⟩
    refine pC (fun vals R hpZ => ?_) ?_
    ·rw [eS (l := [(9, (.bool (decide (((redS x4 x5 x6).getD k 0 : Int) ≠ (inS x4 x5 x6).getD i 0)) : Value))]) ⟨hpZ 9 (by decide), trivial⟩]
     exact XG.no (t := 74) rfl (vF h7) ⟨rfl, rfl, rfl⟩
    refine pC (fun vals R hpZ => ?_) ?_
    ·rw [eS (l := [(9, (.bool (decide (((redS x4 x5 x6).getD k 0 : Int) ≠ (inS x4 x5 x6).getD i 0)) : Value))]) ⟨hpZ 9 (by decide), trivial⟩]
     exact XG.no (t := 74) rfl (vF h7) ⟨rfl, rfl, rfl⟩
    refine pC (fun vals R hpZ => ?_) ?_
    ·rw [eS (l := [(9, (.bool (decide (((redS x4 x5 x6).getD k 0 : Int) ≠ (inS x4 x5 x6).getD i 0)) : Value)), (13, undef), (14, undef)]) ⟨hpZ 9 (by decide), hpZ 13 (by decide), hpZ 14 (by decide), trivial⟩]
     exact XG.no (t := 74) rfl (vF h7) ⟨rfl, rfl, rfl⟩
    refine pC (fun vals R hpZ => ?_) ?_
    ·rw [eS (l := [(9, (.bool (decide (((redS x4 x5 x6).getD k 0 : Int) ≠ (inS x4 x5 x6).getD i 0)) : Value)), (15, undef)]) ⟨hpZ 9 (by decide), hpZ 15 (by decide), trivial⟩]
     exact XG.no (t := 74) rfl (vF h7) ⟨rfl, rfl, rfl⟩
    refine pC (fun vals R hpZ => ?_) ?_
    ·rw [eS (l := [(9, (.bool (decide (((redS x4 x5 x6).getD k 0 : Int) ≠ (inS x4 x5 x6).getD i 0)) : Value))]) ⟨hpZ 9 (by decide), trivial⟩]
     exact XG.no (t := 74) rfl (vF h7) ⟨rfl, rfl, rfl⟩
    refine pC (fun vals R hpZ => ?_) ?_
    ·rw [eS (l := [(9, (.bool (decide (((redS x4 x5 x6).getD k 0 : Int) ≠ (inS x4 x5 x6).getD i 0)) : Value))]) ⟨hpZ 9 (by decide), trivial⟩]
     exact XG.no (t := 74) rfl (vF h7) ⟨rfl, rfl, rfl⟩
    refine pC (fun vals R hpZ => ?_) ?_
    ·rw [eS (l := [(9, (.bool (decide (((redS x4 x5 x6).getD k 0 : Int) ≠ (inS x4 x5 x6).getD i 0)) : Value)), (17, undef), (18, undef)]) ⟨hpZ 9 (by decide), hpZ 17 (by decide), hpZ 18 (by decide), trivial⟩]
     exact XG.no (t := 74) rfl (vF h7) ⟨rfl, rfl, rfl⟩
    refine pC (fun vals R hpZ => ?_) ?_
    ·rw [eS (l := [(9, (.bool (decide (((redS x4 x5 x6).getD k 0 : Int) ≠ (inS x4 x5 x6).getD i 0)) : Value)), (19, undef)]) ⟨hpZ 9 (by decide), hpZ 19 (by decide), trivial⟩]
     exact XG.no (t := 74) rfl (vF h7) ⟨rfl, rfl, rfl⟩
    exact stepsP.nil
   intro vals hphi
   rw [eS (l := [(9, (.bool (decide (((redS x4 x5 x6).getD k 0 : Int) ≠ (inS x4 x5 x6).getD i 0)) : Value)), (11, undef), (12, undef), (16, undef), (20, undef)]) ⟨(hphi 9 (by decide)), (hphi 11 (by decide)), (hphi 12 (by decide)), (hphi 16 (by decide)), (hphi 20 (by decide)), trivial⟩]
   show XL _ _ _ _ _ _ _ (cellsH b1 [x1, x2] 29 :: L)
   refine XL.no (t := 74) rfl (vF h7) ?_
   refine cX (XOp.pickF (.bool (false)) (vF h7) rfl ?_)
   refine XL.nil ?_
   refine X.condF rfl ?_
   refine X.skip (X.region ?_)
   refine XL.mv (.int .i64 ((k : Int))) rfl ?_
   refine cX (XOp.addR (a := (k : Int)) (b := 1) (((k + 1 : Nat) : Int)) rfl rfl (by omega) (by omega) ?_)
   refine XL.as (.int .i64 (((k + 1 : Nat) : Int))) rfl ?_
   refine XL.nil ?_
   exact ⟨k + 1, _, FLe.refl _, rF, ⟨rfl, rfl, rfl, rfl, rfl, rfl, rfl, trivial⟩, (sC sR), ⟨rfl, (by (try dsimp only) <;> omega)⟩, (by omega)⟩
  refine X.exit (thenQ_exit (thenQ_exit (blockQ_exit ?_)))
  refine X.region ?_
  refine XL.mv (.int .i64 ((i : Int))) rfl ?_
  refine cX (XOp.addR (a := (i : Int)) (b := 1) (((i + 1 : Nat) : Int)) rfl rfl (by omega) (by omega) ?_)
  refine XL.as (.int .i64 (((i + 1 : Nat) : Int))) rfl ?_
  refine XL.nil ?_
  exact ⟨i + 1, _, FLe.refl _, rF, ⟨rfl, rfl, rfl, rfl, rfl, rfl, trivial⟩, (sC sR), ⟨rfl, (by (try dsimp only) <;> omega)⟩, (by omega)⟩
 refine X.exit (thenQ_exit (thenQ_exit (blockQ_exit ?_)))
 refine X.seq (X.seq (X.region ?_))
 refine XL.as (.int .i64 (0)) rfl ?_
 refine XL.nil (X.block ?_)
 refine X.loop (α := Nat) (fun i => [(3, ptr b1 0), (4, x3), (5, x7), (6, x8), (7, x9), (10, .int .i64 ((i : Int)))]) (fun i => cellsH b1 [x1, x2] 29 :: L) (fun i F' => F7 = F' ∧ (i ≤ (outS x4 x5 x6).length)) (fun i => (outS x4 x5 x6).length - i) 0 ⟨rfl, rfl, rfl, rfl, rfl, rfl, trivial⟩ (sC sR) ⟨rfl, (Nat.zero_le _)⟩ ?_
 rintro i rE _ _ ⟨rfl, hi⟩
 show X _ _ _ _ (envs [(3, ptr b1 0), (4, x3), (5, x7), (6, x8), (7, x9), (10, .int .i64 ((i : Int)))] rE) _ (cellsH b1 [x1, x2] 29 :: L)
 refine X.seq (X.seq (X.region ?_))
 refine XL.mv (.int .i64 ((i : Int))) rfl ?_
 refine XL.mv (x9) rfl ?_
 refine cX (XOp.lenS (v := x9) (n := (outS x4 x5 x6).length) runUnderlying24 rfl hr8.slv ?_)
 refine cX (XOp.lss (a := (i : Int)) (b := (((outS x4 x5 x6).length : Nat) : Int)) rfl rfl ?_)
 refine XL.nil ?_
 refine X.condD (p := (i : Int) < (((outS x4 x5 x6).length : Nat) : Int)) rfl (fun h9 => ?_) (fun h9 => ?_)
 ·refine X.skip (X.seq (X.block (X.seq (X.region ?_))))
  refine XL.as (.int .i64 (0)) rfl ?_
  refine XL.nil (X.block ?_)
  refine X.loop (α := Nat) (fun k => [(3, ptr b1 0), (4, x3), (5, x7), (6, x8), (7, x9), (10, .int .i64 ((i : Int))), (11, .int .i64 ((k : Int)))]) (fun k => cellsH b1 [x1, x2] 29 :: L) (fun k F' => F7 = F' ∧ (k ≤ (redS x4 x5 x6).length)) (fun k => (redS x4 x5 x6).length - k) 0 ⟨rfl, rfl, rfl, rfl, rfl, rfl, rfl, trivial⟩ (sC sR) ⟨rfl, (Nat.zero_le _)⟩ ?_
  rintro k rE _ _ ⟨rfl, hk⟩
  show X _ _ _ _ (envs [(3, ptr b1 0), (4, x3), (5, x7), (6, x8), (7, x9), (10, .int .i64 ((i : Int))), (11, .int .i64 ((k : Int)))] rE) _ (cellsH b1 [x1, x2] 29 :: L)
  refine X.seq (X.seq (X.region ?_))
  refine XL.mv (.int .i64 ((k : Int))) rfl ?_
  refine XL.mv (x7) rfl ?_
  refine cX (XOp.lenS (v := x7) (n := (redS x4 x5 x6).length) runUnderlying24 rfl hr6.slv ?_)
  refine cX (XOp.lss (a := (k : Int)) (b := (((redS x4 x5 x6).length : Nat) : Int)) rfl rfl ?_)
  refine XL.nil ?_
  refine X.condD (p := (k : Int) < (((redS x4 x5 x6).length : Nat) : Int)) rfl (fun h10 => ?_) (fun h10 => ?_)
  ·refine X.skip (X.seq (X.block (X.seq ?_)))
   by_cases h11 : ((redS x4 x5 x6).getD k 0 : Int) ≠ (outS x4 x5 x6).getD i 0
   ·refine X.draw [cellsH b1 [x1, x2] 29] L 21 [[], [], [], [], [], [], [], [], [], [], [], [], [], [], [], [], [], [], [], [], []] [[], [], [0, 1], [2], [], [], [4, 5], [6], [3, 7], [8], [9], [9, 10], [9], [9], [9], [9, 13, 14], [9, 15], [9], [9], [9, 17, 18], [9, 19]] (phiL [fun us v => v = x7, fun us v => v = (.int .i64 ((k : Int)) : Value), fun us v => v = (.pointer (some (elemA x7 (k))) : Value), fun us v => v = (.int .i64 ((redS x4 x5 x6).getD k 0) : Value), fun us v => v = x9, fun us v => v = (.int .i64 ((i : Int)) : Value), fun us v => v = (.pointer (some (elemA x9 (i))) : Value), fun us v => v = (.int .i64 ((outS x4 x5 x6).getD i 0) : Value), fun us v => v = (.bool (decide (((redS x4 x5 x6).getD k 0 : Int) ≠ (outS x4 x5 x6).getD i 0)) : Value), fun us v => v = (.bool (decide (((redS x4 x5 x6).getD k 0 : Int) ≠ (outS x4 x5 x6).getD i 0)) : Value), fun us v => v = ptr b1 0, fun us v => v = (.agg #[x1] : Value), fun us v => v = x3, fun us v => v = x7, fun us v => v = (.int .i64 ((k : Int)) : Value), fun us v => v = (.pointer (some (elemA x7 (k))) : Value), fun us v => v = (.int .i64 ((redS x4 x5 x6).getD k 0) : Value), fun us v => v = x9, fun us v => v = (.int .i64 ((i : Int)) : Value), fun us v => v = (.pointer (some (elemA x9 (i))) : Value), fun us v => v = (.int .i64 ((outS x4 x5 x6).getD i 0) : Value)]) (ownL [fun us v => [], fun us v => [], fun us v => [], fun us v => [], fun us v => [], fun us v => [], fun us v => [], fun us v => [], fun us v => [], fun us v => [], fun us v => [], fun us v => [], fun us v => [], fun us v => [], fun us v => [], fun us v => [], fun us v => [], fun us v => [], fun us v => [], fun us v => [], fun us v => []]) mixed rfl rfl (by kernel_rfl) ?_ ?_
    ·refine pC (fun vals R hpZ => ?_) ?_
     ·refine XG.op (XOp.move (x7) rfl ?_)
      exact ⟨rfl, rfl, rfl⟩
     refine pC (fun vals R hpZ => ?_) ?_
     ·refine XG.op (XOp.move (.int .i64 ((k : Int))) rfl ?_)
      exact ⟨rfl, rfl, rfl⟩
     refine pC (fun vals R hpZ => ?_) ?_
     ·rw [eS (l := [(0, x7), (1, (.int .i64 ((k : Int)) : Value))]) ⟨hpZ 0 (by decide), hpZ 1 (by decide), trivial⟩]
      refine XG.op (XOp.indexS (v := x7) (i := (k : Int)) (n := (redS x4 x5 x6).length) k runUnderlying24 sizeOf2 rfl rfl rfl hr6.slv (by omega) (Nat.mul_one _) ?_)
      exact ⟨rfl, rfl, rfl⟩
     refine pC (fun vals R hpZ => ?_) ?_
     ·rw [eS (l := [(2, (.pointer (some (elemA x7 (k))) : Value))]) ⟨hpZ 2 (by decide), trivial⟩]
      refine XG.op (XOp.load1 (v := .int .i64 ((redS x4 x5 x6).getD k 0)) isAgg2 rfl (hr6.rd (by omega)) ?_)
      exact ⟨rfl, rfl, rfl⟩
     refine pC (fun vals R hpZ => ?_) ?_
     ·refine XG.op (XOp.move (x9) rfl ?_)
      exact ⟨rfl, rfl, rfl⟩
     refine pC (fun vals R hpZ => ?_) ?_
     ·refine XG.op (XOp.move (.int .i64 ((i : Int))) rfl ?_)
      exact ⟨rfl, rfl, rfl⟩
     refine pC (fun vals R hpZ => ?_) ?_
     ·rw [eS (l := [(4, x9), (5, (.int .i64 ((i : Int)) : Value))]) ⟨hpZ 4 (by decide), hpZ 5 (by decide), trivial⟩]
      refine XG.op (XOp.indexS (v := x9) (i := (i : Int)) (n := (outS x4 x5 x6).length) i runUnderlying24 sizeOf2 rfl rfl rfl hr8.slv (by omega) (Nat.mul_one _) ?_)
      exact ⟨rfl, rfl, rfl⟩
     refine pC (fun vals R hpZ => ?_) ?_
     ·rw [eS (l := [(6, (.pointer (some (elemA x9 (i))) : Value))]) ⟨hpZ 6 (by decide), trivial⟩]
      refine XG.op (XOp.load1 (v := .int .i64 ((outS x4 x5 x6).getD i 0)) isAgg2 rfl (hr8.rd (by omega)) ?_)
      exact ⟨rfl, rfl, rfl⟩
     refine pC (fun vals R hpZ => ?_) ?_
     ·rw [eS (l := [(3, (.int .i64 ((redS x4 x5 x6).getD k 0) : Value)), (7, (.int .i64 ((outS x4 x5 x6).getD i 0) : Value))]) ⟨hpZ 3 (by decide), hpZ 7 (by decide), trivial⟩]
      refine XG.op (XOp.neq (a := (redS x4 x5 x6).getD k 0) (b := (outS x4 x5 x6).getD i 0) rfl rfl ?_)
      exact ⟨rfl, rfl, rfl⟩
     refine pC (fun vals R hpZ => ?_) ?_
     ·rw [eS (l := [(8, (.bool (decide (((redS x4 x5 x6).getD k 0 : Int) ≠ (outS x4 x5 x6).getD i 0)) : Value))]) ⟨hpZ 8 (by decide), trivial⟩]
      refine XG.op (XOp.move (.bool (decide (((redS x4 x5 x6).getD k 0 : Int) ≠ (outS x4 x5 x6).getD i 0))) rfl ?_)
      exact ⟨rfl, rfl, rfl⟩
     refine pC (fun vals R hpZ => ?_) ?_
     ·rw [eS (l := [(9, (.bool (decide (((redS x4 x5 x6).getD k 0 : Int) ≠ (outS x4 x5 x6).getD i 0)) : Value))]) ⟨hpZ 9 (by decide), trivial⟩]
      refine XG.yes (t := 109) rfl (vT h11) (XOp.fieldP (b := b1) (0) runUnderlying29 rfl sizeOf26 (by decide) rfl rfl ?_)
      exact ⟨rfl, rfl, rfl⟩
     refine pC (fun vals R hpZ => ?_) ?_
     ·rw [eS (l := [(9, (.bool (decide (((redS x4 x5 x6).getD k 0 : Int) ≠ (outS x4 x5 x6).getD i 0)) : Value)), (10, ptr b1 0)]) ⟨hpZ 9 (by decide), hpZ 10 (by decide), trivial⟩]
      refine XG.yes (t := 109) rfl (vT h11) (XOp.loadN [x1] isAgg26 sizeOf26 rfl rfl (Rd.ownN [] rfl rfl) ?_)
      exact ⟨rfl, rfl, rfl⟩
     refine pC (fun vals R hpZ => ?_) ?_
     ·rw [eS (l := [(9, (.bool (decide (((redS x4 x5 x6).getD k 0 : Int) ≠ (outS x4 x5 x6).getD i 0)) : Value))]) ⟨hpZ 9 (by decide), trivial⟩]
      refine XG.yes (t := 109) rfl (vT h11) (XOp.move (x3) rfl ?_)
      exact ⟨rfl, rfl, rfl⟩
     refine pC (fun vals R hpZ => ?_) ?_
     ·rw [eS (l := [(9, (.bool (decide (((redS x4 x5 x6).getD k 0 : Int) ≠ (outS x4 x5 x6).getD i 0)) : Value))]) ⟨hpZ 9 (by decide), trivial⟩]
      refine XG.yes (t := 109) rfl (vT h11) (XOp.move (x7) rfl ?_)
      exact ⟨rfl, rfl, rfl⟩
     refine pC (fun vals R hpZ => ?_) ?_
     ·rw [eS (l := [(9, (.bool (decide (((redS x4 x5 x6).getD k 0 : Int) ≠ (outS x4 x5 x6).getD i 0)) : Value))]) ⟨hpZ 9 (by decide), trivial⟩]
      refine XG.yes (t := 109) rfl (vT h11) (XOp.move (.int .i64 ((k : Int))) rfl ?_)
      exact ⟨rfl, rfl, rfl⟩
     refine pC (fun vals R hpZ => ?_) ?_
     ·rw [eS (l := [(9, (.bool (decide (((redS x4 x5 x6).getD k 0 : Int) ≠ (outS x4 x5 x6).getD i 0)) : Value)), (13, x7), (14, (.int .i64 ((k : Int)) : Value))]) ⟨hpZ 9 (by decide), hpZ 13 (by decide), hpZ 14 (by decide), trivial⟩]
      refine XG.yes (t := 109) rfl (vT h11) (XOp.indexS (v := x7) (i := (k : Int)) (n := (redS x4 x5 x6).length) k runUnderlying24 sizeOf2 rfl rfl rfl hr6.slv (by omega) (Nat.mul_one _) ?_)
      exact ⟨rfl, rfl, rfl⟩
     refine pC (fun vals R hpZ => ?_) ?_
     ·rw [eS (l := [(9, (.bool (decide (((redS x4 x5 x6).getD k 0 : Int) ≠ (outS x4 x5 x6).getD i 0)) : Value)), (15, (.pointer (some (elemA x7 (k))) : Value))]) ⟨hpZ 9 (by decide), hpZ 15 (by decide), trivial⟩]
      refine XG.yes (t := 109) rfl (vT h11) (XOp.load1 (v := .int .i64 ((redS x4 x5 x6).getD k 0)) isAgg2 rfl (hr6.rd (by omega)) ?_)
      exact ⟨rfl, rfl, rfl⟩
     refine pC (fun vals R hpZ => ?_) ?_
     ·rw [eS (l := [(9, (.bool (decide (((redS x4 x5 x6).getD k 0 : Int) ≠ (outS x4 x5 x6).getD i 0)) : Value))]) ⟨hpZ 9 (by decide), trivial⟩]
      refine XG.yes (t := 109) rfl (vT h11) (XOp.move (x9) rfl ?_)
      exact ⟨rfl, rfl, rfl⟩
     refine pC (fun vals R hpZ => ?_) ?_
     ·rw [eS (l := [(9, (.bool (decide (((redS x4 x5 x6).getD k 0 : Int) ≠ (outS x4 x5 x6).getD i 0)) : Value))]) ⟨hpZ 9 (by decide), trivial⟩]
      refine XG.yes (t := 109) rfl (vT h11) (XOp.move (.int .i64 ((i : Int))) rfl ?_)
      exact ⟨rfl, rfl, rfl⟩
     refine pC (fun vals R hpZ => ?_) ?_
     ·rw [eS (l := [(9, (.bool (decide (((redS x4 x5 x6).getD k 0 : Int) ≠ (outS x4 x5 x6).getD i 0)) : Value)), (17, x9), (18, (.int .i64 ((i : Int)) : Value))]) ⟨hpZ 9 (by decide), hpZ 17 (by decide), hpZ 18 (by decide), trivial⟩]
      refine XG.yes (t := 109) rfl (vT h11) (XOp.indexS (v := x9) (i := (i : Int)) (n := (outS x4 x5 x6).length) i runUnderlying24 sizeOf2 rfl rfl rfl hr8.slv (by omega) (Nat.mul_one _) ?_)
      exact ⟨rfl, rfl, rfl⟩
     refine pC (fun vals R hpZ => ?_) ?_
     ·rw [eS (l := [(9, (.bool (decide (((redS x4 x5 x6).getD k 0 : Int) ≠ (outS x4 x5 x6).getD i 0)) : Value)), (19, (.pointer (some (elemA x9 (i))) : Value))]) ⟨hpZ 9 (by decide), hpZ 19 (by decide), trivial⟩]
      refine XG.yes (t := 109) rfl (vT h11) (XOp.load1 (v := .int .i64 ((outS x4 x5 x6).getD i 0)) isAgg2 rfl (hr8.rd (by omega)) ?_)
      exact ⟨rfl, rfl, rfl⟩
     exact stepsP.nil
    intro vals hphi
    rw [eS (l := [(9, (.bool (decide (((redS x4 x5 x6).getD k 0 : Int) ≠ (outS x4 x5 x6).getD i 0)) : Value)), (11, (.agg #[x1] : Value)), (12, x3), (16, (.int .i64 ((redS x4 x5 x6).getD k 0) : Value)), (20, (.int .i64 ((outS x4 x5 x6).getD i 0) : Value))]) ⟨(hphi 9 (by decide)), (hphi 11 (by decide)), (hphi 12 (by decide)), (hphi 16 (by decide)), (hphi 20 (by decide)), trivial⟩]
    show XL _ _ _ _ _ _ _ (cellsH b1 [x1, x2] 29 :: L)
    refine XL.yes (t := 109) rfl (vT h11) (XOp.call (args := [.agg #[x1], x3, .int .i64 ((redS x4 x5 x6).getD k 0), .int .i64 ((outS x4 x5 x6).getD i 0)]) call17 rfl (InsideIn_spec (a := (redS x4 x5 x6).getD k 0) (p := (outS x4 x5 x6).getD i 0) hr1 hr3) ?_)
    rintro _ _ _ _ ⟨rfl, rfl, rfl⟩
    refine cX (XOp.pickT (.bool (insideB x4 x6 ((redS x4 x5 x6).getD k 0) ((outS x4 x5 x6).getD i 0))) (vT h11) rfl ?_)
    refine XL.nil ?_
    refine X.cond (t := insideB x4 x6 ((redS x4 x5 x6).getD k 0) ((outS x4 x5 x6).getD i 0)) rfl (fun h12 => ?_) (fun h12 => ?_)
    ·exact absurd h12 (by first | (rw [inS_law (by omega) (by omega) (by assumption)]; simp) | (rw [outS_law (by omega) (by omega) (by assumption)]; simp))
    refine X.skip (X.region ?_)
    refine XL.mv (.int .i64 ((k : Int))) rfl ?_
    refine cX (XOp.addR (a := (k : Int)) (b := 1) (((k + 1 : Nat) : Int)) rfl rfl (by omega) (by omega) ?_)
    refine XL.as (.int .i64 (((k + 1 : Nat) : Int))) rfl ?_
    refine XL.nil ?_
    exact ⟨k + 1, _, FLe.refl _, rF, ⟨rfl, rfl, rfl, rfl, rfl, rfl, rfl, trivial⟩, (sC sR), ⟨rfl, (by (try dsimp only) <;> omega)⟩, (by omega)⟩
   refine X.draw [cellsH b1 [x1, x2] 29] L 21 [[], [], [], [], [], [], [], [], [], [], [], [], [], [], [], [], [], [], [], [], []] [[], [], [0, 1], [2], [], [], [4, 5], [6], [3, 7], [8], [9], [9, 10], [9], [9], [9], [9, 13, 14], [9, 15], [9], [9], [9, 17, 18], [9, 19]] (phiL [fun us v => v = x7, fun us v => v = (.int .i64 ((k : Int)) : Value), fun us v => v = (.pointer (some (elemA x7 (k))) : Value), fun us v => v = (.int .i64 ((redS x4 x5 x6).getD k 0) : Value), fun us v => v = x9, fun us v => v = (.int .i64 ((i : Int)) : Value), fun us v => v = (.pointer (some (elemA x9 (i))) : Value), fun us v => v = (.int .i64 ((outS x4 x5 x6).getD i 0) : Value), fun us v => v = (.bool (decide (((redS x4 x5 x6).getD k 0 : Int) ≠ (outS x4 x5 x6).getD i 0)) : Value), fun us v => v = (.bool (decide (((redS x4 x5 x6).getD k 0 : Int) ≠ (outS x4 x5 x6).getD i 0)) : Value), fun us v => v = undef, fun us v => v = undef, fun us v => v = undef, fun us v => v = undef, fun us v => v = undef, fun us v => v = undef, fun us v => v = undef, fun us v => v = undef, fun us v => v = undef, fun us v => v = undef, fun us v => v = undef]) (ownL [fun us v => [], fun us v => [], fun us v => [], fun us v => [], fun us v => [], fun us v => [], fun us v => [], fun us v => [], fun us v => [], fun us v => [], fun us v => [], fun us v => [], fun us v => [], fun us v => [], fun us v => [], fun us v => [], fun us v => [], fun us v => [], fun us v => [], fun us v => [], fun us v => []]) mixed rfl rfl (by kernel_rfl) ?_ ?_
   ·refine pC (fun vals R hpZ => ?_) ?_
    ·refine XG.op (XOp.move (x7) rfl ?_)
     exact ⟨rfl, rfl, rfl⟩
    refine pC (fun vals R hpZ => ?_) ?_
    ·refine XG.op (XOp.move (.int .i64 ((k : Int))) rfl ?_)
     exact ⟨rfl, rfl, rfl⟩
    refine pC (fun vals R hpZ => ?_) ?_
    ·rw [eS (l := [(0, x7), (1, (.int .i64 ((k : Int)) : Value))]) ⟨hpZ 0 (by decide), hpZ 1 (by decide), trivial⟩]
     refine XG.op (XOp.indexS (v := x7) (i := (k : Int)) (n := (redS x4 x5 x6).length) k runUnderlying24 sizeOf2 rfl rfl rfl hr6.slv (by omega) (Nat.mul_one _) ?_)
     exact ⟨rfl, rfl, rfl⟩
    refine pC (fun vals R hpZ => ?_) ?_
    ·rw [eS (l := [(2, (.pointer (some (elemA x7 (k))) : Value))]) ⟨hpZ 2 (by decide), trivial⟩]
     refine XG.op (XOp.load1 (v := .int .i64 ((redS x4 x5 x6).getD k 0)) isAgg2 rfl (hr6.rd (by omega)) ?_)
     exact ⟨rfl, rfl, rfl⟩
    refine pC (fun vals R hpZ => ?_) ?_
    ·refine XG.op (XOp.move (x9) rfl ?_)
     exact ⟨rfl, rfl, rfl⟩
    refine pC (fun vals R hpZ => ?_) ?_
    ·refine XG.op (XOp.move (.int .i64 ((i : Int))) rfl ?_)
     exact ⟨rfl, rfl, rfl⟩
    refine pC (fun vals R hpZ => ?_) ?_
    ·rw [eS (l := [(4, x9), (5, (.int .i64 ((i : Int)) : Value))]) ⟨hpZ 4 (by decide), hpZ 5 (by decide), trivial⟩]
     refine XG.op (XOp.indexS (v := x9) (i := (i : Int)) (n := (outS x4 x5 x6).length) i runUnderlying24 sizeOf2 rfl rfl rfl hr8.slv (by omega) (Nat.mul_one _) ?_)
     exact ⟨rfl, rfl, rfl⟩
    refine pC (fun vals R hpZ => ?_) ?_
    ·rw [eS (l := [(6, (.pointer (some (elemA x9 (i))) : Value))]) ⟨hpZ 6 (by decide), trivial⟩]
     refine XG.op (XOp.load1 (v := .int .i64 ((outS x4 x5 x6).getD i 0)) isAgg2 rfl (hr8.rd (by omega)) ?_)
     exact ⟨rfl, rfl, rfl⟩
    refine pC (fun vals R hpZ => ?_) ?_
    ·rw [eS (l := [(3, (.int .i64 ((redS x4 x5 x6).getD k 0) : Value)), (7, (.int .i64 ((outS x4 x5 x6).getD i 0) : Value))]) ⟨hpZ 3 (by decide), hpZ 7 (by decide), trivial⟩]
     refine XG.op (XOp.neq (a := (redS x4 x5 x6).getD k 0) (b := (outS x4 x5 x6).getD i 0) rfl rfl ?_)
     exact ⟨rfl, rfl, rfl⟩
    refine pC (fun vals R hpZ => ?_) ?_
    ·rw [eS (l := [(8, (.bool (decide (((redS x4 x5 x6).getD k 0 : Int) ≠ (outS x4 x5 x6).getD i 0)) : Value))]) ⟨hpZ 8 (by decide), trivial⟩]
     refine XG.op (XOp.move (.bool (decide (((redS x4 x5 x6).getD k 0 : Int) ≠ (outS x4 x5 x6).getD i 0))) rfl ?_)
     exact ⟨rfl, rfl, rfl⟩
    refine pC (fun vals R hpZ => ?_) ?_
    ·rw [eS (l := [(9, (.bool (decide (((redS x4 x5 x6).getD k 0 : Int) ≠ (outS x4 x5 x6).getD i 0)) : Value))]) ⟨hpZ 9 (by decide), trivial⟩]
     exact XG.no (t := 109) rfl (vF h11) ⟨rfl, rfl, rfl⟩
    refine pC (fun vals R hpZ => ?_) ?_
    ·rw [eS (l := [(9, (.bool (decide (((redS x4 x5 x6).getD k 0 : Int) ≠ (outS x4 x5 x6).getD i 0)) : Value)), (10, undef)]) ⟨hpZ 9 (by decide), hpZ 10 (by decide), trivial⟩]
     exact XG.no (t := 109) rfl (vF h11) ⟨rfl, rfl, rfl⟩
    refine pC (fun vals R hpZ => ?_) ?_
    ·rw [eS (l := [(9, (.bool (decide (((redS x4 x5 x6).getD k 0 : Int) ≠ (outS x4 x5 x6).getD i 0)) : Value))]) ⟨hpZ 9 (by decide), trivial⟩]
     exact XG.no (t := 109) rfl (vF h11) ⟨rfl, rfl, rfl⟩
    refine pC (fun vals R hpZ => ?_) ?_
    ·rw [eS (l := [(9, (.bool (decide (((redS x4 x5 x6).getD k 0 : Int) ≠ (outS x4 x5 x6).getD i 0)) : Value))]) ⟨hpZ 9 (by decide), trivial⟩]
     exact XG.no (t := 109) rfl (vF h11) ⟨rfl, rfl, rfl⟩
    refine pC (fun vals R hpZ => ?_) ?_
    ·rw [eS (l := [(9, (.bool (decide (((redS x4 x5 x6).getD k 0 : Int) ≠ (outS x4 x5 x6).getD i 0)) : Value))]) ⟨hpZ 9 (by decide), trivial⟩]
     exact XG.no (t := 109) rfl (vF h11) ⟨rfl, rfl, rfl⟩
    refine pC (fun vals R hpZ => ?_) ?_
    ·rw [eS (l := [(9, (.bool (decide (((redS x4 x5 x6).getD k 0 : Int) ≠ (outS x4 x5 x6).getD i 0)) : Value)), (13, undef), (14, undef)]) ⟨hpZ 9 (by decide), hpZ 13 (by decide), hpZ 14 (by decide), trivial⟩]
     exact XG.no (t := 109) rfl (vF h11) ⟨rfl, rfl, rfl⟩
    refine pC (fun vals R hpZ => ?_) ?_
    ·rw [eS (l := [(9, (.bool (decide (((redS x4 x5 x6).getD k 0 : Int) ≠ (outS x4 x5 x6).getD i 0)) : Value)), (15, undef)]) ⟨hpZ 9 (by decide), hpZ 15 (by decide), trivial⟩]
     exact XG.no (t := 109) rfl (vF h11) ⟨rfl, rfl, rfl⟩
    refine pC (fun vals R hpZ => ?_) ?_
    ·rw [eS (l := [(9, (.bool (decide (((redS x4 x5 x6).getD k 0 : Int) ≠ (outS x4 x5 x6).getD i 0)) : Value))]) ⟨hpZ 9 (by decide), trivial⟩]
     exact XG.no (t := 109) rfl (vF h11) ⟨rfl, rfl, rfl⟩
    refine pC (fun vals R hpZ => ?_) ?_
    ·rw [eS (l := [(9, (.bool (decide (((redS x4 x5 x6).getD k 0 : Int) ≠ (outS x4 x5 x6).getD i 0)) : Value))]) ⟨hpZ 9 (by decide), trivial⟩]
     exact XG.no (t := 109) rfl (vF h11) ⟨rfl, rfl, rfl⟩
    refine pC (fun vals R hpZ => ?_) ?_
    ·rw [eS (l := [(9, (.bool (decide (((redS x4 x5 x6).getD k 0 : Int) ≠ (outS x4 x5 x6).getD i 0)) : Value)), (17, undef), (18, undef)]) ⟨hpZ 9 (by decide), hpZ 17 (by decide), hpZ 18 (by decide), trivial⟩]
     exact XG.no (t := 109) rfl (vF h11) ⟨rfl, rfl, rfl⟩
    refine pC (fun vals R hpZ => ?_) ?_
    ·rw [eS (l := [(9, (.bool (decide (((redS x4 x5 x6).getD k 0 : Int) ≠ (outS x4 x5 x6).getD i 0)) : Value)), (19, undef)]) ⟨hpZ 9 (by decide), hpZ 19 (by decide), trivial⟩]
     exact XG.no (t := 109) rfl (vF h11) ⟨rfl, rfl, rfl⟩
    exact stepsP.nil
   intro vals hphi
   rw [eS (l := [(9, (.bool (decide (((redS x4 x5 x6).getD k 0 : Int) ≠ (outS x4 x5 x6).getD i 0)) : Value)), (11, undef), (12, undef), (16, undef), (20, undef)]) ⟨(hphi 9 (by decide)), (hphi 11 (by decide)), (hphi 12 (by decide)), (hphi 16 (by decide)), (hphi 20 (by decide)), trivial⟩]
   show XL _ _ _ _ _ _ _ (cellsH b1 [x1, x2] 29 :: L)
   refine XL.no (t := 109) rfl (vF h11) ?_
   refine cX (XOp.pickF (.bool (false)) (vF h11) rfl ?_)
   refine XL.nil ?_
   refine X.condF rfl ?_
   refine X.skip (X.region ?_)
   refine XL.mv (.int .i64 ((k : Int))) rfl ?_
   refine cX (XOp.addR (a := (k : Int)) (b := 1) (((k + 1 : Nat) : Int)) rfl rfl (by omega) (by omega) ?_)
   refine XL.as (.int .i64 (((k + 1 : Nat) : Int))) rfl ?_
   refine XL.nil ?_
   exact ⟨k + 1, _, FLe.refl _, rF, ⟨rfl, rfl, rfl, rfl, rfl, rfl, rfl, trivial⟩, (sC sR), ⟨rfl, (by (try dsimp only) <;> omega)⟩, (by omega)⟩
  refine X.exit (thenQ_exit (thenQ_exit (blockQ_exit ?_)))
  refine X.region ?_
  refine XL.mv (.int .i64 ((i : Int))) rfl ?_
  refine cX (XOp.addR (a := (i : Int)) (b := 1) (((i + 1 : Nat) : Int)) rfl rfl (by omega) (by omega) ?_)
  refine XL.as (.int .i64 (((i + 1 : Nat) : Int))) rfl ?_
  refine XL.nil ?_
  exact ⟨i + 1, _, FLe.refl _, rF, ⟨rfl, rfl, rfl, rfl, rfl, rfl, trivial⟩, (sC sR), ⟨rfl, (by (try dsimp only) <;> omega)⟩, (by omega)⟩
 refine X.exit (thenQ_exit (thenQ_exit (blockQ_exit ?_)))
 refine X.seq (X.region ?_)
 refine cX (XOp.loadN [x1, x2] isAgg29 sizeOf29 rfl rfl (Rd.ownN [] rfl rfl) ?_)
 refine XL.mv (x3) rfl ?_
 refine cX (XOp.call (args := [.agg #[x1, x2], x3, .int .i64 (2)]) call18 rfl (iPickBy_spec (st := 2) hr1 hr2 hr3) ?_)
 rintro _ _ _ _ ⟨rfl, rfl, rfl⟩
 refine XL.mv (.tuple #[.int .i64 (pickAt x4 x5 x6 2), .int .i64 (pickRule x4 x5 x6 2), .bool (pickB x4 x5 x6 2)]) rfl ?_
 refine cX (XOp.extract (.int .i64 (pickAt x4 x5 x6 2)) rfl rfl ?_)
 refine cX (XOp.extract (.int .i64 (pickRule x4 x5 x6 2)) rfl rfl ?_)
 refine cX (XOp.extract (.bool (pickB x4 x5 x6 2)) rfl rfl ?_)
 refine XL.as (.int .i64 (pickAt x4 x5 x6 2)) rfl ?_
 refine XL.as (.int .i64 (pickRule x4 x5 x6 2)) rfl ?_
 refine XL.as (.bool (pickB x4 x5 x6 2)) rfl ?_
 refine XL.nil (X.seq (X.region ?_))
 have q1 : decide ((((redS x4 x5 x6).length : Nat) : Int) > 0) = decide ((((inS x4 x5 x6).length : Nat) : Int) > 0) := decide_eq_decide.2 (by have := hsm8.1; omega)
 have q2 : decide ((((redS x4 x5 x6).length : Nat) : Int) > 0) = decide ((((outS x4 x5 x6).length : Nat) : Int) > 0) := decide_eq_decide.2 (by have := hsm8.2.1; omega)
 have q3 : pickB x4 x5 x6 2 = decide ((((redS x4 x5 x6).length : Nat) : Int) > 0) := Bool.eq_iff_iff.2 (by rw [decide_eq_true_eq]; exact ⟨fun h => by have := hsm8.2.2.1.1 h; omega, fun h => hsm8.2.2.1.2 (by omega)⟩)
 refine XL.mv (x7) rfl ?_
 refine cX (XOp.lenS (v := x7) (n := (redS x4 x5 x6).length) runUnderlying24 rfl hr6.slv ?_)
 refine cX (XOp.gtr (a := (((redS x4 x5 x6).length : Nat) : Int)) (b := 0) rfl rfl ?_)
 refine XL.mv (x8) rfl ?_
 refine cX (XOp.lenS (v := x8) (n := (inS x4 x5 x6).length) runUnderlying24 rfl hr7.slv ?_)
 refine cX (XOp.gtr (a := (((inS x4 x5 x6).length : Nat) : Int)) (b := 0) rfl rfl ?_)
 refine cX (XOp.eqB (a := decide (((((redS x4 x5 x6).length : Nat) : Int) : Int) > 0)) (b := decide (((((inS x4 x5 x6).length : Nat) : Int) : Int) > 0)) runUnderlying4 rfl rfl ?_)
 refine XL.mv (.bool (decide ((decide (((((redS x4 x5 x6).length : Nat) : Int) : Int) > 0)) = (decide (((((inS x4 x5 x6).length : Nat) : Int) : Int) > 0))))) rfl ?_
 by_cases h13 : (decide (((((redS x4 x5 x6).length : Nat) : Int) : Int) > 0)) = (decide (((((inS x4 x5 x6).length : Nat) : Int) : Int) > 0))
 ·refine XL.yes (t := 137) rfl (vT h13) (XOp.move (x7) rfl ?_)
  refine XL.yes (t := 137) rfl (vT h13) (XOp.lenS (v := x7) (n := (redS x4 x5 x6).length) runUnderlying24 rfl hr6.slv ?_)
  refine XL.yes (t := 137) rfl (vT h13) (XOp.gtr (a := (((redS x4 x5 x6).length : Nat) : Int)) (b := 0) rfl rfl ?_)
  refine XL.yes (t := 137) rfl (vT h13) (XOp.move (x9) rfl ?_)
  refine XL.yes (t := 137) rfl (vT h13) (XOp.lenS (v := x9) (n := (outS x4 x5 x6).length) runUnderlying24 rfl hr8.slv ?_)
  refine XL.yes (t := 137) rfl (vT h13) (XOp.gtr (a := (((outS x4 x5 x6).length : Nat) : Int)) (b := 0) rfl rfl ?_)
  refine XL.yes (t := 137) rfl (vT h13) (XOp.eqB (a := decide (((((redS x4 x5 x6).length : Nat) : Int) : Int) > 0)) (b := decide (((((outS x4 x5 x6).length : Nat) : Int) : Int) > 0)) runUnderlying4 rfl rfl ?_)
  refine cX (XOp.pickT (.bool (decide ((decide (((((redS x4 x5 x6).length : Nat) : Int) : Int) > 0)) = (decide (((((outS x4 x5 x6).length : Nat) : Int) : Int) > 0))))) (vT h13) rfl ?_)
  refine XL.mv (.bool (decide ((decide (((((redS x4 x5 x6).length : Nat) : Int) : Int) > 0)) = (decide (((((outS x4 x5 x6).length : Nat) : Int) : Int) > 0))))) rfl ?_
  by_cases h14 : (decide (((((redS x4 x5 x6).length : Nat) : Int) : Int) > 0)) = (decide (((((outS x4 x5 x6).length : Nat) : Int) : Int) > 0))
  ·refine XL.yes (t := 146) rfl (vT h14) (XOp.move (.bool (pickB x4 x5 x6 2)) rfl ?_)
   refine XL.yes (t := 146) rfl (vT h14) (XOp.move (x7) rfl ?_)
   refine XL.yes (t := 146) rfl (vT h14) (XOp.lenS (v := x7) (n := (redS x4 x5 x6).length) runUnderlying24 rfl hr6.slv ?_)
   refine XL.yes (t := 146) rfl (vT h14) (XOp.gtr (a := (((redS x4 x5 x6).length : Nat) : Int)) (b := 0) rfl rfl ?_)
   refine XL.yes (t := 146) rfl (vT h14) (XOp.eqB (a := pickB x4 x5 x6 2) (b := decide (((((redS x4 x5 x6).length : Nat) : Int) : Int) > 0)) runUnderlying4 rfl rfl ?_)
   refine cX (XOp.pickT (.bool (decide ((pickB x4 x5 x6 2) = (decide (((((redS x4 x5 x6).length : Nat) : Int) : Int) > 0))))) (vT h14) rfl ?_)
   refine XL.mv (.bool (decide ((pickB x4 x5 x6 2) = (decide (((((redS x4 x5 x6).length : Nat) : Int) : Int) > 0))))) rfl ?_
   by_cases h15 : (pickB x4 x5 x6 2) = (decide (((((redS x4 x5 x6).length : Nat) : Int) : Int) > 0))
   ·refine XL.yes (t := 153) rfl (vT h15) (XOp.move (.bool (pickB x4 x5 x6 2)) rfl ?_)
    refine XL.yes (t := 153) rfl (vT h15) (XOp.notB (b := pickB x4 x5 x6 2) rfl ?_)
    refine XL.yes (t := 153) rfl (vT h15) (XOp.move (.bool (!(pickB x4 x5 x6 2))) rfl ?_)
    by_cases h16 : (!(pickB x4 x5 x6 2)) = true
    ·refine XL.no (t := 156) rfl (vB h16) ?_
     refine XL.no (t := 156) rfl (vB h16) ?_
     refine XL.no (t := 156) rfl (vB h16) ?_
     refine XL.no (t := 156) rfl (vB h16) ?_
     refine XL.no (t := 156) rfl (vB h16) ?_
     refine XL.no (t := 156) rfl (vB h16) ?_
     refine XL.noU (t := 162) rfl rfl ?_
     refine XL.noU (t := 162) rfl rfl ?_
     refine XL.noU (t := 162) rfl rfl ?_
     refine XL.noU (t := 162) rfl rfl ?_
     refine XL.noU (t := 162) rfl rfl ?_
     refine XL.no (t := 156) rfl (vB h16) ?_
     refine XL.yes (t := 153) rfl (vT h15) (XOp.pickT (.bool (true)) (vB h16) rfl ?_)
     refine cX (XOp.pickT (.bool (true)) (vT h15) rfl ?_)
     refine XL.as (.bool (true)) rfl ?_
     refine XL.nil ?_
     refine X.ret (retEnd (L' := L) [.bool (true)] (.bool (true)) (.tmp rfl .nil) rfl rF (FLe.trans (FLe.trans (FLe.trans (FLe.trans (FLe.trans (FLe.trans le1 le2) le3) le4) le5) le6) le7) (sD sR) ?_)
     exact ⟨rfl, rfl, rfl⟩
    rw [Bool.not_eq_true] at h16
    have hpk : pickB x4 x5 x6 2 = true := by simpa using h16
    have hop := hsm8.2.1.1 (hsm8.2.2.1.1 hpk)
    have q4 := (hsm8.2.2.2 hpk).1
    refine XL.yes (t := 156) rfl (vB h16) (XOp.move (.int .i64 (pickAt x4 x5 x6 2)) rfl ?_)
    refine XL.yes (t := 156) rfl (vB h16) (XOp.move (x9) rfl ?_)
    refine XL.yes (t := 156) rfl (vB h16) (XOp.indexS (v := x9) (i := 0) (n := (outS x4 x5 x6).length) 0 runUnderlying24 sizeOf2 rfl rfl rfl hr8.slv (by omega) (Nat.mul_one _) ?_)
    refine XL.yes (t := 156) rfl (vB h16) (XOp.load1 (v := .int .i64 ((outS x4 x5 x6).getD 0 0)) isAgg2 rfl (hr8.rd (by omega)) ?_)
    refine XL.yes (t := 156) rfl (vB h16) (XOp.eql (a := pickAt x4 x5 x6 2) (b := (outS x4 x5 x6).getD 0 0) rfl rfl ?_)
    refine XL.yes (t := 156) rfl (vB h16) (XOp.move (.bool (decide ((pickAt x4 x5 x6 2 : Int) = (outS x4 x5 x6).getD 0 0))) rfl ?_)
    by_cases h17 : (pickAt x4 x5 x6 2 : Int) = (outS x4 x5 x6).getD 0 0
    ·refine XL.yes (t := 162) rfl (vT h17) (XOp.loadN [x1, x2] isAgg29 sizeOf29 rfl rfl (Rd.ownN [] rfl rfl) ?_)
     refine XL.yes (t := 162) rfl (vT h17) (XOp.move (x3) rfl ?_)
     refine XL.yes (t := 162) rfl (vT h17) (XOp.move (.int .i64 (pickAt x4 x5 x6 2)) rfl ?_)
     refine XL.yes (t := 162) rfl (vT h17) (XOp.move (.int .i64 (pickRule x4 x5 x6 2)) rfl ?_)
     refine XL.yes (t := 162) rfl (vT h17) (XOp.call (args := [.agg #[x1, x2], x3, .int .i64 (pickAt x4 x5 x6 2), .int .i64 (pickRule x4 x5 x6 2)]) call19 rfl (RedexAt_spec (p := pickAt x4 x5 x6 2) (r := pickRule x4 x5 x6 2) hr1 hr2 hr3) ?_)
     rintro _ _ _ _ ⟨rfl, rfl, rfl⟩
     refine XL.yes (t := 156) rfl (vB h16) (XOp.pickT (.bool (redAtL x4 x5 x6 (pickAt x4 x5 x6 2) (pickRule x4 x5 x6 2))) (vT h17) rfl ?_)
     refine XL.yes (t := 153) rfl (vT h15) (XOp.pickF (.bool (redAtL x4 x5 x6 (pickAt x4 x5 x6 2) (pickRule x4 x5 x6 2))) (vB h16) rfl ?_)
     refine cX (XOp.pickT (.bool (redAtL x4 x5 x6 (pickAt x4 x5 x6 2) (pickRule x4 x5 x6 2))) (vT h15) rfl ?_)
     refine XL.as (.bool (redAtL x4 x5 x6 (pickAt x4 x5 x6 2) (pickRule x4 x5 x6 2))) rfl ?_
     refine XL.nil ?_
     refine X.ret (retEnd (L' := L) [.bool (redAtL x4 x5 x6 (pickAt x4 x5 x6 2) (pickRule x4 x5 x6 2))] (.bool (redAtL x4 x5 x6 (pickAt x4 x5 x6 2) (pickRule x4 x5 x6 2))) (.tmp rfl .nil) rfl rF (FLe.trans (FLe.trans (FLe.trans (FLe.trans (FLe.trans (FLe.trans le1 le2) le3) le4) le5) le6) le7) (sD sR) ?_)
     exact ⟨(vB (by rw [(hsm8.2.2.2 hpk).2])), rfl, rfl⟩
    exact absurd q4 h17
   exact absurd q3 h15
  exact absurd q2 h14
 exact absurd q1 h13
end Go.Proofs.Ytmaaifhmhclhdaa
