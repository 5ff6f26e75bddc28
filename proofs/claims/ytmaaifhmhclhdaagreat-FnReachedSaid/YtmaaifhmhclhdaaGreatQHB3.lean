/-
  Walks, one after the other (part 4).
-/
import Derived.Test.YtmaaifhmhclhdaaGreatQHL1
import Derived.Test.YtmaaifhmhclhdaaGreatQHB2
set_option linter.unusedSimpArgs false
set_option linter.unusedVariables false
namespace Go.Proofs.YtmaaifhmhclhdaaGreat
open Go X M Tryz

/- spec.l7Steps -/
theorem l7Steps_spec {F : FH} {L : List HP} {arv : Value} {ar : List Int} (har : IntsF F arv ar) {rsv : Value} {rs : List (List Int × List Int)} (hrs : PairsF F rsv rs) {tv : Value} {t : List Int} (ht : IntsF F tv t) (hsys : sysOk ar rs = true) (ho : termOk ar t = true) :
    Does prog 125 [.agg #[arv, rsv], tv] F (L) (fun v F' L' => ∃ (a : Value), (a : Value) = v ∧ (StepsF F' a (stepsL ar rs t)) ∧ L = L') := by
 refine Does.of_X func125 rfl rfl rfl ?_
 have hnn := notNil_of_pos ht (by have := termOk_len ho; omega)
 have htl := termOk_len ho
 have hrl := (sysOk_iff.1 hsys).2.1
 have hsig := (sysOk_iff.1 hsys).1
 have hsl := sigOk_spec hsig
 refine X.seq (X.region (cX (XOp.box [arv, rsv] rfl rfl ?_)))
 intro b1
 refine XL.as ((.slice none 0 0)) rfl (XL.nil (X.seq (X.region (cX (XOp.buildSlice (s := 3) [] [.int .i64 (0), .int .i64 (0), (.slice none 0 0)] [] runUnderlying32 sizeOf68 zeroValue68 rfl (by decide) rfl CellsAre.nil rfl ?_)))))
 intro v1 hv1
 refine XL.as (v1) rfl (XL.nil (X.seq (X.seq (X.region (XL.as (.int .i64 (0)) rfl (XL.nil (X.block (X.loop (α := Nat × Value × List StepT × List Value × Nat × FH) (fun xQ => [(1, tv), (2, ptr b1 0), (5, xQ.2.1), (6, .int .i64 (((xQ.1 : Nat) : Int)))]) (fun xQ => slH 68 3 xQ.2.1 xQ.2.2.2.2.1 xQ.2.2.2.1 :: cellsH b1 [arv, rsv] 29 :: L) (fun xQ F' => xQ.2.2.2.2.2 = F' ∧ F ≤ xQ.2.2.2.2.2 ∧ (xQ.1 ≤ t.length) ∧ (IsSl xQ.2.1) ∧ (StepsC xQ.2.2.2.2.2 xQ.2.2.2.1 xQ.2.2.1) ∧ (xQ.2.2.2.2.1 = xQ.2.2.1.length) ∧ (xQ.2.2.1 = stepsTo ar rs t xQ.1)) (fun xQ => t.length - xQ.1) (0, v1, [], [], 0, F) ⟨rfl, rfl, rfl, rfl, trivial⟩ (sC (sC sR)) ⟨rfl, FLe.refl _, (by (try dsimp only) <;> omega), ((isSl_lit hv1)), (CO.nil), (rfl), (rfl)⟩ ?_))))))))
 rintro ⟨k, sv, ss, cs, m, G1⟩ rE _ _ ⟨rfl, leG, hk, hsv, hC, hm, hss⟩
 show X _ _ _ _ (envs [(1, tv), (2, ptr b1 0), (5, sv), (6, .int .i64 ((k : Int)))] rE) _ (slH 68 3 sv m cs :: cellsH b1 [arv, rsv] 29 :: L)
 replace leG : F ≤ G1 := leG
 dsimp only at hk hsv hC hm hss
 have hsl1 := stepsTo_len (ar := ar) (t := t) (rs := rs) hrl k
 have hss0 := hss
 have leG1 := leG
 replace har := har.mono leG1
 replace hrs := hrs.mono leG1
 replace ht := ht.mono leG1
 refine X.seq (X.seq (X.region (XL.mv (.int .i64 ((k : Int))) rfl (XL.mv (tv) rfl (cX (XOp.lenS runUnderlying24 rfl ht.slv (cX (XOp.lss rfl rfl (XL.nil ?_)))))))))
 refine X.condD (p := (k : Int) < (t.length : Int)) rfl (fun h1 => ?_) (fun h1 => ?_)
 ·refine X.skip (X.seq (X.block (X.seq (X.region (XL.as (.int .i64 (0)) rfl (XL.nil (X.block (X.loop (α := Nat × Value × List StepT × List Value × Nat × FH) (fun xQ => [(1, tv), (2, ptr b1 0), (5, xQ.2.1), (6, .int .i64 ((k : Int))), (7, .int .i64 (((xQ.1 : Nat) : Int)))]) (fun xQ => slH 68 3 xQ.2.1 xQ.2.2.2.2.1 xQ.2.2.2.1 :: cellsH b1 [arv, rsv] 29 :: L) (fun xQ F' => xQ.2.2.2.2.2 = F' ∧ G1 ≤ xQ.2.2.2.2.2 ∧ (xQ.1 ≤ rs.length) ∧ (IsSl xQ.2.1) ∧ (StepsC xQ.2.2.2.2.2 xQ.2.2.2.1 xQ.2.2.1) ∧ (xQ.2.2.2.2.1 = xQ.2.2.1.length) ∧ (xQ.2.2.1 = stepsTo ar rs t k ++ stepsRow ar rs t k xQ.1)) (fun xQ => rs.length - xQ.1) (0, sv, ss, cs, m, G1) ⟨rfl, rfl, rfl, rfl, rfl, trivial⟩ (sC (sC sR)) ⟨rfl, FLe.refl _, (by (try dsimp only) <;> omega), (hsv), (hC), (hm), (by (try dsimp only); rw [hss0]; simp [stepsRow])⟩ ?_))))))))
  rintro ⟨r, sv, ss, cs, m, G2⟩ rE _ _ ⟨rfl, leG, hr, hsvi, hCi, hmi, hssi⟩
  show X _ _ _ _ (envs [(1, tv), (2, ptr b1 0), (5, sv), (6, .int .i64 ((k : Int))), (7, .int .i64 ((r : Int)))] rE) _ (slH 68 3 sv m cs :: cellsH b1 [arv, rsv] 29 :: L)
  replace leG : G1 ≤ G2 := leG
  dsimp only at hr hsvi hCi hmi hssi
  have hsl2 := stepsRow_len (ar := ar) (rs := rs) (t := t) (p := k) r
  have hssl : ss.length ≤ 1000 := by rw [hssi, List.length_append]; omega
  have leG2 := leG
  replace har := har.mono leG2
  replace hrs := hrs.mono leG2
  replace ht := ht.mono leG2
  replace hC := hC.mono leG2
  refine X.seq (X.seq (X.region (XL.mv (.int .i64 ((r : Int))) rfl (cX (XOp.fieldP (1) runUnderlying29 rfl sizeOf27 (by decide) rfl rfl (cX (XOp.load1 isAgg27 rfl (Rd.own [_] rfl rfl) (cX (XOp.lenS runUnderlying27 rfl hrs.slv (cX (XOp.lss rfl rfl (XL.nil ?_))))))))))))
  refine X.condD (p := (r : Int) < (rs.length : Int)) rfl (fun h2 => ?_) (fun h2 => ?_)
  ·refine X.skip (X.seq (X.block (X.seq (X.region (cX (XOp.loadN [arv, rsv] isAgg29 sizeOf29 rfl rfl (Rd.ownN [_] rfl rfl) (XL.mv (tv) rfl (XL.mv (.int .i64 ((k : Int))) rfl (XL.mv (.int .i64 ((r : Int))) rfl (cX (XOp.call (args := [.agg #[arv, rsv], tv, .int .i64 (k : Int), .int .i64 (r : Int)]) call54 rfl (l7Step_spec (p := k) (r := r) har hrs ht (hsys := (by first | assumption | rfl | omega | simp)) (ho := (by first | assumption | rfl | omega | simp)) (hp := (by first | assumption | rfl | omega | simp)) (hr := (by first | assumption | rfl | omega | simp))) ?_)))))))))))
   rintro _ F1 _ le1 ⟨x1, rfl, hr1, rfl⟩
   replace hC := hC.mono le1
   replace hCi := hCi.mono le1
   refine XL.mv (.tuple #[x1, .bool ((stepL ar rs t k r).isSome)]) rfl (cX (XOp.extract (x1) rfl rfl (cX (XOp.extract (.bool ((stepL ar rs t k r).isSome)) rfl rfl (XL.as (x1) rfl (XL.as (.bool ((stepL ar rs t k r).isSome)) rfl (XL.nil (X.seq (X.region (XL.mv (.bool ((stepL ar rs t k r).isSome)) rfl (XL.nil ?_)))))))))))
   refine X.cond (t := (stepL ar rs t k r).isSome) rfl (fun h3 => ?_) (fun h3 => ?_)
   ·have hone : stepOne ar rs t k r = [((k : Int), (r : Int), (stepL ar rs t k r).getD [])] := (one_some h3).1
    refine X.region (XL.mv (sv) rfl (XL.mv (.int .i64 ((k : Int))) rfl (XL.mv (.int .i64 ((r : Int))) rfl (XL.mv (x1) rfl (cX (XOp.build [.int .i64 ((k : Int)), .int .i64 ((r : Int)), x1] [.int .i64 (0), .int .i64 (0), (.slice none 0 0)] [(0, 1), (1, 1), (2, 1)] [(0, [.int .i64 ((k : Int))]), (1, [.int .i64 ((r : Int))]), (2, [x1])] runUnderlying68 zeroValue68 rfl (.cons rfl sizeOf2 (.cons rfl sizeOf2 (.cons rfl sizeOf24 PlacesAre.nil))) rfl (.cons rfl (.cons rfl (.cons (cells_one (IntsF.isSl hr1)) CellsAre.nil))) (cX (XOp.buildSlice (s := 3) [.int .i64 ((k : Int)), .int .i64 ((r : Int)), x1] [.int .i64 (0), .int .i64 (0), (.slice none 0 0)] [(0, [.int .i64 ((k : Int)), .int .i64 ((r : Int)), x1])] runUnderlying32 sizeOf68 zeroValue68 rfl (by decide) rfl (.cons rfl CellsAre.nil) rfl ?_))))))))
    intro v2 hv2
    refine cX (XOp.append (m := 1) (bytes := 40) (cs := cs) [_] _ [.int .i64 ((k : Int)), .int .i64 ((r : Int)), x1] runUnderlying32 typeInfo68 rfl rfl rfl rfl rfl rfl rfl (SlV.own [] rfl) rfl (Rd.lit [] rfl) (ones_cons rfl (ones_cons rfl (ones_cons (one_sl (IntsF.isSl hr1)) ones_nil))) (by (try simp only [List.length_append, List.length_nil, List.length_cons, List.length_singleton]); omega) (by (try simp only [List.length_append, List.length_nil, List.length_cons, List.length_singleton]); omega) ?_)
    intro v3 hs1 hn1 hm1
    have hc1 := StepsC.snoc hCi (i := (k : Int)) (j := (r : Int)) hr1
    refine XL.as (v3) rfl (XL.nil (X.region (XL.mv (.int .i64 ((r : Int))) rfl (cX (XOp.addR (((r + 1 : Nat) : Int)) rfl rfl (by omega) (by omega) (XL.as (.int .i64 (((r + 1 : Nat) : Int))) rfl (XL.nil ?_)))))))
    exact ⟨(r + 1, v3, ss ++ [((k : Int), (r : Int), (stepL ar rs t k r).getD [])], cs ++ [.int .i64 ((k : Int)), .int .i64 ((r : Int)), x1], (m) + 1, F1), _, (FLe.trans leG2 le1), rF, ⟨rfl, rfl, rfl, rfl, rfl, trivial⟩, (sD (sC (sC sR))), ⟨rfl, (FLe.trans leG2 le1), (by (try dsimp only) <;> omega), (hs1), (hc1), (by (try dsimp only); (try rw [List.length_append, List.length_singleton]); omega), (by (try dsimp only); rw [hssi, stepsRow_succ, hone]; simp)⟩, (by omega)⟩
   have hone : stepOne ar rs t k r = [] := stepOne_no h3
   refine X.skip (X.region (XL.mv (.int .i64 ((r : Int))) rfl (cX (XOp.addR (((r + 1 : Nat) : Int)) rfl rfl (by omega) (by omega) (XL.as (.int .i64 (((r + 1 : Nat) : Int))) rfl (XL.nil ?_))))))
   exact ⟨(r + 1, sv, ss, cs, m, F1), _, (FLe.trans leG2 le1), rF, ⟨rfl, rfl, rfl, rfl, rfl, trivial⟩, (sC (sC sR)), ⟨rfl, (FLe.trans leG2 le1), (by (try dsimp only) <;> omega), (hsvi), (hCi), (by (try dsimp only); (try rw [List.length_append, List.length_singleton]); omega), (by (try dsimp only); rw [hssi, stepsRow_succ, hone]; simp)⟩, (by omega)⟩
  refine X.exit (thenQ_exit (thenQ_exit (blockQ_exit (X.region (XL.mv (.int .i64 ((k : Int))) rfl (cX (XOp.addR (((k + 1 : Nat) : Int)) rfl rfl (by omega) (by omega) (XL.as (.int .i64 (((k + 1 : Nat) : Int))) rfl (XL.nil ?_)))))))))
  exact ⟨(k + 1, sv, ss, cs, m, G2), _, (FLe.trans leG1 leG2), rF, ⟨rfl, rfl, rfl, rfl, trivial⟩, (sC (sC sR)), ⟨rfl, (FLe.trans leG1 leG2), (by (try dsimp only) <;> omega), (hsvi), (hCi), (hmi), (by (try dsimp only); rw [hssi, stepsTo_succ, show r = rs.length from by omega])⟩, (by omega)⟩
 refine X.exit (thenQ_exit (thenQ_exit (blockQ_exit (X.seq (X.region (XL.mv (sv) rfl (XL.as (sv) rfl (XL.nil (X.freezeF [] _ _ rfl (fun F2 le2 hz1 => ?_))))))))))
 replace hC := hC.mono le2
 have hf1 : StepsF F2 sv ss := CO.fz hC (by first | rfl | omega | (rw [List.length_set]; omega) | (simp; done)) hz1.fz
 refine X.ret (retEnd (L' := L) [sv] (sv) (.tmp rfl .nil) rfl (FLe.trans leG1 le2) rF (sD sR) ?_)
 have e1 : stepsL ar rs t = ss := by rw [hss, show k = t.length from by omega]; rfl
 rw [e1]
 exact ⟨_, rfl, hf1, rfl⟩

/- spec.l1TermPlace -/
theorem l1TermPlace_spec {F : FH} {L : List HP} {tsv : Value} {ts : List (List Int)} (hts : RowsF F tsv ts) {xv : Value} {x : List Int} (hx : IntsF F xv x) (hlt : ts.length ≤ 4000000) (htb : ∀ i, i < ts.length → (ts.getD i []).length ≤ 4000000) (hlx : x.length ≤ 4000000) :
    Does prog 126 [tsv, xv] F (L) (fun v F' L' => (.int .i64 (badG (fun y => !decide (y = x)) ts) : Value) = v ∧ F = F' ∧ L = L') := by
 refine Does.of_X func126 rfl rfl rfl (X.seq (X.region (XL.as (.int .i64 (0)) rfl (XL.nil (X.seq (X.seq (X.region (XL.as (.int .i64 (0)) rfl (XL.nil (X.block (X.loop (α := Nat) (fun k => [(0, tsv), (1, xv), (5, .int .i64 ((k : Int)))]) (fun k => L) (fun k F' => F = F' ∧ (k ≤ ts.length) ∧ (∀ i, i < k → (fun y => !decide (y = x)) (ts.getD i []) = true)) (fun k => ts.length - k) 0 ⟨rfl, rfl, rfl, trivial⟩ sR ⟨rfl, (by (try dsimp only) <;> omega), (fun i hi => absurd hi (by omega))⟩ ?_)))))))))))
 rintro k rE _ _ ⟨rfl, hk, hall⟩
 show X _ _ _ _ (envs [(0, tsv), (1, xv), (5, .int .i64 ((k : Int)))] rE) _ (L)
 have htbk := htb k
 refine X.seq (X.seq (X.region (XL.mv (.int .i64 ((k : Int))) rfl (XL.mv (tsv) rfl (cX (XOp.lenS runUnderlying47 rfl hts.slv (cX (XOp.lss rfl rfl (XL.nil ?_)))))))))
 refine X.condD (p := (k : Int) < (ts.length : Int)) rfl (fun h1 => ?_) (fun h1 => ?_)
 ·refine X.skip (X.seq (X.block (X.seq (X.region (XL.mv (tsv) rfl (XL.mv (.int .i64 ((k : Int))) rfl (cX (XOp.indexS k runUnderlying47 sizeOf24 rfl rfl rfl hts.slv (by omega) (Nat.mul_one _) ?_))))))))
  obtain ⟨a1, ha1, hr1⟩ := hts.rd (i := k) (by omega)
  refine cX (XOp.load1 isAgg24 rfl (hr1 _) (XL.mv (xv) rfl (cX (XOp.call (args := [a1, xv]) call34 rfl (SameTerm_spec ha1 hx (hbd := (by first | assumption | rfl | omega | (left; simp; done) | (right; simp; done)))) ?_))))
  rintro _ _ _ _ ⟨rfl, rfl, rfl⟩
  refine XL.nil ?_
  refine X.condD (p := ((ts.getD k [])) = x) rfl (fun h2 => ?_) (fun h2 => ?_)
  ·refine X.seq (X.region (XL.mv (.int .i64 ((k : Int))) rfl (XL.as (.int .i64 ((k : Int))) rfl (XL.nil (X.ret (blockQ_ret (thenQ_ret (thenQ_ret (blockQ_ret (thenQ_ret (retEnd (L' := L) [.int .i64 ((k : Int))] (.int .i64 ((k : Int))) (.tmp rfl .nil) rfl rF rF sR ?_)))))))))))
   exact ⟨(vI (badG_at [] (by omega) (by simp_all) hall)), rfl, rfl⟩
  refine X.skip (X.region (XL.mv (.int .i64 ((k : Int))) rfl (cX (XOp.addR (((k + 1 : Nat) : Int)) rfl rfl (by omega) (by omega) (XL.as (.int .i64 (((k + 1 : Nat) : Int))) rfl (XL.nil ?_))))))
  exact ⟨k + 1, _, FLe.refl _, rF, ⟨rfl, rfl, rfl, trivial⟩, sR, ⟨rfl, (by (try dsimp only) <;> omega), (fun i hi => (Nat.lt_or_ge i k).elim (fun h => hall i h) (fun h => by obtain rfl : i = k := (by omega); simp_all))⟩, (by omega)⟩
 refine X.exit (thenQ_exit (thenQ_exit (blockQ_exit (X.seq (X.region (XL.as (.int .i64 (-1)) rfl (XL.nil (X.ret (retEnd (L' := L) [.int .i64 (-1)] (.int .i64 (-1)) (.tmp rfl .nil) rfl rF rF sR ?_)))))))))
 exact ⟨(vI (badG_none [] (fun i hi => hall i (by omega)))), rfl, rfl⟩

/- spec.l9Right -/
theorem l9Right_spec {F : FH} {L : List HP} {arv : Value} {ar : List Int} (har : IntsF F arv ar) {rsv : Value} {rs : List (List Int × List Int)} (hrs : PairsF F rsv rs) {tv : Value} {t : List Int} (ht : IntsF F tv t) {n : Int} (hla : ar.length ≤ 4000000) (hlr : rs.length ≤ 4000000) (hrb : ∀ i, i < rs.length → (rs.getD i ([], [])).1.length ≤ 4000000 ∧ (rs.getD i ([], [])).2.length ≤ 4000000) (hlt : t.length ≤ 4000000) :
    Does prog 67 [.agg #[arv, rsv], tv, .int .i64 (n)] F (L) (fun v F' L' => (.bool (reachOkL ar rs n [t]) : Value) = v ∧ F = F' ∧ L = L') := by
 refine Does.of_X func67 rfl rfl rfl (X.seq (X.region (cX (XOp.box [arv, rsv] rfl rfl ?_))))
 intro b1
 refine XL.as (.bool (false)) rfl (XL.nil (X.seq (X.region (cX (XOp.loadN [arv, rsv] isAgg29 sizeOf29 rfl rfl (Rd.ownN [] rfl rfl) (XL.mv (tv) rfl (cX (XOp.call (args := [.agg #[arv, rsv], tv]) call76 rfl (l7Right_spec har hrs ht (hla := (by first | assumption | rfl | omega | simp)) (hlr := (by first | assumption | rfl | omega | simp)) (hrb := (by first | assumption | rfl | omega | simp)) (hlt := (by first | assumption | rfl | omega | simp))) ?_))))))))
 rintro _ _ _ _ ⟨rfl, rfl, rfl⟩
 refine XL.mv (.bool (rightB ar rs t)) rfl ?_
 by_cases h1 : (rightB ar rs t) = true
 ·refine XL.yes (t := 10) rfl (vB h1) (XOp.move (.int .i64 (n)) rfl (XL.yes (t := 10) rfl (vB h1) (XOp.call (args := [.int .i64 (n), .int .i64 (0), .int .i64 (20)]) call51 rfl (l1In_spec (n := n) (a := 0) (b := 20)) ?_)))
  rintro _ _ _ _ ⟨rfl, rfl, rfl⟩
  refine cX (XOp.pickT (.bool (decide (0 ≤ n ∧ n ≤ 20))) (vB h1) rfl (XL.as (.bool (decide (0 ≤ n ∧ n ≤ 20))) rfl (XL.nil (X.ret (retEnd (L' := L) [.bool (decide (0 ≤ n ∧ n ≤ 20))] (.bool (decide (0 ≤ n ∧ n ≤ 20))) (.tmp rfl .nil) rfl rF rF (sD sR) ?_)))))
  exact ⟨(vB (by rw [reachOk_right]; simp_all)), rfl, rfl⟩
 rw [Bool.not_eq_true] at h1
 refine XL.no (t := 10) rfl (vB h1) (XL.no (t := 10) rfl (vB h1) (cX (XOp.pickF (.bool (false)) (vB h1) rfl (XL.as (.bool (false)) rfl (XL.nil (X.ret (retEnd (L' := L) [.bool (false)] (.bool (false)) (.tmp rfl .nil) rfl rF rF (sD sR) ?_)))))))
 exact ⟨(vB (by rw [reachOk_right]; simp_all)), rfl, rfl⟩

/- spec.l9Find -/
set_option maxHeartbeats 1000000 in
set_option maxRecDepth 20000 in
theorem l9Find_spec {F : FH} {L : List HP} {arv : Value} {ar : List Int} (har : IntsF F arv ar) {rsv : Value} {rs : List (List Int × List Int)} (hrs : PairsF F rsv rs) {tv : Value} {t : List Int} (ht : IntsF F tv t) {n : Int} (hsys : sysOk ar rs = true) (ho : termOk ar t = true) (hn20 : 0 ≤ n ∧ n ≤ 20) :
    Does prog 68 [.agg #[arv, rsv], tv, .int .i64 (n)] F (L) (fun v F' L' => ∃ (x1 : Value), ∃ (x2 : Value), ∃ (x3 : Value), ∃ (x4 : Value), (.agg #[x1, x2, x3, x4, .bool ((reachL ar rs t n).2)] : Value) = v ∧ (RowsF F' x1 (terms (reachL ar rs t n).1)) ∧ (IntsF F' x2 (froms (reachL ar rs t n).1)) ∧ (StepsF F' x3 (bys (reachL ar rs t n).1)) ∧ (IntsF F' x4 (deeps (reachL ar rs t n).1)) ∧ L = L') := by
 refine Does.of_X func68 rfl rfl rfl ?_
 have hnn := notNil_of_pos ht (by have := termOk_len ho; omega)
 have htl := termOk_len ho
 have hrl := (sysOk_iff.1 hsys).2.1
 have hsig := (sysOk_iff.1 hsys).1
 have hsl := sigOk_spec hsig
 refine X.seq (X.region (cX (XOp.box [arv, rsv] rfl rfl ?_)))
 intro b1
 refine cX (XOp.alloc [(.slice none 0 0), (.slice none 0 0), (.slice none 0 0), (.slice none 0 0), .bool (false)] zeroValue106 rfl ?_)
 intro b2
 refine XL.nil (X.seq (X.region (XL.mv (tv) rfl (cX (XOp.frzF <| XOp.call (args := [tv]) call52 rfl (l1Copy_spec ht (hlt := (by first | assumption | rfl | omega | simp))) ?_)))))
 rintro v1 _ _ _ ⟨rfl, hs1, rfl⟩
 refine ⟨_, _, rfl, fun F1 le1 hz1 => ?_⟩
 replace har := har.mono le1
 replace hrs := hrs.mono le1
 have hf1 : IntsF F1 v1 ((t)) := intsH.fz (xs := (t)) hz1.fz
 refine cX (XOp.buildSlice (s := 1) [v1] [(.slice none 0 0)] [(0, [v1])] runUnderlying47 sizeOf24 zeroValue24 rfl (by decide) rfl (.cons (cells_one (IntsF.isSl hf1)) CellsAre.nil) rfl ?_)
 intro v2 hv1
 refine cX (XOp.buildSlice (s := 1) [.int .i64 (-1)] [.int .i64 (0)] [(0, [.int .i64 (-1)])] runUnderlying24 sizeOf2 zeroValue2 rfl (by decide) rfl (.cons rfl CellsAre.nil) rfl ?_)
 intro v3 hv2
 refine cX (XOp.build [.int .i64 (0), .int .i64 (0), (.slice none 0 0)] [.int .i64 (0), .int .i64 (0), (.slice none 0 0)] [(0, 1), (1, 1), (2, 1)] [] runUnderlying68 zeroValue68 rfl (.cons rfl sizeOf2 (.cons rfl sizeOf2 (.cons rfl sizeOf24 PlacesAre.nil))) rfl CellsAre.nil (cX (XOp.buildSlice (s := 3) [.int .i64 (0), .int .i64 (0), (.slice none 0 0)] [.int .i64 (0), .int .i64 (0), (.slice none 0 0)] [(0, [.int .i64 (0), .int .i64 (0), (.slice none 0 0)])] runUnderlying32 sizeOf68 zeroValue68 rfl (by decide) rfl (.cons rfl CellsAre.nil) rfl ?_)))
 intro v4 hv3
 refine cX (XOp.buildSlice (s := 1) [.int .i64 (0)] [.int .i64 (0)] [(0, [.int .i64 (0)])] runUnderlying24 sizeOf2 zeroValue2 rfl (by decide) rfl (.cons rfl CellsAre.nil) rfl ?_)
 intro v5 hv4
 refine cX (XOp.build [v2, v3, v4, v5, .bool (true)] [(.slice none 0 0), (.slice none 0 0), (.slice none 0 0), (.slice none 0 0), .bool (false)] [(0, 1), (1, 1), (2, 1), (3, 1), (4, 1)] [(0, [v2]), (1, [v3]), (2, [v4]), (3, [v5]), (4, [.bool (true)])] runUnderlying106 zeroValue106 rfl (.cons rfl sizeOf47 (.cons rfl sizeOf24 (.cons rfl sizeOf32 (.cons rfl sizeOf24 (.cons rfl sizeOf4 PlacesAre.nil))))) rfl (.cons (cells_one (isSl_lit hv1)) (.cons (cells_one (isSl_lit hv2)) (.cons (cells_one (isSl_lit hv3)) (.cons (cells_one (isSl_lit hv4)) (.cons rfl CellsAre.nil))))) (cX (XOp.alloc [(.slice none 0 0), (.slice none 0 0), (.slice none 0 0), (.slice none 0 0), .bool (false)] zeroValue106 rfl ?_)))
 intro b3
 refine cX (XOp.storeN [] _ [v2, v3, v4, v5, .bool (true)] sizeOf106 rfl rfl rfl (ones_cons (one_sl (isSl_lit hv1)) (ones_cons (one_sl (isSl_lit hv2)) (ones_cons (one_sl (isSl_lit hv3)) (ones_cons (one_sl (isSl_lit hv4)) (ones_cons rfl ones_nil))))) rfl rfl rfl (XL.nil (X.seq (X.seq (X.region (XL.as (.int .i64 (0)) rfl (XL.nil (X.block ?_))))))))
 have hc1 : RowsC F1 [v1] ([(t)] : List (List Int)) := (RowsC.snoc (CO.nil : RowsC F1 [] []) hf1)
 show X _ _ _ _ _ _ (cellsH b3 [v2, v3, v4, v5, .bool (true)] 106 :: slH 2 1 v5 1 [.int .i64 (0)] :: slH 68 3 v4 1 [.int .i64 (0), .int .i64 (0), (.slice none 0 0)] :: intsH 2 v3 ([-1] : List Int) :: slH 24 1 v2 1 ([v1]) :: cellsH b2 [(.slice none 0 0), (.slice none 0 0), (.slice none 0 0), (.slice none 0 0), .bool (false)] 106 :: cellsH b1 [arv, rsv] 29 :: L)
 have hc2 : StepsC F1 [.int .i64 (0), .int .i64 (0), (.slice none 0 0)] ([(0, 0, [])] : List StepT) := (StepsC.snoc (CO.nil : StepsC F1 [] []) (i := 0) (j := 0) IntsF.nilV)
 show X _ _ _ _ _ _ (cellsH b3 [v2, v3, v4, v5, .bool (true)] 106 :: intsH 2 v5 ([0] : List Int) :: slH 68 3 v4 1 ([.int .i64 (0), .int .i64 (0), (.slice none 0 0)]) :: intsH 2 v3 ([-1] : List Int) :: slH 24 1 v2 1 ([v1]) :: cellsH b2 [(.slice none 0 0), (.slice none 0 0), (.slice none 0 0), (.slice none 0 0), .bool (false)] 106 :: cellsH b1 [arv, rsv] 29 :: L)
 refine X.loop (α := Nat × List FoundT × Value × RowL × List Value × Nat × Value × List Int × Value × List StepT × List Value × Nat × Value × List Int × FH) (fun xQ => [(2, .int .i64 (n)), (3, ptr b1 0), (6, ptr b2 0), (7, ptr b3 0), (8, .int .i64 (((xQ.1 : Nat) : Int)))]) (fun xQ => slH 24 1 xQ.2.2.1 xQ.2.2.2.2.2.1 xQ.2.2.2.2.1 :: intsH 2 xQ.2.2.2.2.2.2.1 xQ.2.2.2.2.2.2.2.1 :: slH 68 3 xQ.2.2.2.2.2.2.2.2.1 xQ.2.2.2.2.2.2.2.2.2.2.2.1 xQ.2.2.2.2.2.2.2.2.2.2.1 :: intsH 2 xQ.2.2.2.2.2.2.2.2.2.2.2.2.1 xQ.2.2.2.2.2.2.2.2.2.2.2.2.2.1 :: cellsH b3 [xQ.2.2.1, xQ.2.2.2.2.2.2.1, xQ.2.2.2.2.2.2.2.2.1, xQ.2.2.2.2.2.2.2.2.2.2.2.2.1, .bool (true)] 106 :: cellsH b2 [(.slice none 0 0), (.slice none 0 0), (.slice none 0 0), (.slice none 0 0), .bool (false)] 106 :: cellsH b1 [arv, rsv] 29 :: L) (fun xQ F' => xQ.2.2.2.2.2.2.2.2.2.2.2.2.2.2 = F' ∧ F1 ≤ xQ.2.2.2.2.2.2.2.2.2.2.2.2.2.2 ∧ (IsSl xQ.2.2.1) ∧ (IsSl xQ.2.2.2.2.2.2.1) ∧ (IsSl xQ.2.2.2.2.2.2.2.2.1) ∧ (IsSl xQ.2.2.2.2.2.2.2.2.2.2.2.2.1) ∧ (RowsC xQ.2.2.2.2.2.2.2.2.2.2.2.2.2.2 xQ.2.2.2.2.1 xQ.2.2.2.1) ∧ (StepsC xQ.2.2.2.2.2.2.2.2.2.2.2.2.2.2 xQ.2.2.2.2.2.2.2.2.2.2.1 xQ.2.2.2.2.2.2.2.2.2.1) ∧ (xQ.2.2.2.2.2.1 = xQ.2.2.2.1.length) ∧ (xQ.2.2.2.2.2.2.2.2.2.2.2.1 = xQ.2.2.2.2.2.2.2.2.2.1.length) ∧ (xQ.2.2.2.1 = terms xQ.2.1) ∧ (xQ.2.2.2.2.2.2.2.1 = froms xQ.2.1) ∧ (xQ.2.2.2.2.2.2.2.2.2.1 = bys xQ.2.1) ∧ (xQ.2.2.2.2.2.2.2.2.2.2.2.2.2.1 = deeps xQ.2.1) ∧ (xQ.2.1.length ≤ 60) ∧ (AllOk ar xQ.2.1) ∧ (DeepOk n xQ.2.1) ∧ (xQ.1 ≤ xQ.2.1.length) ∧ (reachL ar rs t n = reachGo ar rs n (60 - xQ.1) xQ.1 xQ.2.1)) (fun xQ => 60 - xQ.1) (0, start0 t, v2, ([(t)] : List (List Int)), [v1], 1, v3, [-1], v4, ([(0, 0, [])] : List StepT), [.int .i64 (0), .int .i64 (0), (.slice none 0 0)], 1, v5, [0], F1) ⟨rfl, rfl, rfl, rfl, rfl, trivial⟩ (Sub.trans (Sub.front (A := [_, _, _, _, _, _])) (Sub.trans (Sub.front (A := [_, _, _, _, _, _])) (Sub.trans (Sub.front (A := [_, _])) (Sub.trans (Sub.front (A := [_, _, _])) (Sub.trans (Sub.front (A := [_, _, _, _])) (Sub.trans (Sub.front (A := [_, _, _, _, _])) (Sub.trans (Sub.front (A := [_, _, _, _, _, _])) (sC (sC (sC (sC (sC (sC (sC sR)))))))))))))) ⟨rfl, FLe.refl _, ((isSl_lit hv1)), ((isSl_lit hv2)), ((isSl_lit hv3)), ((isSl_lit hv4)), (hc1), (hc2), (rfl), (rfl), (rfl), (rfl), (rfl), (rfl), (by simp [start0]), (AllOk.start ho), (DeepOk.start hn20.1), (by simp), (rfl)⟩ ?_
 rintro ⟨k, os, av, ts, acs, an, bv, fs, cv, bs, ccs, cn, dv, ds, G1⟩ rE _ _ ⟨rfl, leG, hav, hbv, hcv, hdv, hA, hB, han, hcn, hts, hfs, hbs, hds, hl, hok, hdo, hk, hgo⟩
 show X _ _ _ _ (envs [(2, .int .i64 (n)), (3, ptr b1 0), (6, ptr b2 0), (7, ptr b3 0), (8, .int .i64 ((k : Int)))] rE) _ (slH 24 1 av an acs :: intsH 2 bv fs :: slH 68 3 cv cn ccs :: intsH 2 dv ds :: cellsH b3 [av, bv, cv, dv, .bool (true)] 106 :: cellsH b2 [(.slice none 0 0), (.slice none 0 0), (.slice none 0 0), (.slice none 0 0), .bool (false)] 106 :: cellsH b1 [arv, rsv] 29 :: L)
 replace leG : F1 ≤ G1 := leG
 dsimp only at hav hbv hcv hdv hA hB han hcn hts hfs hbs hds hl hok hdo hk hgo
 have htl9 : ts.length = os.length := by rw [hts]; exact terms_len
 have hfl9 : fs.length = os.length := by rw [hfs]; exact froms_len
 have hbl9 : bs.length = os.length := by rw [hbs]; exact bys_len
 have hdl9 : ds.length = os.length := by rw [hds]; exact deeps_len
 have hdk := fun (h : k < os.length) => hok k h
 have hdl := fun (h : k < os.length) => termOk_len (hok k h)
 have hEt : ts.getD k [] = (EL os k).1 := by rw [hts]; exact terms_get k
 have hEd := fun (h : k < os.length) => (show ds.getD k 0 = (EL os k).2.2.2 from by rw [hds]; exact deeps_get h)
 have leG1 := leG
 replace har := har.mono leG1
 replace hrs := hrs.mono leG1
 refine X.seq (X.seq (X.region (XL.mv (.int .i64 ((k : Int))) rfl (cX (XOp.fieldP (0) runUnderlying106 rfl sizeOf47 (by decide) rfl rfl (cX (XOp.load1 isAgg47 rfl (Rd.own [_, _, _, _] rfl rfl) (cX (XOp.lenS runUnderlying47 rfl (SlV.own [] rfl) (cX (XOp.lss rfl rfl (XL.nil ?_))))))))))))
 refine X.condD (p := (k : Int) < ((an : Nat) : Int)) rfl (fun h1 => ?_) (fun h1 => ?_)
 ·refine X.skip (X.seq (X.block (X.seq (X.seq (X.region (cX (XOp.fieldP (3) runUnderlying106 rfl sizeOf24 (by decide) rfl rfl (cX (XOp.load1 isAgg24 rfl (Rd.own [_, _, _, _] rfl rfl) (XL.mv (.int .i64 ((k : Int))) rfl (cX (XOp.indexS k runUnderlying24 sizeOf2 rfl rfl rfl (intsH.slv [_, _, _] rfl) (by omega) (Nat.mul_one _) (cX (XOp.load1 isAgg2 rfl (intsH.rd [_, _, _] rfl (by omega)) (XL.mv (.int .i64 (n)) rfl (cX (XOp.eql rfl rfl (XL.nil ?_))))))))))))))))))
  refine X.condD (p := (ds.getD k 0 : Int) = n) rfl (fun h2 => ?_) (fun h2 => ?_)
  ·have hdeep : (EL os k).2.2.2 = n := by rw [← hEd (by omega)]; exact h2
   refine X.exit (thenQ_exit (blockQ_exit (X.region (XL.mv (.int .i64 ((k : Int))) rfl (cX (XOp.addR (((k + 1 : Nat) : Int)) rfl rfl (by omega) (by omega) (XL.as (.int .i64 (((k + 1 : Nat) : Int))) rfl (XL.nil ?_))))))))
   exact ⟨(k + 1, os, av, ts, acs, an, bv, fs, cv, bs, ccs, cn, dv, ds, G1), _, leG1, rF, ⟨rfl, rfl, rfl, rfl, rfl, trivial⟩, (sC (sC (sC (sC (sC (sC (sC sR))))))), ⟨rfl, leG1, (hav), (hbv), (hcv), (hdv), (hA), (hB), (han), (hcn), (hts), (hfs), (hbs), (hds), (hl), (hok), (hdo), (by (try dsimp only) <;> omega), (by (try dsimp only); exact hgo.trans (reach_same (f := 60 - k - 1) (by omega) (by omega) hdeep))⟩, (by (try dsimp only); omega)⟩
  have hdeep : (EL os k).2.2.2 ≠ n := by rw [← hEd (by omega)]; exact h2
  refine X.skip (X.seq ?_)
  obtain ⟨a1, ha1, he1⟩ := hA.get (i := k) (by omega)
  refine X.draw [slH 24 1 av an acs, intsH 2 bv fs, slH 68 3 cv cn ccs, intsH 2 dv ds, cellsH b3 [av, bv, cv, dv, .bool (true)] 106, cellsH b2 [(.slice none 0 0), (.slice none 0 0), (.slice none 0 0), (.slice none 0 0), .bool (false)] 106, cellsH b1 [arv, rsv] 29] L 6 [[], [], [], [], [], []] [[], [], [1], [], [2, 3], [4]] (phiL [fun us v => v = (.agg #[arv, rsv] : Value), fun us v => v = ptr b3 0, fun us v => v = av, fun us v => v = (.int .i64 ((k : Int)) : Value), fun us v => v = (.pointer (some (elemA av (k))) : Value), fun us v => v = a1]) (ownL [fun us v => [], fun us v => [], fun us v => [], fun us v => [], fun us v => [], fun us v => []]) mixed rfl rfl (by kernel_rfl) ?_ ?_
  ·refine pC (fun vals R hpZ => ?_) ?_
   ·refine XG.op (XOp.loadN [arv, rsv] isAgg29 sizeOf29 rfl rfl (Rd.ownN [_, _, _, _, _, _] rfl rfl) ?_)
    exact ⟨rfl, rfl, rfl⟩
   refine pC (fun vals R hpZ => ?_) ?_
   ·refine XG.op (XOp.fieldP (0) runUnderlying106 rfl sizeOf47 (by decide) rfl rfl ?_)
    exact ⟨rfl, rfl, rfl⟩
   refine pC (fun vals R hpZ => ?_) ?_
   ·rw [eS (l := [(1, ptr b3 0)]) ⟨hpZ 1 (by decide), trivial⟩]
    refine XG.op (XOp.load1 isAgg47 rfl (Rd.own [_, _, _, _] rfl rfl) ?_)
    exact ⟨rfl, rfl, rfl⟩
   refine pC (fun vals R hpZ => ?_) ?_
   ·refine XG.op (XOp.move (.int .i64 ((k : Int))) rfl ?_)
    exact ⟨rfl, rfl, rfl⟩
   refine pC (fun vals R hpZ => ?_) ?_
   ·rw [eS (l := [(2, av), (3, (.int .i64 ((k : Int)) : Value))]) ⟨hpZ 2 (by decide), hpZ 3 (by decide), trivial⟩]
    refine XG.op (XOp.indexS k runUnderlying47 sizeOf24 rfl rfl rfl (SlV.own [] rfl) (by omega) (Nat.mul_one _) ?_)
    exact ⟨rfl, rfl, rfl⟩
   refine pC (fun vals R hpZ => ?_) ?_
   ·rw [eS (l := [(4, (.pointer (some (elemA av (k))) : Value))]) ⟨hpZ 4 (by decide), trivial⟩]
    refine XG.op (XOp.load1 isAgg24 rfl (Rd.sl [] rfl he1) ?_)
    exact ⟨rfl, rfl, rfl⟩
   exact stepsP.nil
  intro vals hphi
  rw [eS (l := [(0, (.agg #[arv, rsv] : Value)), (5, a1)]) ⟨(hphi 0 (by decide)), (hphi 5 (by decide)), trivial⟩]
  show XL _ _ _ _ _ _ _ (slH 24 1 av an acs :: intsH 2 bv fs :: slH 68 3 cv cn ccs :: intsH 2 dv ds :: cellsH b3 [av, bv, cv, dv, .bool (true)] 106 :: cellsH b2 [(.slice none 0 0), (.slice none 0 0), (.slice none 0 0), (.slice none 0 0), .bool (false)] 106 :: cellsH b1 [arv, rsv] 29 :: L)
  refine cX (XOp.call (args := [.agg #[arv, rsv], a1]) call125 rfl (l7Steps_spec har hrs ha1 (hsys := (hsys)) (ho := (by rw [hEt]; exact hdk (by omega)))) ?_)
  rintro _ F2 _ le2 ⟨x1, rfl, hr1, rfl⟩
  replace hA := hA.mono le2
  replace hB := hB.mono le2
  refine XL.as (x1) rfl (XL.nil (X.seq (X.region ?_)))
  have hk7 : k < os.length := by omega
  obtain ⟨nx, hnx⟩ : ∃ nx, stepsL ar rs (ts.getD k []) = nx := ⟨_, rfl⟩
  rw [hnx] at hr1
  obtain ⟨os0, hos0⟩ : ∃ o, o = os := ⟨_, rfl⟩
  have hdeep0 := hdeep
  have hgo0 := hgo
  rw [← hos0] at hdeep0 hgo0
  have hnx0 : stepsL ar rs (EL os0 k).1 = nx := by rw [hos0, ← hEt]; exact hnx
  have hdk0 := hdk hk7
  have hdo0 := hdo k hk7
  have hl0 : os0.length ≤ 60 := by rw [hos0]; exact hl
  rw [← hos0] at hdk0 hdo0
  have hk70 := hk7
  rw [← hos0] at hk70
  have hnxo : ∀ i, i < nx.length → termOk ar (nx.getD i (0, 0, [])).2.2 = true := fun i hi => by rw [← hnx0] at hi ⊢; exact steps_ok hsys hdk0 hi
  have hnxl : nx.length ≤ 1000 := by have h9 := stepsTo_len (ar := ar) (t := (EL os0 k).1) (rs := rs) hrl (EL os0 k).1.length; have h8 := termOk_len hdk0; rw [← hnx0]; show (stepsTo ar rs (EL os0 k).1 (EL os0 k).1.length).length ≤ 1000; omega
  skip
  refine XL.as (.int .i64 (0)) rfl (XL.nil (X.block (X.loop (α := Nat × List FoundT × Value × RowL × List Value × Nat × Value × List Int × Value × List StepT × List Value × Nat × Value × List Int × FH) (fun xQ => [(2, .int .i64 (n)), (3, ptr b1 0), (6, ptr b2 0), (7, ptr b3 0), (8, .int .i64 ((k : Int))), (9, x1), (10, .int .i64 (((xQ.1 : Nat) : Int)))]) (fun xQ => slH 24 1 xQ.2.2.1 xQ.2.2.2.2.2.1 xQ.2.2.2.2.1 :: intsH 2 xQ.2.2.2.2.2.2.1 xQ.2.2.2.2.2.2.2.1 :: slH 68 3 xQ.2.2.2.2.2.2.2.2.1 xQ.2.2.2.2.2.2.2.2.2.2.2.1 xQ.2.2.2.2.2.2.2.2.2.2.1 :: intsH 2 xQ.2.2.2.2.2.2.2.2.2.2.2.2.1 xQ.2.2.2.2.2.2.2.2.2.2.2.2.2.1 :: cellsH b3 [xQ.2.2.1, xQ.2.2.2.2.2.2.1, xQ.2.2.2.2.2.2.2.2.1, xQ.2.2.2.2.2.2.2.2.2.2.2.2.1, .bool (true)] 106 :: cellsH b2 [(.slice none 0 0), (.slice none 0 0), (.slice none 0 0), (.slice none 0 0), .bool (false)] 106 :: cellsH b1 [arv, rsv] 29 :: L) (fun xQ F' => xQ.2.2.2.2.2.2.2.2.2.2.2.2.2.2 = F' ∧ F2 ≤ xQ.2.2.2.2.2.2.2.2.2.2.2.2.2.2 ∧ (IsSl xQ.2.2.1) ∧ (IsSl xQ.2.2.2.2.2.2.1) ∧ (IsSl xQ.2.2.2.2.2.2.2.2.1) ∧ (IsSl xQ.2.2.2.2.2.2.2.2.2.2.2.2.1) ∧ (RowsC xQ.2.2.2.2.2.2.2.2.2.2.2.2.2.2 xQ.2.2.2.2.1 xQ.2.2.2.1) ∧ (StepsC xQ.2.2.2.2.2.2.2.2.2.2.2.2.2.2 xQ.2.2.2.2.2.2.2.2.2.2.1 xQ.2.2.2.2.2.2.2.2.2.1) ∧ (xQ.2.2.2.2.2.1 = xQ.2.2.2.1.length) ∧ (xQ.2.2.2.2.2.2.2.2.2.2.2.1 = xQ.2.2.2.2.2.2.2.2.2.1.length) ∧ (xQ.2.2.2.1 = terms xQ.2.1) ∧ (xQ.2.2.2.2.2.2.2.1 = froms xQ.2.1) ∧ (xQ.2.2.2.2.2.2.2.2.2.1 = bys xQ.2.1) ∧ (xQ.2.2.2.2.2.2.2.2.2.2.2.2.2.1 = deeps xQ.2.1) ∧ (xQ.2.1.length ≤ 60) ∧ (AllOk ar xQ.2.1) ∧ (DeepOk n xQ.2.1) ∧ (xQ.1 ≤ nx.length) ∧ (k < xQ.2.1.length) ∧ (EL xQ.2.1 k = EL os0 k) ∧ (addGo (k : Int) (EL os0 k).2.2.2 nx os0 = addGo (k : Int) (EL os0 k).2.2.2 (nx.drop xQ.1) xQ.2.1)) (fun xQ => nx.length - xQ.1) (0, os, av, ts, acs, an, bv, fs, cv, bs, ccs, cn, dv, ds, F2) ⟨rfl, rfl, rfl, rfl, rfl, rfl, rfl, trivial⟩ (sC (sC (sC (sC (sC (sC (sC sR))))))) ⟨rfl, FLe.refl _, (hav), (hbv), (hcv), (hdv), (hA), (hB), (han), (hcn), (hts), (hfs), (hbs), (hds), (hl), (hok), (hdo), (by (try dsimp only) <;> omega), (by (try dsimp only); omega), (by (try dsimp only); rw [hos0]), (by (try dsimp only); rw [hos0]; rfl)⟩ ?_)))
  rintro ⟨q, os, av, ts, acs, an, bv, fs, cv, bs, ccs, cn, dv, ds, G2⟩ rE _ _ ⟨rfl, leG, havi, hbvi, hcvi, hdvi, hAi, hBi, hani, hcni, htsi, hfsi, hbsi, hdsi, hli, hoki, hdoi, hq, hkp, hel, hgoi⟩
  show X _ _ _ _ (envs [(2, .int .i64 (n)), (3, ptr b1 0), (6, ptr b2 0), (7, ptr b3 0), (8, .int .i64 ((k : Int))), (9, x1), (10, .int .i64 ((q : Int)))] rE) _ (slH 24 1 av an acs :: intsH 2 bv fs :: slH 68 3 cv cn ccs :: intsH 2 dv ds :: cellsH b3 [av, bv, cv, dv, .bool (true)] 106 :: cellsH b2 [(.slice none 0 0), (.slice none 0 0), (.slice none 0 0), (.slice none 0 0), .bool (false)] 106 :: cellsH b1 [arv, rsv] 29 :: L)
  replace leG : F2 ≤ G2 := leG
  dsimp only at havi hbvi hcvi hdvi hAi hBi hani hcni htsi hfsi hbsi hdsi hli hoki hdoi hq hkp hel hgoi
  have htl9i : ts.length = os.length := by rw [htsi]; exact terms_len
  have hfl9i : fs.length = os.length := by rw [hfsi]; exact froms_len
  have hbl9i : bs.length = os.length := by rw [hbsi]; exact bys_len
  have hdl9i : ds.length = os.length := by rw [hdsi]; exact deeps_len
  have hsok := fun (h : q < nx.length) => termOk_len (hnxo q h)
  have hdk9 : ds.getD k 0 = (EL os0 k).2.2.2 := by rw [hdsi, deeps_get hkp, hel]
  have leG2 := leG
  replace hA := hA.mono leG2
  replace hB := hB.mono leG2
  replace hr1 := hr1.mono leG2
  refine X.seq (X.seq (X.region (XL.mv (.int .i64 ((q : Int))) rfl (XL.mv (x1) rfl (cX (XOp.lenS runUnderlying32 rfl hr1.slv (cX (XOp.lss rfl rfl (XL.nil ?_)))))))))
  refine X.condD (p := (q : Int) < (nx.length : Int)) rfl (fun h3 => ?_) (fun h3 => ?_)
  ·refine X.skip (X.seq (X.block (X.seq (X.seq ?_))))
   obtain ⟨a2, ha2, hr2, hr3, hr4⟩ := hr1.rd (i := q) (by omega)
   refine X.draw [slH 24 1 av an acs, intsH 2 bv fs, slH 68 3 cv cn ccs, intsH 2 dv ds, cellsH b3 [av, bv, cv, dv, .bool (true)] 106, cellsH b2 [(.slice none 0 0), (.slice none 0 0), (.slice none 0 0), (.slice none 0 0), .bool (false)] 106, cellsH b1 [arv, rsv] 29] L 7 [[], [], [], [], [], [], []] [[], [0], [], [], [2, 3], [4], [5]] (phiL [fun us v => v = ptr b3 0, fun us v => v = av, fun us v => v = x1, fun us v => v = (.int .i64 ((q : Int)) : Value), fun us v => v = (.pointer (some (elemA x1 (q * 3))) : Value), fun us v => v = (.pointer (some (elemA x1 (q * 3 + 2))) : Value), fun us v => v = a2]) (ownL [fun us v => [], fun us v => [], fun us v => [], fun us v => [], fun us v => [], fun us v => [], fun us v => []]) mixed rfl rfl (by kernel_rfl) ?_ ?_
   ·refine pC (fun vals R hpZ => ?_) ?_
    ·refine XG.op (XOp.fieldP (0) runUnderlying106 rfl sizeOf47 (by decide) rfl rfl ?_)
     exact ⟨rfl, rfl, rfl⟩
    refine pC (fun vals R hpZ => ?_) ?_
    ·rw [eS (l := [(0, ptr b3 0)]) ⟨hpZ 0 (by decide), trivial⟩]
     refine XG.op (XOp.load1 isAgg47 rfl (Rd.own [_, _, _, _] rfl rfl) ?_)
     exact ⟨rfl, rfl, rfl⟩
    refine pC (fun vals R hpZ => ?_) ?_
    ·refine XG.op (XOp.move (x1) rfl ?_)
     exact ⟨rfl, rfl, rfl⟩
    refine pC (fun vals R hpZ => ?_) ?_
    ·refine XG.op (XOp.move (.int .i64 ((q : Int))) rfl ?_)
     exact ⟨rfl, rfl, rfl⟩
    refine pC (fun vals R hpZ => ?_) ?_
    ·rw [eS (l := [(2, x1), (3, (.int .i64 ((q : Int)) : Value))]) ⟨hpZ 2 (by decide), hpZ 3 (by decide), trivial⟩]
     refine XG.op (XOp.indexS q runUnderlying32 sizeOf68 rfl rfl rfl hr1.slv (by omega) rfl ?_)
     exact ⟨rfl, rfl, rfl⟩
    refine pC (fun vals R hpZ => ?_) ?_
    ·rw [eS (l := [(4, (.pointer (some (elemA x1 (q * 3))) : Value))]) ⟨hpZ 4 (by decide), trivial⟩]
     refine XG.op (XOp.fieldE (q * 3 + 2) runUnderlying68 rfl sizeOf24 (by decide) rfl rfl ?_)
     exact ⟨rfl, rfl, rfl⟩
    refine pC (fun vals R hpZ => ?_) ?_
    ·rw [eS (l := [(5, (.pointer (some (elemA x1 (q * 3 + 2))) : Value))]) ⟨hpZ 5 (by decide), trivial⟩]
     refine XG.op (XOp.load1 isAgg24 rfl (hr4 _) ?_)
     exact ⟨rfl, rfl, rfl⟩
    exact stepsP.nil
   intro vals hphi
   rw [eS (l := [(1, av), (6, a2)]) ⟨(hphi 1 (by decide)), (hphi 6 (by decide)), trivial⟩]
   show XL _ _ _ _ _ _ _ (slH 24 1 av an acs :: intsH 2 bv fs :: slH 68 3 cv cn ccs :: intsH 2 dv ds :: cellsH b3 [av, bv, cv, dv, .bool (true)] 106 :: cellsH b2 [(.slice none 0 0), (.slice none 0 0), (.slice none 0 0), (.slice none 0 0), .bool (false)] 106 :: cellsH b1 [arv, rsv] 29 :: L)
   refine cX (XOp.lend [] _ _ rfl (fun F3 le3 hz2 => ?_))
   have hf2 : RowsF _ av ts := (CO.fz (RowsC.mono hAi (FLe.trans le3 rF)) (by first | rfl | assumption | omega | (rw [List.length_append]; simp only [List.length_singleton]; omega)) hz2 : RowsF _ av ts)
   refine id (XOp.call (args := [av, a2]) call126 rfl (l1TermPlace_spec hf2 ((ha2.mono le3)) (hlt := (by omega)) (htb := (fun i hi => by rw [htsi, terms_get]; have := termOk_len (hoki i (by omega)); omega)) (hlx := (by have := hsok (by omega); omega))) ?_)
   rintro _ _ _ _ ⟨rfl, rfl, rfl⟩
   show XL _ _ _ _ _ _ _ (slH 24 1 av an acs :: intsH 2 bv fs :: slH 68 3 cv cn ccs :: intsH 2 dv ds :: cellsH b3 [av, bv, cv, dv, .bool (true)] 106 :: cellsH b2 [(.slice none 0 0), (.slice none 0 0), (.slice none 0 0), (.slice none 0 0), .bool (false)] 106 :: cellsH b1 [arv, rsv] 29 :: L)
   refine cX (XOp.geq rfl rfl (XL.nil ?_))
   refine X.condD (p := (badG (fun y => !decide (y = ((nx.getD q (0, 0, [])).2.2))) ts : Int) ≥ 0) rfl (fun h4 => ?_) (fun h4 => ?_)
   ·have hbg : badG (fun y => !decide (y = (nx.getD q (0, 0, [])).2.2)) ts = foundI os (nx.getD q (0, 0, [])).2.2 := by rw [htsi]; exact foundI_terms
    have hin : isIn os (nx.getD q (0, 0, [])).2.2 = true := foundI_iff.1 (by rw [← hbg]; exact h4)
    refine X.exit (thenQ_exit (blockQ_exit (X.region (XL.mv (.int .i64 ((q : Int))) rfl (cX (XOp.addR (((q + 1 : Nat) : Int)) rfl rfl (by omega) (by omega) (XL.as (.int .i64 (((q + 1 : Nat) : Int))) rfl (XL.nil ?_))))))))
    exact ⟨(q + 1, os, av, ts, acs, an, bv, fs, cv, bs, ccs, cn, dv, ds, G2), _, leG2, rF, ⟨rfl, rfl, rfl, rfl, rfl, rfl, rfl, trivial⟩, (sC (sC (sC (sC (sC (sC (sC sR))))))), ⟨rfl, leG2, (havi), (hbvi), (hcvi), (hdvi), (hAi), (hBi), (hani), (hcni), (htsi), (hfsi), (hbsi), (hdsi), (hli), (hoki), (hdoi), (by (try dsimp only) <;> omega), (hkp), (hel), (by (try dsimp only); exact hgoi.trans (add_in (by omega) hin))⟩, (by omega)⟩
   have hbg : badG (fun y => !decide (y = (nx.getD q (0, 0, [])).2.2)) ts = foundI os (nx.getD q (0, 0, [])).2.2 := by rw [htsi]; exact foundI_terms
   have hnin : isIn os (nx.getD q (0, 0, [])).2.2 = false := by rw [Bool.eq_false_iff]; intro h9; exact absurd (foundI_iff.2 h9) (by rw [← hbg]; exact h4)
   refine X.skip (X.seq (X.seq (X.region (cX (XOp.fieldP (0) runUnderlying106 rfl sizeOf47 (by decide) rfl rfl (cX (XOp.load1 isAgg47 rfl (Rd.own [_, _, _, _] rfl rfl) (cX (XOp.lenS runUnderlying47 rfl (SlV.own [] rfl) (cX (XOp.eql rfl rfl (XL.nil ?_))))))))))))
   refine X.condD (p := (((an : Nat) : Int) : Int) = 60) rfl (fun h5 => ?_) (fun h5 => ?_)
   ·refine X.seq (X.region (cX (XOp.fieldP (4) runUnderlying106 rfl sizeOf4 (by decide) rfl rfl (cX (XOp.store1 [_, _, _, _] _ [av, bv, cv, dv, .bool (false)] sizeOf4 rfl rfl rfl rfl rfl rfl (XL.nil (X.seq (X.region (cX (XOp.loadN [av, bv, cv, dv, .bool (false)] isAgg106 sizeOf106 rfl rfl (Rd.ownN [_, _, _, _] rfl rfl) (cX (XOp.storeN [_, _, _, _, _] _ [av, bv, cv, dv, .bool (false)] sizeOf106 rfl rfl rfl (ones_cons (one_sl havi) (ones_cons (one_sl hbvi) (ones_cons (one_sl hcvi) (ones_cons (one_sl hdvi) (ones_cons rfl ones_nil))))) rfl rfl rfl (XL.nil (X.freezeF [] _ _ rfl (fun F4 le4 hz3 => ?_)))))))))))))))
    replace hA := hA.mono le4
    replace hB := hB.mono le4
    replace hr1 := hr1.mono le4
    replace hAi := hAi.mono le4
    replace hBi := hBi.mono le4
    replace ha2 := ha2.mono le4
    replace hr2 := Rd.monoA hr2 le4
    replace hr3 := Rd.monoA hr3 le4
    replace hr4 := Rd.monoA hr4 le4
    have hf3 : RowsF F4 av ts := CO.fz hAi (by first | rfl | omega | (rw [List.length_set]; omega) | (simp; done)) hz3.fz
    refine X.freezeF [] _ _ rfl (fun F5 le5 hz4 => ?_)
    replace hA := hA.mono le5
    replace hB := hB.mono le5
    replace hr1 := hr1.mono le5
    replace hAi := hAi.mono le5
    replace hBi := hBi.mono le5
    replace ha2 := ha2.mono le5
    replace hf3 := hf3.mono le5
    replace hr2 := Rd.monoA hr2 le5
    replace hr3 := Rd.monoA hr3 le5
    replace hr4 := Rd.monoA hr4 le5
    have hf4 : IntsF F5 bv fs := intsH.fz (xs := fs) hz4.fz
    refine X.freezeF [] _ _ rfl (fun F6 le6 hz5 => ?_)
    replace hA := hA.mono le6
    replace hB := hB.mono le6
    replace hr1 := hr1.mono le6
    replace hAi := hAi.mono le6
    replace hBi := hBi.mono le6
    replace ha2 := ha2.mono le6
    replace hf3 := hf3.mono le6
    replace hf4 := hf4.mono le6
    replace hr2 := Rd.monoA hr2 le6
    replace hr3 := Rd.monoA hr3 le6
    replace hr4 := Rd.monoA hr4 le6
    have hf5 : StepsF F6 cv bs := CO.fz hBi (by first | rfl | omega | (rw [List.length_set]; omega) | (simp; done)) hz5.fz
    refine X.freezeF [] _ _ rfl (fun F7 le7 hz6 => ?_)
    replace hA := hA.mono le7
    replace hB := hB.mono le7
    replace hr1 := hr1.mono le7
    replace hAi := hAi.mono le7
    replace hBi := hBi.mono le7
    replace ha2 := ha2.mono le7
    replace hf3 := hf3.mono le7
    replace hf4 := hf4.mono le7
    replace hf5 := hf5.mono le7
    replace hr2 := Rd.monoA hr2 le7
    replace hr3 := Rd.monoA hr3 le7
    replace hr4 := Rd.monoA hr4 le7
    have hf6 : IntsF F7 dv ds := intsH.fz (xs := ds) hz6.fz
    refine X.ret (thenQ_ret (blockQ_ret (thenQ_ret (thenQ_ret (blockQ_ret (blockQ_ret (thenQ_ret (thenQ_ret (blockQ_ret (thenQ_ret (retEnd (L' := L) [.agg #[av, bv, cv, dv, .bool (false)]] (.agg #[av, bv, cv, dv, .bool (false)]) (.cell rfl (loadNV [av, bv, cv, dv, .bool (false)] isAgg106 sizeOf106 rfl (Rd.ownN [_] rfl rfl)) .nil) rfl (FLe.trans (FLe.trans (FLe.trans (FLe.trans (FLe.trans (FLe.trans (FLe.trans le1 leG1) le2) leG2) le4) le5) le6) le7) rF (sD (sD (sD sR))) ?_)))))))))))
    have h9 := hgoi.trans (add_full (by omega) hnin (by omega))
    have h8 := reach_stop (ar := ar) (rs := rs) (n := n) (f := 60 - k - 1) hk70 (by omega) hdeep0 (by rw [hnx0, h9])
    rw [hnx0, h9] at h8
    have e9 : reachL ar rs t n = (os, false) := hgo0.trans h8
    rw [e9]
    exact ⟨_, _, _, _, rfl, by rw [← htsi]; exact hf3, by rw [← hfsi]; exact hf4, by rw [← hbsi]; exact hf5, by rw [← hdsi]; exact hf6, rfl⟩
   refine X.skip (X.seq ?_)
   refine X.draw [slH 24 1 av an acs, intsH 2 bv fs, slH 68 3 cv cn ccs, intsH 2 dv ds, cellsH b3 [av, bv, cv, dv, .bool (true)] 106, cellsH b2 [(.slice none 0 0), (.slice none 0 0), (.slice none 0 0), (.slice none 0 0), .bool (false)] 106, cellsH b1 [arv, rsv] 29] L 8 [[], [], [], [], [], [], [], []] [[], [0], [], [], [2, 3], [4], [5], [6]] (phiL [fun us v => v = ptr b3 0, fun us v => v = av, fun us v => v = x1, fun us v => v = (.int .i64 ((q : Int)) : Value), fun us v => v = (.pointer (some (elemA x1 (q * 3))) : Value), fun us v => v = (.pointer (some (elemA x1 (q * 3 + 2))) : Value), fun us v => v = a2, fun us v => ∃ b, v = .slice (some ⟨b, 0, none⟩) 1 1]) (ownL [fun us v => [], fun us v => [], fun us v => [], fun us v => [], fun us v => [], fun us v => [], fun us v => [], fun us v => [slH 24 1 v 1 [a2]]]) mixed rfl rfl (by kernel_rfl) ?_ ?_
   ·refine pC (fun vals R hpZ => ?_) ?_
    ·refine XG.op (XOp.fieldP (0) runUnderlying106 rfl sizeOf47 (by decide) rfl rfl ?_)
     exact ⟨rfl, rfl, rfl⟩
    refine pC (fun vals R hpZ => ?_) ?_
    ·rw [eS (l := [(0, ptr b3 0)]) ⟨hpZ 0 (by decide), trivial⟩]
     refine XG.op (XOp.load1 isAgg47 rfl (Rd.own [_, _, _, _] rfl rfl) ?_)
     exact ⟨rfl, rfl, rfl⟩
    refine pC (fun vals R hpZ => ?_) ?_
    ·refine XG.op (XOp.move (x1) rfl ?_)
     exact ⟨rfl, rfl, rfl⟩
    refine pC (fun vals R hpZ => ?_) ?_
    ·refine XG.op (XOp.move (.int .i64 ((q : Int))) rfl ?_)
     exact ⟨rfl, rfl, rfl⟩
    refine pC (fun vals R hpZ => ?_) ?_
    ·rw [eS (l := [(2, x1), (3, (.int .i64 ((q : Int)) : Value))]) ⟨hpZ 2 (by decide), hpZ 3 (by decide), trivial⟩]
     refine XG.op (XOp.indexS q runUnderlying32 sizeOf68 rfl rfl rfl hr1.slv (by omega) rfl ?_)
     exact ⟨rfl, rfl, rfl⟩
    refine pC (fun vals R hpZ => ?_) ?_
    ·rw [eS (l := [(4, (.pointer (some (elemA x1 (q * 3))) : Value))]) ⟨hpZ 4 (by decide), trivial⟩]
     refine XG.op (XOp.fieldE (q * 3 + 2) runUnderlying68 rfl sizeOf24 (by decide) rfl rfl ?_)
     exact ⟨rfl, rfl, rfl⟩
    refine pC (fun vals R hpZ => ?_) ?_
    ·rw [eS (l := [(5, (.pointer (some (elemA x1 (q * 3 + 2))) : Value))]) ⟨hpZ 5 (by decide), trivial⟩]
     refine XG.op (XOp.load1 isAgg24 rfl (hr4 _) ?_)
     exact ⟨rfl, rfl, rfl⟩
    refine pC (fun vals R hpZ => ?_) ?_
    ·rw [eS (l := [(6, a2)]) ⟨hpZ 6 (by decide), trivial⟩]
     refine XG.op (XOp.buildSlice (s := 1) [a2] [(.slice none 0 0)] [(0, [a2])] runUnderlying47 sizeOf24 zeroValue24 rfl (by decide) rfl (.cons (cells_one (IntsF.isSl ha2)) CellsAre.nil) rfl ?_)
     intro v7 hv6
     exact ⟨rfl, hv6, rfl⟩
    exact stepsP.nil
   intro vals hphi
   have f7 : ∃ b, (vals 7) = .slice (some ⟨b, 0, none⟩) 1 1 := hphi 7 (by decide)
   generalize hu7 : vals 7 = u1 at f7
   rw [eS (l := [(1, av), (7, u1)]) ⟨(hphi 1 (by decide)), hu7, trivial⟩]
   show XL _ _ _ _ _ _ _ (slH 24 1 u1 1 [a2] :: slH 24 1 av an acs :: intsH 2 bv fs :: slH 68 3 cv cn ccs :: intsH 2 dv ds :: cellsH b3 [av, bv, cv, dv, .bool (true)] 106 :: cellsH b2 [(.slice none 0 0), (.slice none 0 0), (.slice none 0 0), (.slice none 0 0), .bool (false)] 106 :: cellsH b1 [arv, rsv] 29 :: L)
   refine cX (XOp.append (m := 1) (bytes := 24) (cs := acs) [_] _ [a2] runUnderlying47 typeInfo24 rfl rfl rfl rfl rfl rfl rfl (SlV.own [] rfl) rfl (Rd.lit [] rfl) (ones_cons (one_sl (IntsF.isSl ha2)) ones_nil) (by (try simp only [List.length_append, List.length_nil, List.length_cons, List.length_singleton]); omega) (by (try simp only [List.length_append, List.length_nil, List.length_cons, List.length_singleton]); omega) ?_)
   intro v8 hs2 hn1 hm1
   have hc3 := RowsC.snoc hAi ha2
   refine cX (XOp.fieldP (0) runUnderlying106 rfl sizeOf47 (by decide) rfl rfl (cX (XOp.store1 [_, _, _, _, _] _ [v8, bv, cv, dv, .bool (true)] sizeOf47 rfl rfl (one_sl hs2) rfl rfl rfl (XL.nil (X.seq (X.region (cX (XOp.fieldP (1) runUnderlying106 rfl sizeOf24 (by decide) rfl rfl (cX (XOp.load1 isAgg24 rfl (Rd.own [_, _, _, _, _] rfl rfl) (XL.mv (.int .i64 ((k : Int))) rfl (cX (XOp.buildSlice (s := 1) [.int .i64 ((k : Int))] [.int .i64 (0)] [(0, [.int .i64 ((k : Int))])] runUnderlying24 sizeOf2 zeroValue2 rfl (by decide) rfl (.cons rfl CellsAre.nil) rfl ?_)))))))))))))
   intro v9 hv7
   refine cX (XOp.append1 (u := (k : Int)) [_, _, _] _ runUnderlying24 typeInfo2 rfl rfl rfl rfl rfl rfl (SlV.own [] rfl) (Rd.sl [] rfl rfl) (by (try simp only [List.length_append, List.length_nil, List.length_cons, List.length_singleton, List.length_take, List.length_drop]); omega) ?_)
   intro v10 hs3 hn2
   refine cX (XOp.fieldP (1) runUnderlying106 rfl sizeOf24 (by decide) rfl rfl (cX (XOp.store1 [_, _, _, _, _, _] _ [v8, v10, cv, dv, .bool (true)] sizeOf24 rfl rfl (one_sl hs3) rfl rfl rfl (XL.nil (X.seq ?_)))))
   refine X.draw [slH 2 1 v9 1 [.int .i64 ((k : Int))], slH 24 1 u1 1 [a2], slH 24 1 v8 ((an) + 1) (acs ++ [a2]), intsH 2 v10 (fs ++ [(k : Int)]), slH 68 3 cv cn ccs, intsH 2 dv ds, cellsH b3 [v8, v10, cv, dv, .bool (true)] 106, cellsH b2 [(.slice none 0 0), (.slice none 0 0), (.slice none 0 0), (.slice none 0 0), .bool (false)] 106, cellsH b1 [arv, rsv] 29] L 7 [[], [], [], [], [], [], []] [[], [0], [], [], [2, 3], [4], [5]] (phiL [fun us v => v = ptr b3 2, fun us v => v = cv, fun us v => v = x1, fun us v => v = (.int .i64 ((q : Int)) : Value), fun us v => v = (.pointer (some (elemA x1 (q * 3))) : Value), fun us v => v = (.agg #[.int .i64 ((nx.getD q (0, 0, [])).1), .int .i64 ((nx.getD q (0, 0, [])).2.1), a2] : Value), fun us v => ∃ b, v = .slice (some ⟨b, 0, none⟩) 1 1]) (ownL [fun us v => [], fun us v => [], fun us v => [], fun us v => [], fun us v => [], fun us v => [], fun us v => [slH 68 3 v 1 [.int .i64 ((nx.getD q (0, 0, [])).1), .int .i64 ((nx.getD q (0, 0, [])).2.1), a2]]]) mixed rfl rfl (by kernel_rfl) ?_ ?_
   ·refine pC (fun vals R hpZ => ?_) ?_
    ·refine XG.op (XOp.fieldP (2) runUnderlying106 rfl sizeOf32 (by decide) rfl rfl ?_)
     exact ⟨rfl, rfl, rfl⟩
    refine pC (fun vals R hpZ => ?_) ?_
    ·rw [eS (l := [(0, ptr b3 2)]) ⟨hpZ 0 (by decide), trivial⟩]
     refine XG.op (XOp.load1 isAgg32 rfl (Rd.own [_, _, _, _, _, _] rfl rfl) ?_)
     exact ⟨rfl, rfl, rfl⟩
    refine pC (fun vals R hpZ => ?_) ?_
    ·refine XG.op (XOp.move (x1) rfl ?_)
     exact ⟨rfl, rfl, rfl⟩
    refine pC (fun vals R hpZ => ?_) ?_
    ·refine XG.op (XOp.move (.int .i64 ((q : Int))) rfl ?_)
     exact ⟨rfl, rfl, rfl⟩
    refine pC (fun vals R hpZ => ?_) ?_
    ·rw [eS (l := [(2, x1), (3, (.int .i64 ((q : Int)) : Value))]) ⟨hpZ 2 (by decide), hpZ 3 (by decide), trivial⟩]
     refine XG.op (XOp.indexS q runUnderlying32 sizeOf68 rfl rfl rfl hr1.slv (by omega) rfl ?_)
     exact ⟨rfl, rfl, rfl⟩
    refine pC (fun vals R hpZ => ?_) ?_
    ·rw [eS (l := [(4, (.pointer (some (elemA x1 (q * 3))) : Value))]) ⟨hpZ 4 (by decide), trivial⟩]
     refine XG.op (XOp.loadN [.int .i64 ((nx.getD q (0, 0, [])).1), .int .i64 ((nx.getD q (0, 0, [])).2.1), a2] isAgg68 sizeOf68 rfl rfl (Rd.three (hr2 _) (hr3 _) (hr4 _)) ?_)
     exact ⟨rfl, rfl, rfl⟩
    refine pC (fun vals R hpZ => ?_) ?_
    ·rw [eS (l := [(5, (.agg #[.int .i64 ((nx.getD q (0, 0, [])).1), .int .i64 ((nx.getD q (0, 0, [])).2.1), a2] : Value))]) ⟨hpZ 5 (by decide), trivial⟩]
     refine XG.op (XOp.buildSlice (s := 3) [.int .i64 ((nx.getD q (0, 0, [])).1), .int .i64 ((nx.getD q (0, 0, [])).2.1), a2] [.int .i64 (0), .int .i64 (0), (.slice none 0 0)] [(0, [.int .i64 ((nx.getD q (0, 0, [])).1), .int .i64 ((nx.getD q (0, 0, [])).2.1), a2])] runUnderlying32 sizeOf68 zeroValue68 rfl (by decide) rfl (.cons rfl CellsAre.nil) rfl ?_)
     intro v12 hv9
     exact ⟨rfl, hv9, rfl⟩
    exact stepsP.nil
   intro vals hphi
   have f6 : ∃ b, (vals 6) = .slice (some ⟨b, 0, none⟩) 1 1 := hphi 6 (by decide)
   generalize hu6 : vals 6 = u2 at f6
   rw [eS (l := [(1, cv), (6, u2)]) ⟨(hphi 1 (by decide)), hu6, trivial⟩]
   show XL _ _ _ _ _ _ _ (slH 68 3 u2 1 [.int .i64 ((nx.getD q (0, 0, [])).1), .int .i64 ((nx.getD q (0, 0, [])).2.1), a2] :: slH 2 1 v9 1 [.int .i64 ((k : Int))] :: slH 24 1 u1 1 [a2] :: slH 24 1 v8 ((an) + 1) (acs ++ [a2]) :: intsH 2 v10 (fs ++ [(k : Int)]) :: slH 68 3 cv cn ccs :: intsH 2 dv ds :: cellsH b3 [v8, v10, cv, dv, .bool (true)] 106 :: cellsH b2 [(.slice none 0 0), (.slice none 0 0), (.slice none 0 0), (.slice none 0 0), .bool (false)] 106 :: cellsH b1 [arv, rsv] 29 :: L)
   refine cX (XOp.append (m := 1) (bytes := 40) (cs := ccs) [_, _, _, _, _] _ [.int .i64 ((nx.getD q (0, 0, [])).1), .int .i64 ((nx.getD q (0, 0, [])).2.1), a2] runUnderlying32 typeInfo68 rfl rfl rfl rfl rfl rfl rfl (SlV.own [] rfl) rfl (Rd.lit [] rfl) (ones_cons rfl (ones_cons rfl (ones_cons (one_sl (IntsF.isSl ha2)) ones_nil))) (by (try simp only [List.length_append, List.length_nil, List.length_cons, List.length_singleton]); omega) (by (try simp only [List.length_append, List.length_nil, List.length_cons, List.length_singleton]); omega) ?_)
   intro v13 hs4 hn3 hm2
   have hc4 := StepsC.snoc hBi (i := (nx.getD q (0, 0, [])).1) (j := (nx.getD q (0, 0, [])).2.1) ha2
   refine cX (XOp.fieldP (2) runUnderlying106 rfl sizeOf32 (by decide) rfl rfl (cX (XOp.store1 [_, _, _, _, _, _, _] _ [v8, v10, v13, dv, .bool (true)] sizeOf32 rfl rfl (one_sl hs4) rfl rfl rfl (XL.nil ?_))))
   refine X.draw [slH 68 3 u2 1 [.int .i64 ((nx.getD q (0, 0, [])).1), .int .i64 ((nx.getD q (0, 0, [])).2.1), a2], slH 2 1 v9 1 [.int .i64 ((k : Int))], slH 24 1 u1 1 [a2], slH 24 1 v8 ((an) + 1) (acs ++ [a2]), intsH 2 v10 (fs ++ [(k : Int)]), slH 68 3 v13 ((cn) + 1) (ccs ++ [.int .i64 ((nx.getD q (0, 0, [])).1), .int .i64 ((nx.getD q (0, 0, [])).2.1), a2]), intsH 2 dv ds, cellsH b3 [v8, v10, v13, dv, .bool (true)] 106, cellsH b2 [(.slice none 0 0), (.slice none 0 0), (.slice none 0 0), (.slice none 0 0), .bool (false)] 106, cellsH b1 [arv, rsv] 29] L 9 [[], [], [], [], [], [], [], [], []] [[], [0], [], [2], [], [3, 4], [5], [6], [7]] (phiL [fun us v => v = ptr b3 3, fun us v => v = dv, fun us v => v = ptr b3 3, fun us v => v = dv, fun us v => v = (.int .i64 ((k : Int)) : Value), fun us v => v = (.pointer (some (elemA dv (k))) : Value), fun us v => v = (.int .i64 (ds.getD k 0) : Value), fun us v => v = (.int .i64 ((ds.getD k 0) + 1) : Value), fun us v => ∃ b, v = .slice (some ⟨b, 0, none⟩) 1 1]) (ownL [fun us v => [], fun us v => [], fun us v => [], fun us v => [], fun us v => [], fun us v => [], fun us v => [], fun us v => [], fun us v => [slH 2 1 v 1 [.int .i64 ((ds.getD k 0) + 1)]]]) mixed rfl rfl (by kernel_rfl) ?_ ?_
   ·refine pC (fun vals R hpZ => ?_) ?_
    ·refine XG.op (XOp.fieldP (3) runUnderlying106 rfl sizeOf24 (by decide) rfl rfl ?_)
     exact ⟨rfl, rfl, rfl⟩
    refine pC (fun vals R hpZ => ?_) ?_
    ·rw [eS (l := [(0, ptr b3 3)]) ⟨hpZ 0 (by decide), trivial⟩]
     refine XG.op (XOp.load1 isAgg24 rfl (Rd.own [_, _, _, _, _, _, _] rfl rfl) ?_)
     exact ⟨rfl, rfl, rfl⟩
    refine pC (fun vals R hpZ => ?_) ?_
    ·refine XG.op (XOp.fieldP (3) runUnderlying106 rfl sizeOf24 (by decide) rfl rfl ?_)
     exact ⟨rfl, rfl, rfl⟩
    refine pC (fun vals R hpZ => ?_) ?_
    ·rw [eS (l := [(2, ptr b3 3)]) ⟨hpZ 2 (by decide), trivial⟩]
     refine XG.op (XOp.load1 isAgg24 rfl (Rd.own [_, _, _, _, _, _, _] rfl rfl) ?_)
     exact ⟨rfl, rfl, rfl⟩
    refine pC (fun vals R hpZ => ?_) ?_
    ·refine XG.op (XOp.move (.int .i64 ((k : Int))) rfl ?_)
     exact ⟨rfl, rfl, rfl⟩
    refine pC (fun vals R hpZ => ?_) ?_
    ·rw [eS (l := [(3, dv), (4, (.int .i64 ((k : Int)) : Value))]) ⟨hpZ 3 (by decide), hpZ 4 (by decide), trivial⟩]
     refine XG.op (XOp.indexS k runUnderlying24 sizeOf2 rfl rfl rfl (intsH.slv [_, _, _, _, _, _] rfl) (by omega) (Nat.mul_one _) ?_)
     exact ⟨rfl, rfl, rfl⟩
    refine pC (fun vals R hpZ => ?_) ?_
    ·rw [eS (l := [(5, (.pointer (some (elemA dv (k))) : Value))]) ⟨hpZ 5 (by decide), trivial⟩]
     refine XG.op (XOp.load1 isAgg2 rfl (intsH.rd [_, _, _, _, _, _] rfl (by omega)) ?_)
     exact ⟨rfl, rfl, rfl⟩
    refine pC (fun vals R hpZ => ?_) ?_
    ·rw [eS (l := [(6, (.int .i64 (ds.getD k 0) : Value))]) ⟨hpZ 6 (by decide), trivial⟩]
     refine XG.op (XOp.addR ((ds.getD k 0) + 1) rfl rfl (by omega) (by omega) ?_)
     exact ⟨rfl, rfl, rfl⟩
    refine pC (fun vals R hpZ => ?_) ?_
    ·rw [eS (l := [(7, (.int .i64 ((ds.getD k 0) + 1) : Value))]) ⟨hpZ 7 (by decide), trivial⟩]
     refine XG.op (XOp.buildSlice (s := 1) [.int .i64 ((ds.getD k 0) + 1)] [.int .i64 (0)] [(0, [.int .i64 ((ds.getD k 0) + 1)])] runUnderlying24 sizeOf2 zeroValue2 rfl (by decide) rfl (.cons rfl CellsAre.nil) rfl ?_)
     intro v15 hv11
     exact ⟨rfl, hv11, rfl⟩
    exact stepsP.nil
   intro vals hphi
   have f8 : ∃ b, (vals 8) = .slice (some ⟨b, 0, none⟩) 1 1 := hphi 8 (by decide)
   generalize hu8 : vals 8 = u3 at f8
   rw [eS (l := [(1, dv), (8, u3)]) ⟨(hphi 1 (by decide)), hu8, trivial⟩]
   show XL _ _ _ _ _ _ _ (slH 2 1 u3 1 [.int .i64 ((ds.getD k 0) + 1)] :: slH 68 3 u2 1 [.int .i64 ((nx.getD q (0, 0, [])).1), .int .i64 ((nx.getD q (0, 0, [])).2.1), a2] :: slH 2 1 v9 1 [.int .i64 ((k : Int))] :: slH 24 1 u1 1 [a2] :: slH 24 1 v8 ((an) + 1) (acs ++ [a2]) :: intsH 2 v10 (fs ++ [(k : Int)]) :: slH 68 3 v13 ((cn) + 1) (ccs ++ [.int .i64 ((nx.getD q (0, 0, [])).1), .int .i64 ((nx.getD q (0, 0, [])).2.1), a2]) :: intsH 2 dv ds :: cellsH b3 [v8, v10, v13, dv, .bool (true)] 106 :: cellsH b2 [(.slice none 0 0), (.slice none 0 0), (.slice none 0 0), (.slice none 0 0), .bool (false)] 106 :: cellsH b1 [arv, rsv] 29 :: L)
   refine cX (XOp.append1 (u := (ds.getD k 0) + 1) [_, _, _, _, _, _, _] _ runUnderlying24 typeInfo2 rfl rfl rfl rfl rfl rfl (SlV.own [] rfl) (Rd.sl [] rfl rfl) (by (try simp only [List.length_append, List.length_nil, List.length_cons, List.length_singleton, List.length_take, List.length_drop]); omega) ?_)
   intro v16 hs5 hn4
   refine cX (XOp.fieldP (3) runUnderlying106 rfl sizeOf24 (by decide) rfl rfl (cX (XOp.store1 [_, _, _, _, _, _, _, _] _ [v8, v10, v13, v16, .bool (true)] sizeOf24 rfl rfl (one_sl hs5) rfl rfl rfl (XL.nil (X.region (XL.mv (.int .i64 ((q : Int))) rfl (cX (XOp.addR (((q + 1 : Nat) : Int)) rfl rfl (by omega) (by omega) (XL.as (.int .i64 (((q + 1 : Nat) : Int))) rfl (XL.nil ?_))))))))))
   exact ⟨(q + 1, os ++ [((nx.getD q (0, 0, [])).2.2, (k : Int), nx.getD q (0, 0, []), (EL os0 k).2.2.2 + 1)], v8, ts ++ [(nx.getD q (0, 0, [])).2.2], acs ++ [a2], (an) + 1, v10, fs ++ [(k : Int)], v13, bs ++ [((nx.getD q (0, 0, [])).1, (nx.getD q (0, 0, [])).2.1, (nx.getD q (0, 0, [])).2.2)], ccs ++ [.int .i64 ((nx.getD q (0, 0, [])).1), .int .i64 ((nx.getD q (0, 0, [])).2.1), a2], (cn) + 1, v16, ds ++ [(ds.getD k 0) + 1], G2), _, leG2, rF, ⟨rfl, rfl, rfl, rfl, rfl, rfl, rfl, trivial⟩, (sD (sD (sD (sD (sC (sC (sC (sC (sC (sC (sC sR))))))))))), ⟨rfl, leG2, (hs2), (hs3), (hs4), (hs5), (hc3), (hc4), (by (try dsimp only); rw [List.length_append, List.length_singleton]; omega), (by (try dsimp only); rw [List.length_append, List.length_singleton]; omega), (by (try dsimp only); rw [terms_snoc, htsi]), (by (try dsimp only); rw [froms_snoc, hfsi]), (by (try dsimp only); rw [bys_snoc, hbsi]), (by (try dsimp only); rw [deeps_snoc, ← hdsi, hdk9]), (by (try dsimp only); rw [List.length_append, List.length_singleton]; omega), (hoki.snoc (hnxo q (by omega))), (hdoi.snoc (by dsimp only; omega)), (by (try dsimp only) <;> omega), (by (try dsimp only); rw [List.length_append, List.length_singleton]; omega), (by (try dsimp only); rw [EL_snoc hkp]; exact hel), (by (try dsimp only); exact hgoi.trans (add_new (by omega) hnin (by omega)))⟩, (by omega)⟩
  refine X.exit (thenQ_exit (thenQ_exit (blockQ_exit (X.region (XL.mv (.int .i64 ((k : Int))) rfl (cX (XOp.addR (((k + 1 : Nat) : Int)) rfl rfl (by omega) (by omega) (XL.as (.int .i64 (((k + 1 : Nat) : Int))) rfl (XL.nil ?_)))))))))
  exact ⟨(k + 1, os, av, ts, acs, an, bv, fs, cv, bs, ccs, cn, dv, ds, G2), _, (FLe.trans (FLe.trans leG1 le2) leG2), rF, ⟨rfl, rfl, rfl, rfl, rfl, trivial⟩, (sC (sC (sC (sC (sC (sC (sC sR))))))), ⟨rfl, (FLe.trans (FLe.trans leG1 le2) leG2), (havi), (hbvi), (hcvi), (hdvi), (hAi), (hBi), (hani), (hcni), (htsi), (hfsi), (hbsi), (hdsi), (hli), (hoki), (hdoi), (by (try dsimp only); omega), (by (try dsimp only); have h9 := hgoi.trans (add_end (by omega)); have h8 := reach_more (ar := ar) (rs := rs) (n := n) (f := 60 - k - 1) hk70 (by omega) hdeep0 (by rw [hnx0, h9]); rw [hnx0, h9] at h8; exact hgo0.trans h8)⟩, (by (try dsimp only); omega)⟩
 refine X.exit (thenQ_exit (thenQ_exit (blockQ_exit (X.seq (X.region (cX (XOp.loadN [av, bv, cv, dv, .bool (true)] isAgg106 sizeOf106 rfl rfl (Rd.ownN [_, _, _, _] rfl rfl) (cX (XOp.storeN [_, _, _, _, _] _ [av, bv, cv, dv, .bool (true)] sizeOf106 rfl rfl rfl (ones_cons (one_sl hav) (ones_cons (one_sl hbv) (ones_cons (one_sl hcv) (ones_cons (one_sl hdv) (ones_cons rfl ones_nil))))) rfl rfl rfl (XL.nil (X.freezeF [] _ _ rfl (fun F8 le8 hz7 => ?_))))))))))))
 replace hA := hA.mono le8
 replace hB := hB.mono le8
 have hf7 : RowsF F8 av ts := CO.fz hA (by first | rfl | omega | (rw [List.length_set]; omega) | (simp; done)) hz7.fz
 refine X.freezeF [] _ _ rfl (fun F9 le9 hz8 => ?_)
 replace hB := hB.mono le9
 replace hf7 := hf7.mono le9
 have hf8 : IntsF F9 bv fs := intsH.fz (xs := fs) hz8.fz
 refine X.freezeF [] _ _ rfl (fun F10 le10 hz9 => ?_)
 replace hB := hB.mono le10
 replace hf7 := hf7.mono le10
 replace hf8 := hf8.mono le10
 have hf9 : StepsF F10 cv bs := CO.fz hB (by first | rfl | omega | (rw [List.length_set]; omega) | (simp; done)) hz9.fz
 refine X.freezeF [] _ _ rfl (fun F11 le11 hz10 => ?_)
 replace hf7 := hf7.mono le11
 replace hf8 := hf8.mono le11
 replace hf9 := hf9.mono le11
 have hf10 : IntsF F11 dv ds := intsH.fz (xs := ds) hz10.fz
 refine X.ret (retEnd (L' := L) [.agg #[av, bv, cv, dv, .bool (true)]] (.agg #[av, bv, cv, dv, .bool (true)]) (.cell rfl (loadNV [av, bv, cv, dv, .bool (true)] isAgg106 sizeOf106 rfl (Rd.ownN [_] rfl rfl)) .nil) rfl (FLe.trans (FLe.trans (FLe.trans (FLe.trans (FLe.trans le1 leG1) le8) le9) le10) le11) rF (sD (sD (sD sR))) ?_)
 have e9 : reachL ar rs t n = (os, true) := hgo.trans (reach_done (by omega) hl)
 rw [e9]
 exact ⟨_, _, _, _, rfl, by rw [← hts]; exact hf7, by rw [← hfs]; exact hf8, by rw [← hbs]; exact hf9, by rw [← hds]; exact hf10, rfl⟩

/- spec.l1CopyTerms -/
theorem l1CopyTerms_spec {F : FH} {L : List HP} {tsv : Value} {ts : List (List Int)} (hts : RowsF F tsv ts) (hlt : ts.length ≤ 4000000) (htb : ∀ i, i < ts.length → (ts.getD i []).length ≤ 4000000) :
    Does prog 69 [tsv] F (L) (fun v F' L' => ∃ (a : Value), (a : Value) = v ∧ (RowsF F' a ts) ∧ L = L') := by
 refine Does.of_X func69 rfl rfl rfl (X.seq (X.region (XL.as ((.slice none 0 0)) rfl (XL.nil (X.seq (X.region (cX (XOp.buildSlice (s := 1) [] [(.slice none 0 0)] [] runUnderlying47 sizeOf24 zeroValue24 rfl (by decide) rfl CellsAre.nil rfl ?_))))))))
 intro v1 hv1
 refine XL.as (v1) rfl (XL.nil (X.seq (X.seq (X.region (XL.as (.int .i64 (0)) rfl (XL.nil (X.block (X.loop (α := Nat × Value × RowL × List Value × FH) (fun xQ => [(0, tsv), (3, xQ.2.1), (4, .int .i64 (((xQ.1 : Nat) : Int)))]) (fun xQ => slH 24 1 xQ.2.1 xQ.1 xQ.2.2.2.1 :: L) (fun xQ F' => xQ.2.2.2.2 = F' ∧ F ≤ xQ.2.2.2.2 ∧ (IsSl xQ.2.1) ∧ (xQ.1 ≤ ts.length) ∧ (RowsC xQ.2.2.2.2 xQ.2.2.2.1 xQ.2.2.1) ∧ (xQ.2.2.1 = ts.take xQ.1)) (fun xQ => ts.length - xQ.1) (0, v1, [], [], F) ⟨rfl, rfl, rfl, trivial⟩ (sC sR) ⟨rfl, FLe.refl _, ((isSl_lit hv1)), (by (try dsimp only) <;> omega), (CO.nil), (rfl)⟩ ?_))))))))
 rintro ⟨k, ov, os, ocs, G1⟩ rE _ _ ⟨rfl, leG, hov, hk, hC, hos⟩
 show X _ _ _ _ (envs [(0, tsv), (3, ov), (4, .int .i64 ((k : Int)))] rE) _ (slH 24 1 ov k ocs :: L)
 replace leG : F ≤ G1 := leG
 dsimp only at hov hk hC hos
 have htbk := htb k
 have hol : os.length = k := by rw [hos, List.length_take]; omega
 have leG1 := leG
 replace hts := hts.mono leG1
 refine X.seq (X.seq (X.region (XL.mv (.int .i64 ((k : Int))) rfl (XL.mv (tsv) rfl (cX (XOp.lenS runUnderlying47 rfl hts.slv (cX (XOp.lss rfl rfl (XL.nil ?_)))))))))
 refine X.condD (p := (k : Int) < (ts.length : Int)) rfl (fun h1 => ?_) (fun h1 => ?_)
 ·refine X.skip (X.seq (X.block (X.region (XL.mv (ov) rfl (XL.mv (tsv) rfl (XL.mv (.int .i64 ((k : Int))) rfl (cX (XOp.indexS k runUnderlying47 sizeOf24 rfl rfl rfl hts.slv (by omega) (Nat.mul_one _) ?_))))))))
  obtain ⟨a1, ha1, hr1⟩ := hts.rd (i := k) (by omega)
  refine cX (XOp.load1 isAgg24 rfl (hr1 _) (cX (XOp.frzF <| XOp.call (args := [a1]) call52 rfl (l1Copy_spec ha1 (hlt := (htbk (by omega)))) ?_)))
  rintro v2 _ _ _ ⟨rfl, hs1, rfl⟩
  refine ⟨_, _, rfl, fun F1 le1 hz1 => ?_⟩
  replace hC := hC.mono le1
  have hf1 : IntsF F1 v2 ((((ts.getD k [])))) := intsH.fz (xs := (((ts.getD k [])))) hz1.fz
  refine cX (XOp.buildSlice (s := 1) [v2] [(.slice none 0 0)] [(0, [v2])] runUnderlying47 sizeOf24 zeroValue24 rfl (by decide) rfl (.cons (cells_one (IntsF.isSl hf1)) CellsAre.nil) rfl ?_)
  intro v3 hv2
  refine cX (XOp.append (m := 1) (bytes := 24) (cs := ocs) [_] _ [v2] runUnderlying47 typeInfo24 rfl rfl rfl rfl rfl rfl rfl (SlV.own [] rfl) rfl (Rd.lit [] rfl) (ones_cons (one_sl (IntsF.isSl hf1)) ones_nil) (by (try simp only [List.length_append, List.length_nil, List.length_cons, List.length_singleton]); omega) (by (try simp only [List.length_append, List.length_nil, List.length_cons, List.length_singleton]); omega) ?_)
  intro v4 hs2 hn1 hm1
  have hc1 := RowsC.snoc hC hf1
  refine XL.as (v4) rfl (XL.nil (X.region (XL.mv (.int .i64 ((k : Int))) rfl (cX (XOp.addR (((k + 1 : Nat) : Int)) rfl rfl (by omega) (by omega) (XL.as (.int .i64 (((k + 1 : Nat) : Int))) rfl (XL.nil ?_)))))))
  exact ⟨(k + 1, v4, os ++ [(((ts.getD k [])))], ocs ++ [v2], F1), _, (FLe.trans leG1 le1), rF, ⟨rfl, rfl, rfl, trivial⟩, (sD (sC sR)), ⟨rfl, (FLe.trans leG1 le1), (hs2), (by (try dsimp only) <;> omega), (hc1), (by (try dsimp only); rw [hos, take_succ_getD [] (by omega)])⟩, (by omega)⟩
 refine X.exit (thenQ_exit (thenQ_exit (blockQ_exit (X.seq (X.region (XL.mv (ov) rfl (XL.as (ov) rfl (XL.nil (X.freezeF [] _ _ rfl (fun F2 le2 hz2 => ?_))))))))))
 replace hC := hC.mono le2
 have hf2 : RowsF F2 ov os := CO.fz hC (by first | rfl | omega | (rw [List.length_set]; omega) | (simp; done)) hz2.fz
 refine X.ret (retEnd (L' := L) [ov] (ov) (.tmp rfl .nil) rfl (FLe.trans leG1 le2) rF sR ?_)
 have e1 : os = ts := by rw [hos, show k = ts.length from by omega, List.take_length]
 subst e1
 exact ⟨_, rfl, hf2, rfl⟩

/- spec.ReachOf -/
set_option maxRecDepth 20000 in
theorem sReachOf_spec {F : FH} {L : List HP} {arv : Value} {ar : List Int} (har : IntsF F arv ar) {rsv : Value} {rs : List (List Int × List Int)} (hrs : PairsF F rsv rs) {tv : Value} {t : List Int} (ht : IntsF F tv t) {n : Int} (hla : ar.length ≤ 4000000) (hlr : rs.length ≤ 4000000) (hrb : ∀ i, i < rs.length → (rs.getD i ([], [])).1.length ≤ 4000000 ∧ (rs.getD i ([], [])).2.length ≤ 4000000) (hlt : t.length ≤ 4000000) :
    Does prog 21 [.agg #[arv, rsv], tv, .int .i64 (n)] F (L) (fun v F' L' => ∃ (a : Value), (.tuple #[a, .bool ((reachF ar rs t n).2)] : Value) = v ∧ (RowsF F' a (terms (reachF ar rs t n).1)) ∧ L = L') := by
 refine Does.of_X func21 rfl rfl rfl (X.seq (X.region (cX (XOp.box [arv, rsv] rfl rfl ?_))))
 intro b1
 refine XL.as ((.slice none 0 0)) rfl (XL.as (.bool (false)) rfl (XL.nil (X.seq (X.seq (X.region (cX (XOp.loadN [arv, rsv] isAgg29 sizeOf29 rfl rfl (Rd.ownN [] rfl rfl) (XL.mv (tv) rfl (XL.mv (.int .i64 (n)) rfl (cX (XOp.call (args := [.agg #[arv, rsv], tv, .int .i64 (n)]) call67 rfl (l9Right_spec (n := n) har hrs ht (hla := (by first | assumption | rfl | omega | simp)) (hlr := (by first | assumption | rfl | omega | simp)) (hrb := (by first | assumption | rfl | omega | simp)) (hlt := (by first | assumption | rfl | omega | simp))) ?_)))))))))))
 rintro _ _ _ _ ⟨rfl, rfl, rfl⟩
 refine cX (XOp.notB rfl (XL.nil ?_))
 refine X.cond (t := !(reachOkL ar rs n [t])) rfl (fun h1 => ?_) (fun h1 => ?_)
 ·have hro : reachOkL ar rs n [t] = false := by simpa using h1
  refine X.seq (X.region (cX (XOp.buildSlice (s := 1) [] [(.slice none 0 0)] [] runUnderlying47 sizeOf24 zeroValue24 rfl (by decide) rfl CellsAre.nil rfl ?_)))
  intro v1 hv1
  refine XL.as (v1) rfl (XL.as (.bool (false)) rfl (XL.nil ?_))
  have hc1 : RowsC F [] ([] : List (List Int)) := (CO.nil : RowsC F [] [])
  refine X.freezeF [] _ _ rfl (fun F1 le1 hz1 => ?_)
  replace har := har.mono le1
  replace hrs := hrs.mono le1
  replace ht := ht.mono le1
  replace hc1 := hc1.mono le1
  have hf1 : RowsF F1 v1 (([] : List (List Int))) := CO.fz hc1 (by first | rfl | omega | (rw [List.length_set]; omega) | (simp; done)) hz1.fz
  refine X.ret (thenQ_ret (retEnd (L' := L) [v1, .bool (false)] (.tuple #[v1, .bool (false)]) (.tmp rfl (.tmp rfl .nil)) rfl le1 rF (sD sR) ?_))
  rw [reachF_no hro]
  exact ⟨_, rfl, hf1, rfl⟩
 have hro : reachOkL ar rs n [t] = true := by simpa using h1
 have hr3 := reachOk_iff.1 hro
 have hsys := hr3.1.1
 have ho := hr3.1.2
 have hro2 := reachL_ok (n := n) hsys ho
 have hro3 := hro2.1
 have htl5 : (terms (reachL ar rs t n).1).length ≤ 60 := by rw [terms_len]; exact hro3
 have htb5 : ∀ i, i < (terms (reachL ar rs t n).1).length → ((terms (reachL ar rs t n).1).getD i []).length ≤ 4000000 := fun i hi => by rw [terms_get]; rw [terms_len] at hi; have := termOk_len (hro2.2 i hi); omega
 refine X.skip (X.seq (X.region (cX (XOp.loadN [arv, rsv] isAgg29 sizeOf29 rfl rfl (Rd.ownN [] rfl rfl) (XL.mv (tv) rfl (XL.mv (.int .i64 (n)) rfl (cX (XOp.call (args := [.agg #[arv, rsv], tv, .int .i64 (n)]) call68 rfl (l9Find_spec (n := n) har hrs ht (hsys := (by first | assumption | rfl | omega | simp)) (ho := (by first | assumption | rfl | omega | simp)) (hn20 := (by first | assumption | rfl | omega | simp))) ?_))))))))
 rintro _ F2 _ le2 ⟨x1, x2, x3, x4, rfl, hr1, hr2, hr3, hr4, rfl⟩
 replace har := har.mono le2
 refine cX (XOp.alloc [(.slice none 0 0), (.slice none 0 0), (.slice none 0 0), (.slice none 0 0), .bool (false)] zeroValue106 rfl ?_)
 intro b2
 refine cX (XOp.storeN [] _ [x1, x2, x3, x4, .bool ((reachL ar rs t n).2)] sizeOf106 rfl rfl rfl (ones_cons (one_sl (RowsF.isSl hr1)) (ones_cons (one_sl (IntsF.isSl hr2)) (ones_cons (one_sl (StepsF.isSl hr3)) (ones_cons (one_sl (IntsF.isSl hr4)) (ones_cons rfl ones_nil))))) rfl rfl rfl (XL.nil (X.seq ?_)))
 refine X.drawG [cellsH b2 [x1, x2, x3, x4, .bool ((reachL ar rs t n).2)] 106, cellsH b1 [arv, rsv] 29] L 6 [[], [], [], [], [], [2]] [[], [0], [1], [], [3], [2]] [[], [], [], [], [], []] (phiG [fun FF us v => v = ptr b2 0, fun FF us v => v = x1, fun FF us v => ((v) : Value) = v ∧ (RowsF FF (v) (terms (reachL ar rs t n).1)), fun FF us v => v = ptr b2 4, fun FF us v => v = (.bool ((reachL ar rs t n).2) : Value), fun FF us v => v = ((us.getD 0 undef))]) (ownL [fun us v => [], fun us v => [], fun us v => [], fun us v => [], fun us v => [], fun us v => []]) mixed rfl rfl (by kernel_rfl) (by kernel_rfl) (MonoG.get (mC (fun le h => h) (mC (fun le h => h) (mC (fun le h => ⟨h.1, h.2.mono le⟩) (mC (fun le h => h) (mC (fun le h => h) (mC (fun le h => h) MonoG.nil))))))) ?_ ?_
 ·refine gC (fun vals Fs R leFs hpZ => ?_) ?_
  ·refine XG.op (XOp.fieldP (0) runUnderlying106 rfl sizeOf47 (by decide) rfl rfl ?_)
   exact ⟨rfl, rfl⟩
  refine gC (fun vals Fs R leFs hpZ => ?_) ?_
  ·replace har := har.mono leFs
   replace hr1 := hr1.mono leFs
   rw [eS (l := [(0, ptr b2 0)]) ⟨(hpZ 0 (by decide)), trivial⟩]
   refine XG.op (XOp.load1 isAgg47 rfl (Rd.own [] rfl rfl) ?_)
   exact ⟨rfl, rfl⟩
  refine gC (fun vals Fs R leFs hpZ => ?_) ?_
  ·replace har := har.mono leFs
   replace hr1 := hr1.mono leFs
   rw [eS (l := [(1, x1)]) ⟨(hpZ 1 (by decide)), trivial⟩]
   refine XG.op (XOp.call (args := [x1]) call69 rfl (l1CopyTerms_spec hr1 (hlt := (by omega)) (htb := (htb5))) ?_)
   rintro _ F4 _ le4 ⟨x6, rfl, hr6, rfl⟩
   replace har := har.mono le4
   exact ⟨⟨rfl, hr6⟩, rfl⟩
  refine gC (fun vals Fs R leFs hpZ => ?_) ?_
  ·refine XG.op (XOp.fieldP (4) runUnderlying106 rfl sizeOf4 (by decide) rfl rfl ?_)
   exact ⟨rfl, rfl⟩
  refine gC (fun vals Fs R leFs hpZ => ?_) ?_
  ·replace har := har.mono leFs
   rw [eS (l := [(3, ptr b2 4)]) ⟨(hpZ 3 (by decide)), trivial⟩]
   refine XG.op (XOp.load1 isAgg4 rfl (Rd.own [] rfl rfl) ?_)
   exact ⟨rfl, rfl⟩
  refine gC (fun vals Fs R leFs hpZ => ?_) ?_
  ·obtain ⟨e2, f2_1hr⟩ := hpZ 2 (by decide)
   rw [eS (l := [(2, ((vals 2)))]) ⟨(e2).symm, trivial⟩]
   refine XG.op (XOp.assign (((vals 2))) rfl ?_)
   exact ⟨rfl, rfl⟩
  exact stepsG.nil
 intro vals F5 le5 hphi
 obtain ⟨e2, f2_1hr⟩ := hphi 2 (by decide)
 have e5 : vals 5 = ((vals 2)) := hphi 5 (by decide)
 generalize hu1 : ((vals 2)) = u1 at e2 f2_1hr e5
 rw [eS (l := [(2, u1), (4, (.bool ((reachL ar rs t n).2) : Value)), (5, u1)]) ⟨hu1, (hphi 4 (by decide)), e5, trivial⟩]
 show XL _ _ _ _ _ _ _ (cellsH b2 [x1, x2, x3, x4, .bool ((reachL ar rs t n).2)] 106 :: cellsH b1 [arv, rsv] 29 :: L)
 refine XL.as (.bool ((reachL ar rs t n).2)) rfl (XL.nil (X.ret (retEnd (L' := L) [u1, .bool ((reachL ar rs t n).2)] (.tuple #[u1, .bool ((reachL ar rs t n).2)]) (.tmp rfl (.tmp rfl .nil)) rfl (FLe.trans le2 le5) rF (sD (sD sR)) ?_)))
 rw [reachF_yes hro]
 exact ⟨_, rfl, f2_1hr, rfl⟩
end Go.Proofs.YtmaaifhmhclhdaaGreat
set_option linter.unusedSimpArgs false
set_option linter.unusedVariables false
namespace Go.Proofs.YtmaaifhmhclhdaaGreat
open Go X M Tryz

/- impl.redexSteps -/
theorem redexSteps_spec {F : FH} {L : List HP} {arv : Value} {ar : List Int} (har : IntsF F arv ar) {rsv : Value} {rs : List (List Int × List Int)} (hrs : PairsF F rsv rs) {tv : Value} {t : List Int} (ht : IntsF F tv t) :
    Does prog 178 [.agg #[arv, rsv], tv] F (L) (fun v F' L' => ∃ (bt bs : Nat), (.func (.func 201) #[] #[ptr bt 0, ptr bs 0] : Value) = v ∧ FzC F' bt [tv] ∧ FzC F' bs [arv, rsv] ∧ L = L') := by
 refine Does.of_X func178 rfl rfl rfl (X.seq (X.region (cX (XOp.box [arv, rsv] rfl rfl ?_))))
 intro b1
 refine cX (XOp.box [tv] rfl (cells_one (IntsF.isSl ht)) ?_)
 intro b2
 refine XL.as (.nilFunc) rfl (XL.nil (X.seq (X.region (cX (XOp.makeFuncL [] [ptr b2 0, ptr b1 0] rfl rfl (XL.as (.func (.func 201) #[] #[ptr b2 0, ptr b1 0]) rfl (XL.nil (X.freeze [] _ _ rfl (fun F1 le1 hz1 => ?_)))))))))
 have hf1 : FzC F1 b2 [tv] := Fz.cells hz1
 refine X.freeze [] _ _ rfl (fun F2 le2 hz2 => ?_)
 replace hf1 := hf1.mono le2
 have hf2 : FzC F2 b1 [arv, rsv] := Fz.cells hz2
 refine X.ret (retEnd (L' := L) [.func (.func 201) #[] #[ptr b2 0, ptr b1 0]] (.func (.func 201) #[] #[ptr b2 0, ptr b1 0]) (.tmp rfl .nil) rfl (FLe.trans le1 le2) rF sR ?_)
 exact ⟨_, _, rfl, hf1, hf2, rfl⟩

/- impl.redexSteps$1 -/
theorem redexIt_spec {F : FH} {L : List HP} {l bo bl bt bs : Nat} {R : Loop} {arv : Value} {ar : List Int} (har : IntsF F arv ar) {rsv : Value} {rs : List (List Int × List Int)} (hrs : PairsF F rsv rs) {tv : Value} {t : List Int} (ht : IntsF F tv t) (hbt : FzC F bt [tv]) (hbs : FzC F bs [arv, rsv]) (hsys : sysOk ar rs = true) (ho : termOk ar t = true) (hyes : ∀ (Fy : FH) (sv : Value) (ss : List StepT) (cs : List Value) (m : Nat) (lb : Bool) (i j : Int) (tov : Value) (to : List Int), F ≤ Fy → IsSl sv → StepsC Fy cs ss → m = ss.length → ss.length ≤ 4000000 → IntsF Fy tov to → Yld prog l [.agg #[.int .i64 i, .int .i64 j, tov], .bool true] Fy (objH l (.loop R) :: cellsH bo [sv] 32 :: slH 68 3 sv m cs :: cellsH bl [.bool (lb)] 4 :: L) (fun v F' L' => .bool true = v ∧ Fy = F' ∧ ∃ sw, IsSl sw ∧ objH l (.loop R) :: cellsH bo [sw] 32 :: slH 68 3 sw (m + 1) (cs ++ [.int .i64 i, .int .i64 j, tov]) :: cellsH bl [.bool (lb)] 4 :: L = L')) (hno : ∀ (Fy : FH) (sv : Value) (cs : List Value) (m : Nat) (lb : Bool) (i j : Int) (tov : Value), F ≤ Fy → IsSl sv → IsSl tov → Yld prog l [.agg #[.int .i64 i, .int .i64 j, tov], .bool false] Fy (objH l (.loop R) :: cellsH bo [sv] 32 :: slH 68 3 sv m cs :: cellsH bl [.bool (lb)] 4 :: L) (fun v F' L' => .bool true = v ∧ Fy = F' ∧ objH l (.loop R) :: cellsH bo [sv] 32 :: slH 68 3 sv m cs :: cellsH bl [.bool (true)] 4 :: L = L')) :
    Does prog 201 [(.func (.yield l) #[] #[]), ptr bt 0, ptr bs 0] F (objH l (.loop R) :: cellsH bo [(.slice none 0 0)] 32 :: cellsH bl [.bool (false)] 4 :: L) (fun v F' L' => ∃ (sv : Value) (cs : List Value) (Ls : List HP), IsSl sv ∧ StepsC F' cs (stepsL ar rs t) ∧ DeepL 3 (StepO 2) cs (stepsL ar rs t) Ls ∧ Fresh F F' (star Ls) ∧ objH l (.loop R) :: cellsH bo [sv] 32 :: slH 68 3 sv ((stepsL ar rs t).length) cs :: cellsH bl [.bool (longL ar rs t)] 4 :: L = L') := by
 refine Does.of_X func201 rfl rfl rfl ?_
 have hnn := notNil_of_pos ht (by have := termOk_len ho; omega)
 have htl := termOk_len ho
 have hrl := (sysOk_iff.1 hsys).2.1
 have hsig := (sysOk_iff.1 hsys).1
 have hsl := sigOk_spec hsig
 refine X.seq (X.region (cX (XOp.load1 isAgg24 rfl (FzC.rd1 hbt rfl) (cX (XOp.lenS runUnderlying24 rfl ht.slv (XL.mv (.int .i64 (0)) rfl (XL.nil (X.block (X.loop (α := Nat × Value × List StepT × List Value × List HP × Nat × Bool × FH) (fun xQ => [(0, (.func (.yield l) #[] #[])), (1, ptr bt 0), (2, ptr bs 0), (9, tv), (10, .int .i64 ((t.length : Int))), (11, .int .i64 (((xQ.1 : Nat) : Int)))]) (fun xQ => slH 68 3 xQ.2.1 xQ.2.2.2.2.2.1 xQ.2.2.2.1 :: objH l (.loop R) :: cellsH bo [xQ.2.1] 32 :: cellsH bl [.bool (xQ.2.2.2.2.2.2.1)] 4 :: L) (fun xQ F' => xQ.2.2.2.2.2.2.2 = F' ∧ F ≤ xQ.2.2.2.2.2.2.2 ∧ (xQ.1 ≤ t.length) ∧ (IsSl xQ.2.1) ∧ (StepsC xQ.2.2.2.2.2.2.2 xQ.2.2.2.1 xQ.2.2.1) ∧ (xQ.2.2.2.2.2.1 = xQ.2.2.1.length) ∧ (DeepL 3 (StepO 2) xQ.2.2.2.1 xQ.2.2.1 xQ.2.2.2.2.1) ∧ (Fresh F xQ.2.2.2.2.2.2.2 (star xQ.2.2.2.2.1)) ∧ (xQ.2.2.1 = stepsTo ar rs t xQ.1) ∧ (xQ.2.2.2.2.2.2.1 = longTo ar rs t xQ.1)) (fun xQ => t.length - xQ.1) (0, (.slice none 0 0), [], [], [], 0, false, F) ⟨rfl, rfl, rfl, rfl, rfl, rfl, trivial⟩ (Sub.trans (Sub.addNil 68 3 _ _) (sC (sC (sC (sC sR))))) ⟨rfl, FLe.refl _, (by (try dsimp only) <;> omega), (⟨_, _, _, rfl⟩), (CO.nil), (rfl), (DeepL.nil), (Fresh.nilL), (rfl), (rfl)⟩ ?_)))))))))
 rintro ⟨k, sv, ss, cs, Ls, m, lb, G1⟩ rE _ _ ⟨rfl, leG, hk, hsv, hC, hm, hD, hZ, hss, hlb⟩
 show X _ _ _ _ (envs [(0, (.func (.yield l) #[] #[])), (1, ptr bt 0), (2, ptr bs 0), (9, tv), (10, .int .i64 ((t.length : Int))), (11, .int .i64 ((k : Int)))] rE) _ (slH 68 3 sv m cs :: objH l (.loop R) :: cellsH bo [sv] 32 :: cellsH bl [.bool (lb)] 4 :: L)
 replace leG : F ≤ G1 := leG
 dsimp only at hk hsv hC hm hD hZ hss hlb
 have hsl1 := stepsTo_len (ar := ar) (t := t) (rs := rs) hrl k
 have hZo := hZ
 have hss0 := hss
 have hlb0 := hlb
 have leG1 := leG
 replace har := har.mono leG1
 replace hrs := hrs.mono leG1
 replace ht := ht.mono leG1
 replace hbt := hbt.mono leG1
 replace hbs := hbs.mono leG1
 refine X.seq (X.region (cX (XOp.lss rfl rfl (XL.nil (X.seq ?_)))))
 refine X.condD (p := (k : Int) < (t.length : Int)) rfl (fun h1 => ?_) (fun h1 => ?_)
 ·refine X.skip (X.seq (X.block (X.seq (X.region (XL.mv (.int .i64 ((k : Int))) rfl (cX (XOp.indexS k runUnderlying24 sizeOf2 rfl rfl rfl ht.slv (by omega) (Nat.mul_one _) (cX (XOp.load1 isAgg2 rfl (ht.rd (by omega)) (XL.as (.int .i64 ((k : Int))) rfl (XL.as (.int .i64 (t.getD k 0)) rfl (XL.nil (X.seq (X.region (cX (XOp.fieldP (1) runUnderlying29 rfl sizeOf27 (by decide) rfl rfl (cX (XOp.load1 isAgg27 rfl (FzC.rd1 hbs rfl) (cX (XOp.lenS runUnderlying27 rfl hrs.slv ?_))))))))))))))))))))
  refine XL.mv (.int .i64 (0)) rfl (XL.nil (X.block (X.loop (α := Nat × Value × List StepT × List Value × List HP × Nat × Bool × FH) (fun xQ => [(0, (.func (.yield l) #[] #[])), (1, ptr bt 0), (2, ptr bs 0), (4, .int .i64 ((k : Int))), (5, .int .i64 (t.getD k 0)), (9, tv), (10, .int .i64 ((t.length : Int))), (11, .int .i64 ((k : Int))), (18, .int .i64 ((rs.length : Int))), (19, .int .i64 (((xQ.1 : Nat) : Int)))]) (fun xQ => slH 68 3 xQ.2.1 xQ.2.2.2.2.2.1 xQ.2.2.2.1 :: objH l (.loop R) :: cellsH bo [xQ.2.1] 32 :: cellsH bl [.bool (xQ.2.2.2.2.2.2.1)] 4 :: L) (fun xQ F' => xQ.2.2.2.2.2.2.2 = F' ∧ G1 ≤ xQ.2.2.2.2.2.2.2 ∧ (xQ.1 ≤ rs.length) ∧ (IsSl xQ.2.1) ∧ (StepsC xQ.2.2.2.2.2.2.2 xQ.2.2.2.1 xQ.2.2.1) ∧ (xQ.2.2.2.2.2.1 = xQ.2.2.1.length) ∧ (DeepL 3 (StepO 2) xQ.2.2.2.1 xQ.2.2.1 xQ.2.2.2.2.1) ∧ (Fresh F xQ.2.2.2.2.2.2.2 (star xQ.2.2.2.2.1)) ∧ (xQ.2.2.1 = stepsTo ar rs t k ++ stepsRow ar rs t k xQ.1) ∧ (xQ.2.2.2.2.2.2.1 = (longTo ar rs t k || longRow ar rs t k xQ.1))) (fun xQ => rs.length - xQ.1) (0, sv, ss, cs, Ls, m, lb, G1) ⟨rfl, rfl, rfl, rfl, rfl, rfl, rfl, rfl, rfl, rfl, trivial⟩ (sC (sC (sC (sC sR)))) ⟨rfl, FLe.refl _, (by (try dsimp only) <;> omega), (hsv), (hC), (hm), (hD), (hZ), (by (try dsimp only); rw [hss0]; simp [stepsRow]), (by (try dsimp only); rw [hlb0]; simp [longRow])⟩ ?_)))
  rintro ⟨r, sv, ss, cs, Ls, m, lb, G2⟩ rE _ _ ⟨rfl, leG, hr, hsvi, hCi, hmi, hDi, hZi, hssi, hlbi⟩
  show X _ _ _ _ (envs [(0, (.func (.yield l) #[] #[])), (1, ptr bt 0), (2, ptr bs 0), (4, .int .i64 ((k : Int))), (5, .int .i64 (t.getD k 0)), (9, tv), (10, .int .i64 ((t.length : Int))), (11, .int .i64 ((k : Int))), (18, .int .i64 ((rs.length : Int))), (19, .int .i64 ((r : Int)))] rE) _ (slH 68 3 sv m cs :: objH l (.loop R) :: cellsH bo [sv] 32 :: cellsH bl [.bool (lb)] 4 :: L)
  replace leG : G1 ≤ G2 := leG
  dsimp only at hr hsvi hCi hmi hDi hZi hssi hlbi
  have hsl2 := stepsRow_len (ar := ar) (rs := rs) (t := t) (p := k) r
  have hssl : ss.length ≤ 1000 := by rw [hssi, List.length_append]; omega
  have leG2 := leG
  replace har := har.mono leG2
  replace hrs := hrs.mono leG2
  replace ht := ht.mono leG2
  replace hbt := hbt.mono leG2
  replace hbs := hbs.mono leG2
  replace hC := hC.mono leG2
  refine X.seq (X.region (cX (XOp.lss rfl rfl (XL.nil (X.seq ?_)))))
  refine X.condD (p := (r : Int) < (rs.length : Int)) rfl (fun h2 => ?_) (fun h2 => ?_)
  ·refine X.skip (X.seq (X.block (X.seq (X.region (XL.mv (.int .i64 ((r : Int))) rfl (XL.as (.int .i64 ((r : Int))) rfl (XL.nil (X.seq (X.seq (X.region (XL.mv (.int .i64 (t.getD k 0)) rfl (cX (XOp.lss rfl rfl (XL.mv (.bool (decide ((t.getD k 0 : Int) < 0))) rfl ?_))))))))))))))
   by_cases h3 : (t.getD k 0 : Int) < 0
   ·have hone := one_none (isRedex_var (p := k) (r := r) hsys ho (by omega) (by omega) (show r < rs.length by omega))
    refine XL.no (t := 24) rfl (vT h3) (XL.no (t := 24) rfl (vT h3) (XL.no (t := 24) rfl (vT h3) (XL.no (t := 24) rfl (vT h3) (XL.no (t := 24) rfl (vT h3) (XL.no (t := 24) rfl (vT h3) (cX (XOp.pickT (.bool (true)) (vT h3) rfl (XL.nil (X.condT rfl (X.exit (thenQ_exit (blockQ_exit ?_))))))))))))
    refine X.region (cX (XOp.addR (((r + 1 : Nat) : Int)) rfl rfl (by omega) (by omega) (XL.mv (.int .i64 (((r + 1 : Nat) : Int))) rfl (XL.nil ?_))))
    exact ⟨(r + 1, sv, ss, cs, Ls, m, lb, G2), _, leG2, rF, ⟨rfl, rfl, rfl, rfl, rfl, rfl, rfl, rfl, rfl, rfl, trivial⟩, (sC (sC (sC (sC sR)))), ⟨rfl, leG2, (by (try dsimp only) <;> omega), (hsvi), (hCi), (by (try dsimp only); (try rw [List.length_append, List.length_singleton]); omega), (hDi), (hZi), (by (try dsimp only); rw [hssi, stepsRow_succ, hone.1]; simp), (by (try dsimp only); rw [longRow_succ, hone.2]; (try rw [hlbi]); simp)⟩, (by omega)⟩
   refine XL.yes (t := 24) rfl (vF h3) (XOp.loadN [arv, rsv] isAgg29 sizeOf29 rfl rfl (FzC.rd hbs rfl) (XL.yes (t := 24) rfl (vF h3) (XOp.load1 isAgg24 rfl (FzC.rd1 hbt rfl) (XL.yes (t := 24) rfl (vF h3) (XOp.move (.int .i64 ((k : Int))) rfl (XL.yes (t := 24) rfl (vF h3) (XOp.move (.int .i64 ((r : Int))) rfl (XL.yes (t := 24) rfl (vF h3) (XOp.call (args := [.agg #[arv, rsv], tv, .int .i64 (k : Int), .int .i64 (r : Int)]) call165 rfl (redex_spec (p := k) (r := r) har hrs ht (hsys := (by first | assumption | rfl | omega | simp)) (ho := (by first | assumption | rfl | omega | simp)) (hp := (by first | assumption | rfl | omega | simp)) (hr := (by first | assumption | rfl | omega | simp))) ?_)))))))))
   rintro _ _ _ _ ⟨rfl, rfl, rfl⟩
   refine XL.yes (t := 24) rfl (vF h3) (XOp.notB rfl (cX (XOp.pickF (.bool (!(isRedex ar rs t k r))) (vF h3) rfl (XL.nil ?_))))
   refine X.cond (t := !(isRedex ar rs t k r)) rfl (fun h4 => ?_) (fun h4 => ?_)
   ·have hone := one_none (show isRedex ar rs t k r = false by simpa using h4)
    refine X.exit (thenQ_exit (blockQ_exit (X.region (cX (XOp.addR (((r + 1 : Nat) : Int)) rfl rfl (by omega) (by omega) (XL.mv (.int .i64 (((r + 1 : Nat) : Int))) rfl (XL.nil ?_)))))))
    exact ⟨(r + 1, sv, ss, cs, Ls, m, lb, G2), _, leG2, rF, ⟨rfl, rfl, rfl, rfl, rfl, rfl, rfl, rfl, rfl, rfl, trivial⟩, (sC (sC (sC (sC sR)))), ⟨rfl, leG2, (by (try dsimp only) <;> omega), (hsvi), (hCi), (by (try dsimp only); (try rw [List.length_append, List.length_singleton]); omega), (hDi), (hZi), (by (try dsimp only); rw [hssi, stepsRow_succ, hone.1]; simp), (by (try dsimp only); rw [longRow_succ, hone.2]; (try rw [hlbi]); simp)⟩, (by omega)⟩
   have hrx : isRedex ar rs t k r = true := by simpa using h4
   refine X.skip (X.seq (X.region (cX (XOp.loadN [arv, rsv] isAgg29 sizeOf29 rfl rfl (FzC.rd hbs rfl) (cX (XOp.load1 isAgg24 rfl (FzC.rd1 hbt rfl) (XL.mv (.int .i64 ((k : Int))) rfl (XL.mv (.int .i64 ((r : Int))) rfl (cX (XOp.call (args := [.agg #[arv, rsv], tv, .int .i64 (k : Int), .int .i64 (r : Int)]) call106 rfl (step_spec (p := k) (r := r) har hrs ht (hsys := (by first | assumption | rfl | omega | simp)) (ho := (by first | assumption | rfl | omega | simp)) (hp := (by first | assumption | rfl | omega | simp)) (hr := (by first | assumption | rfl | omega | simp))) ?_))))))))))
   rintro _ F1 _ le1 ⟨x1, rfl, hr1, hr2, hr3, rfl⟩
   replace hC := hC.mono le1
   replace hCi := hCi.mono le1
   refine XL.mv (.tuple #[x1, .bool ((stepL ar rs t k r).isSome)]) rfl (cX (XOp.extract (x1) rfl rfl (cX (XOp.extract (.bool ((stepL ar rs t k r).isSome)) rfl rfl (XL.as (x1) rfl (XL.as (.bool ((stepL ar rs t k r).isSome)) rfl (XL.nil (X.seq (X.ofI (by kernel_rfl) (XI.region (XIL.cons (XOp.move ((.func (.yield l) #[] #[])) rfl (XIL.cons (XOp.move (.int .i64 ((k : Int))) rfl ?_))))))))))))))
   refine XIL.cons (XOp.move (.int .i64 ((r : Int))) rfl (XIL.cons (XOp.move (x1) rfl (XIL.cons (XOp.build [.int .i64 ((k : Int)), .int .i64 ((r : Int)), x1] [.int .i64 (0), .int .i64 (0), (.slice none 0 0)] [(0, 1), (1, 1), (2, 1)] [(0, [.int .i64 ((k : Int))]), (1, [.int .i64 ((r : Int))]), (2, [x1])] runUnderlying68 zeroValue68 rfl (.cons rfl sizeOf2 (.cons rfl sizeOf2 (.cons rfl sizeOf24 PlacesAre.nil))) rfl (.cons rfl (.cons rfl (.cons (cells_one (IntsF.isSl hr1)) CellsAre.nil))) (XIL.cons (XOp.move (.bool ((stepL ar rs t k r).isSome)) rfl ?_)))))))
   by_cases h5 : ((stepL ar rs t k r).isSome) = true
   ·refine XIL.yield (k := l) (args := [.agg #[.int .i64 ((k : Int)), .int .i64 ((r : Int)), x1], .bool true]) rfl (by rw [← h5]; rfl) (Yld.weaken (Sub.trans (Sub.front (A := [_, _, _])) (Sub.trans (Sub.front (A := [_])) (Sub.trans (Sub.front (A := [_, _, _])) (Sub.trans (Sub.front (A := [_, _, _])) (sC (sC (sC (sC sR)))))))) ?_)
    have hone := one_some h5
    refine (hyes _ _ _ _ _ _ _ _ _ _ (FLe.trans (FLe.trans leG1 leG2) le1) hsvi hCi hmi (by omega) hr1).mono ?_
    rintro _ _ _ _ ⟨rfl, rfl, sw1, hs1, rfl⟩
    have hc1 := StepsC.snoc hCi (i := (k : Int)) (j := (r : Int)) hr1
    show XIL _ _ _ _ _ _ _ _ _ (objH l (.loop R) :: cellsH bo [sw1] 32 :: slH 68 3 sw1 (m + 1) ((cs ++ [.int .i64 ((k : Int)), .int .i64 ((r : Int)), x1])) :: cellsH bl [.bool (lb)] 4 :: L)
    refine XIL.cons (XOp.notB rfl (XIL.nil (X.condF rfl (X.skip (X.region (cX (XOp.addR (((r + 1 : Nat) : Int)) rfl rfl (by omega) (by omega) (XL.mv (.int .i64 (((r + 1 : Nat) : Int))) rfl (XL.nil ?_)))))))))
    exact ⟨(r + 1, sw1, (ss ++ [((k : Int), (r : Int), (stepL ar rs t k r).getD [])]), (cs ++ [.int .i64 ((k : Int)), .int .i64 ((r : Int)), x1]), Ls ++ [intsH 2 x1 ((stepL ar rs t k r).getD [])], m + 1, lb, F1), _, (FLe.trans leG2 le1), rF, ⟨rfl, rfl, rfl, rfl, rfl, rfl, rfl, rfl, rfl, rfl, trivial⟩, (Sub.trans (Sub.front (A := [_, _, _])) (Sub.trans (Sub.front (A := [_, _])) (Sub.trans (Sub.front (A := [_, _])) (Sub.trans (Sub.front (A := [_, _, _])) (sC (sC (sC (sC sR)))))))), ⟨rfl, (FLe.trans leG2 le1), (by (try dsimp only) <;> omega), (hs1), (hc1), (by (try dsimp only); (try rw [List.length_append, List.length_singleton]); omega), (DeepL.snoc hDi rfl ⟨_, rfl, rfl⟩), ((Fresh.app hZi (FLe.trans leG1 leG2) (Fresh.one hr3) le1)), (by (try dsimp only); rw [hssi, stepsRow_succ, hone.1]; simp), (by (try dsimp only); rw [longRow_succ, hone.2]; (try rw [hlbi]); simp)⟩, (by omega)⟩
   rw [Bool.not_eq_true] at h5
   refine XIL.yield (k := l) (args := [.agg #[.int .i64 ((k : Int)), .int .i64 ((r : Int)), x1], .bool false]) rfl (by rw [← h5]; rfl) (Yld.weaken (Sub.trans (Sub.front (A := [_, _, _])) (Sub.trans (Sub.front (A := [_])) (Sub.trans (Sub.front (A := [_, _, _])) (Sub.trans (Sub.front (A := [_, _, _])) (sC (sC (sC (sC sR)))))))) ?_)
   have hone := one_long hrx h5
   refine (hno _ _ _ _ _ _ _ _ (FLe.trans (FLe.trans leG1 leG2) le1) hsvi (IntsF.isSl hr1)).mono ?_
   rintro _ _ _ _ ⟨rfl, rfl, rfl⟩
   show XIL _ _ _ _ _ _ _ _ _ (objH l (.loop R) :: cellsH bo [sv] 32 :: slH 68 3 sv m cs :: cellsH bl [.bool (true)] 4 :: L)
   refine XIL.cons (XOp.notB rfl (XIL.nil (X.condF rfl (X.skip (X.region (cX (XOp.addR (((r + 1 : Nat) : Int)) rfl rfl (by omega) (by omega) (XL.mv (.int .i64 (((r + 1 : Nat) : Int))) rfl (XL.nil ?_)))))))))
   exact ⟨(r + 1, sv, ss, cs, Ls, m, true, F1), _, (FLe.trans leG2 le1), rF, ⟨rfl, rfl, rfl, rfl, rfl, rfl, rfl, rfl, rfl, rfl, trivial⟩, (Sub.trans (Sub.front (A := [_, _, _])) (Sub.trans (Sub.front (A := [_, _])) (Sub.trans (Sub.front (A := [_, _])) (Sub.trans (Sub.front (A := [_, _, _])) (sC (sC (sC (sC sR)))))))), ⟨rfl, (FLe.trans leG2 le1), (by (try dsimp only) <;> omega), (hsvi), (hCi), (by (try dsimp only); (try rw [List.length_append, List.length_singleton]); omega), (hDi), ((hZi.mono le1)), (by (try dsimp only); rw [hssi, stepsRow_succ, hone.1]; simp), (by (try dsimp only); rw [longRow_succ, hone.2]; (try rw [hlbi]); simp)⟩, (by omega)⟩
  refine X.exit (thenQ_exit (thenQ_exit (blockQ_exit (X.region (cX (XOp.addR (((k + 1 : Nat) : Int)) rfl rfl (by omega) (by omega) (XL.mv (.int .i64 (((k + 1 : Nat) : Int))) rfl (XL.nil ?_))))))))
  exact ⟨(k + 1, sv, ss, cs, Ls, m, lb, G2), _, (FLe.trans leG1 leG2), rF, ⟨rfl, rfl, rfl, rfl, rfl, rfl, trivial⟩, (sC (sC (sC (sC sR)))), ⟨rfl, (FLe.trans leG1 leG2), (by (try dsimp only) <;> omega), (hsvi), (hCi), (hmi), (hDi), (hZi), (by dsimp only; rw [hssi, stepsTo_succ, show r = rs.length from by omega]), (by dsimp only; rw [hlbi, longTo_succ, show r = rs.length from by omega])⟩, (by omega)⟩
 refine X.exit (thenQ_exit (thenQ_exit (blockQ_exit (id (retEndN (L' := objH l (.loop R) :: cellsH bo [sv] 32 :: slH 68 3 sv m cs :: cellsH bl [.bool (lb)] 4 :: L) [] (.tuple #[]) (by exact .nil) rfl leG1 rF (Sub.trans (Sub.front (A := [_, _, _])) (Sub.trans (Sub.front (A := [_])) (Sub.trans (Sub.front (A := [_, _, _])) (Sub.trans (Sub.front (A := [_, _, _])) (sC (sC (sC (sC sR)))))))) ?_)))))
 have hkl : k = t.length := by omega
 have e1 : stepsL ar rs t = ss := by rw [hss, hkl]; rfl
 have e2 : longL ar rs t = lb := by rw [hlb, hkl]; rfl
 rw [e1, e2]
 subst hm
 exact ⟨sv, cs, Ls, hsv, hC, hD, hZ, rfl⟩

/- impl.stepsFrom -/
set_option maxRecDepth 20000 in
theorem stepsFrom_spec {F : FH} {L : List HP} {arv : Value} {ar : List Int} (har : IntsF F arv ar) {rsv : Value} {rs : List (List Int × List Int)} (hrs : PairsF F rsv rs) {tv : Value} {t : List Int} (ht : IntsF F tv t) (hsys : sysOk ar rs = true) (ho : termOk ar t = true) :
    Does prog 123 [.agg #[arv, rsv], tv] F (L) (fun v F' L' => ∃ (a : Value), (.tuple #[a, .bool (longL ar rs t)] : Value) = v ∧ FrStepsF F F' 2 a (stepsL ar rs t) ∧ L = L') := by
 refine Does.of_XF func123 rfl (by kernel_rfl) rfl ?_
 have hnn := notNil_of_pos ht (by have := termOk_len ho; omega)
 have htl := termOk_len ho
 have hrl := (sysOk_iff.1 hsys).2.1
 have hsig := (sysOk_iff.1 hsys).1
 have hsl := sigOk_spec hsig
 refine XF.seq (X.region (cX (XOp.box [arv, rsv] rfl rfl ?_)))
 intro b1
 refine XL.as ((.slice none 0 0)) rfl (XL.as (.bool (false)) rfl (XL.nil (XF.seq (X.region (cX (XOp.alloc [(.slice none 0 0)] zeroValue32 rfl ?_))))))
 intro b2
 refine XL.nil (XF.seq (X.region (cX (XOp.alloc [.bool (false)] zeroValue4 rfl ?_))))
 intro b3
 refine cX (XOp.store1 [] _ [.bool (false)] sizeOf4 rfl rfl rfl rfl rfl rfl (XL.nil (XF.ofR (XR.seq (X.region (cX (XOp.loadN [arv, rsv] isAgg29 sizeOf29 rfl rfl (Rd.ownN [_, _] rfl rfl) (XL.mv (tv) rfl (cX (XOp.call (args := [.agg #[arv, rsv], tv]) call178 rfl (redexSteps_spec har hrs ht) ?_))))))))))
 rintro _ F1 _ le1 ⟨x1, x2, rfl, hb1, hb2, rfl⟩
 replace har := har.mono le1
 replace hrs := hrs.mono le1
 replace ht := ht.mono le1
 refine XL.nil (XR.rangeB (gf := 201) (lb := [ptr x1 0, ptr x2 0]) rfl call201 (fun l D R hRs hRp hRps hRa hRb hRz hRg => ?_))
 have hR0 : ({ R with state := .ready, pending := none } : Loop) = R := by
  cases R
  simp only at hRs hRp
  subst hRs hRp
  rfl
 have hyes : ∀ (Fy : FH) (sv : Value) (ss : List StepT) (cs : List Value) (m : Nat) (lb : Bool) (i j : Int) (tov : Value) (to : List Int), F1 ≤ Fy → IsSl sv → StepsC Fy cs ss → m = ss.length → ss.length ≤ 4000000 → IntsF Fy tov to → Yld prog l [.agg #[.int .i64 i, .int .i64 j, tov], .bool true] Fy (objH l (.loop R) :: cellsH b2 [sv] 32 :: slH 68 3 sv m cs :: cellsH b3 [.bool (lb)] 4 :: objH D (.deferred (some [])) :: L) (fun v F' L' => .bool true = v ∧ Fy = F' ∧ ∃ sw, IsSl sw ∧ objH l (.loop R) :: cellsH b2 [sw] 32 :: slH 68 3 sw (m + 1) (cs ++ [.int .i64 i, .int .i64 j, tov]) :: cellsH b3 [.bool (lb)] 4 :: objH D (.deferred (some [])) :: L = L') := by
  intro Fy sv ss cs m lb i j tov to leF hsv hC hm hsb hto
  refine Yld.of_round hRs hRp hRps hRa hRb hRz hRg rfl (by kernel_rfl) (by kernel_rfl) (by kernel_rfl) (XI.slots [(13, .agg #[.int .i64 (i), .int .i64 (j), tov]), (14, .bool (true)), (6, ptr b2 0), (7, ptr b3 0)] ⟨rfl, rfl, rfl, rfl, trivial⟩ (fun rE => (XI.seq (XI.region (XIL.cons (XOp.alloc [.int .i64 (0), .int .i64 (0), (.slice none 0 0)] zeroValue68 rfl ?_))))))
  intro b4
  refine XIL.cons (XOp.storeN [] _ [.int .i64 (i), .int .i64 (j), tov] sizeOf68 rfl rfl rfl (ones_cons rfl (ones_cons rfl (ones_cons (one_sl (IntsF.isSl hto)) ones_nil))) rfl rfl rfl (XIL.nil (XI.region (XIL.cons (XOp.assign (.bool (true)) rfl (XIL.nil ?_))))))
  refine ⟨cellsH b4 [.int .i64 (i), .int .i64 (j), tov] 68 :: cellsH b2 [sv] 32 :: slH 68 3 sv m cs :: cellsH b3 [.bool (lb)] 4 :: objH D (.deferred (some [])) :: L, (Sub.trans (Sub.front (A := [_, _, _, _])) (Sub.trans (Sub.front (A := [_, _, _, _])) (Sub.trans (Sub.front (A := [_, _, _, _])) (Sub.trans (Sub.front (A := [_, _, _])) (Sub.trans (Sub.front (A := [_, _, _, _])) (sC (sC (sC (sC (sC sR)))))))))), ?_⟩
  refine XI.block (XI.seq (XI.region (XIL.cons (XOp.move (.bool (true)) rfl (XIL.nil (XI.condT rfl (XI.region (XIL.cons (XOp.load1 isAgg32 rfl (Rd.own [_, _] rfl rfl) (XIL.cons (XOp.loadN [.int .i64 (i), .int .i64 (j), tov] isAgg68 sizeOf68 rfl rfl (Rd.ownN [_] rfl rfl) (XIL.cons (XOp.buildSlice (s := 3) [.int .i64 (i), .int .i64 (j), tov] [.int .i64 (0), .int .i64 (0), (.slice none 0 0)] [(0, [.int .i64 (i), .int .i64 (j), tov])] runUnderlying32 sizeOf68 zeroValue68 rfl (by decide) rfl (.cons rfl CellsAre.nil) rfl ?_)))))))))))))
  intro v1 hv1
  refine XIL.cons (XOp.append (m := 1) (bytes := 40) (cs := cs) [_, _, _, _] _ [.int .i64 (i), .int .i64 (j), tov] runUnderlying32 typeInfo68 rfl rfl rfl rfl rfl rfl rfl (SlV.own [] rfl) rfl (Rd.lit [] rfl) (ones_cons rfl (ones_cons rfl (ones_cons (one_sl (IntsF.isSl hto)) ones_nil))) (by (try simp only [List.length_append, List.length_nil, List.length_cons, List.length_singleton]); omega) (by (try simp only [List.length_append, List.length_nil, List.length_cons, List.length_singleton]); omega) ?_)
  intro v2 hs1 hn1 hm1
  have hc1 := StepsC.snoc hC (i := i) (j := j) hto
  refine XIL.cons (XOp.store1 [_, _, _] _ [v2] sizeOf32 rfl rfl (one_sl hs1) rfl rfl rfl (XIL.nil ?_))
  refine ⟨rfl, ?_⟩
  refine ⟨cellsH b2 [v2] 32 :: slH 68 3 v2 ((m) + 1) (cs ++ [.int .i64 (i), .int .i64 (j), tov]) :: cellsH b3 [.bool (lb)] 4 :: objH D (.deferred (some [])) :: L, (sD (sC (sD (sC (sC (sC sR)))))), ?_⟩
  rw [hR0]
  exact ⟨rfl, rfl, _, hs1, rfl⟩
 have hno : ∀ (Fy : FH) (sv : Value) (cs : List Value) (m : Nat) (lb : Bool) (i j : Int) (tov : Value), F1 ≤ Fy → IsSl sv → IsSl tov → Yld prog l [.agg #[.int .i64 i, .int .i64 j, tov], .bool false] Fy (objH l (.loop R) :: cellsH b2 [sv] 32 :: slH 68 3 sv m cs :: cellsH b3 [.bool (lb)] 4 :: objH D (.deferred (some [])) :: L) (fun v F' L' => .bool true = v ∧ Fy = F' ∧ objH l (.loop R) :: cellsH b2 [sv] 32 :: slH 68 3 sv m cs :: cellsH b3 [.bool (true)] 4 :: objH D (.deferred (some [])) :: L = L') := by
  intro Fy sv cs m lb i j tov leF hsv htv
  refine Yld.of_round hRs hRp hRps hRa hRb hRz hRg rfl (by kernel_rfl) (by kernel_rfl) (by kernel_rfl) (XI.slots [(13, .agg #[.int .i64 (i), .int .i64 (j), tov]), (14, .bool (false)), (6, ptr b2 0), (7, ptr b3 0)] ⟨rfl, rfl, rfl, rfl, trivial⟩ (fun rE => (XI.seq (XI.region (XIL.cons (XOp.alloc [.int .i64 (0), .int .i64 (0), (.slice none 0 0)] zeroValue68 rfl ?_))))))
  intro b5
  refine XIL.cons (XOp.storeN [] _ [.int .i64 (i), .int .i64 (j), tov] sizeOf68 rfl rfl rfl (ones_cons rfl (ones_cons rfl (ones_cons (one_sl htv) ones_nil))) rfl rfl rfl (XIL.nil (XI.region (XIL.cons (XOp.assign (.bool (false)) rfl (XIL.nil ?_))))))
  refine ⟨cellsH b5 [.int .i64 (i), .int .i64 (j), tov] 68 :: cellsH b2 [sv] 32 :: slH 68 3 sv m cs :: cellsH b3 [.bool (lb)] 4 :: objH D (.deferred (some [])) :: L, (Sub.trans (Sub.front (A := [_, _, _, _])) (Sub.trans (Sub.front (A := [_, _, _, _])) (Sub.trans (Sub.front (A := [_, _, _, _])) (Sub.trans (Sub.front (A := [_, _, _])) (Sub.trans (Sub.front (A := [_, _, _, _])) (sC (sC (sC (sC (sC sR)))))))))), ?_⟩
  refine XI.block (XI.seq (XI.region (XIL.cons (XOp.move (.bool (false)) rfl (XIL.nil (XI.condF rfl (XI.region (XIL.cons (XOp.store1 [_, _, _, _] _ [.bool (true)] sizeOf4 rfl rfl rfl rfl rfl rfl (XIL.nil ?_))))))))))
  refine ⟨rfl, ?_⟩
  refine ⟨cellsH b2 [sv] 32 :: slH 68 3 sv m cs :: cellsH b3 [.bool (true)] 4 :: objH D (.deferred (some [])) :: L, (sC (sD (sC (sC (sC sR))))), ?_⟩
  rw [hR0]
  exact ⟨rfl, rfl, rfl⟩
 refine (Does.weaken (Sub.trans (Sub.front (A := [_])) (Sub.trans (Sub.front (A := [_, _])) (Sub.trans (Sub.front (A := [_, _, _])) (Sub.trans (Sub.front (A := [_, _, _])) (sC (sC (sC (sC (sD sR))))))))) (redexIt_spec har hrs ht hb1 hb2 hsys ho hyes hno)).mono ?_
 rintro _ F9 _ le9 ⟨sv, cs, Ls, hsv, hC, hD, hZ, rfl⟩
 refine ⟨R, cellsH b2 [sv] 32 :: slH 68 3 sv ((stepsL ar rs t).length) cs :: cellsH b3 [.bool (longL ar rs t)] 4 :: L, by rw [hRs]; simp, hRp, (Sub.trans (Sub.front (A := [_, _, _])) (Sub.trans (Sub.front (A := [_, _, _])) (Sub.trans (Sub.front (A := [_, _, _])) (Sub.trans (Sub.front (A := [_, _, _, _])) (Sub.trans (Sub.front (A := [_, _, _, _])) (sC (sC (sC (sC (sC sR)))))))))), ?_⟩
 refine XI.seq ?_
 refine XI.draw [objH D (.deferred (some [])), cellsH b2 [sv] 32, slH 68 3 sv ((stepsL ar rs t).length) cs, cellsH b3 [.bool (longL ar rs t)] 4] L 3 [[], [], []] [[], [], [0]] (phiL [fun us v => v = sv, fun us v => v = (.bool (longL ar rs t) : Value), fun us v => v = sv]) (ownL [fun us v => [], fun us v => [], fun us v => []]) mixed rfl rfl (by kernel_rfl) ?_ ?_
 ·refine pC (fun vals R hpZ => ?_) ?_
  ·refine XG.op (XOp.load1 isAgg32 rfl (Rd.own [_] rfl rfl) ?_)
   exact ⟨rfl, rfl, rfl⟩
  refine pC (fun vals R hpZ => ?_) ?_
  ·refine XG.op (XOp.load1 isAgg4 rfl (Rd.own [_, _, _] rfl rfl) ?_)
   exact ⟨rfl, rfl, rfl⟩
  refine pC (fun vals R hpZ => ?_) ?_
  ·rw [eS (l := [(0, sv)]) ⟨hpZ 0 (by decide), trivial⟩]
   refine XG.op (XOp.assign (sv) rfl ?_)
   exact ⟨rfl, rfl, rfl⟩
  exact stepsP.nil
 intro vals hphi
 rw [eS (l := [(1, (.bool (longL ar rs t) : Value)), (2, sv)]) ⟨(hphi 1 (by decide)), (hphi 2 (by decide)), trivial⟩]
 show XIL _ _ _ _ _ _ _ _ _ (objH D (.deferred (some [])) :: cellsH b2 [sv] 32 :: slH 68 3 sv ((stepsL ar rs t).length) cs :: cellsH b3 [.bool (longL ar rs t)] 4 :: L)
 refine XIL.cons (XOp.assign (.bool (longL ar rs t)) rfl (XIL.nil (XI.freezeF [_, _] _ _ rfl (fun F2 le2 hz1 => ?_))))
 replace hC := hC.mono le2
 have hf1 : StepsF F2 sv ((stepsL ar rs t)) := CO.fz hC (by first | rfl | omega | (rw [List.length_set]; omega) | (simp; done)) hz1.fz
 refine XI.ret (retEndD (L' := L) [sv, .bool (longL ar rs t)] (.tuple #[sv, .bool (longL ar rs t)]) (fun _ _ => (.tmp rfl (.tmp rfl .nil))) rfl (FLe.trans (FLe.trans le1 le9) le2) rF (sC (sD (sD sR))) ?_)
 exact ⟨_, rfl, ⟨cs, Ls, StepsC.fzx hC rfl hz1.fz, hD, ((hZ.mono le2).base le1)⟩, rfl⟩
end Go.Proofs.YtmaaifhmhclhdaaGreat
set_option linter.unusedSimpArgs false
set_option linter.unusedVariables false
namespace Go.Proofs.YtmaaifhmhclhdaaGreat
open Go X M Tryz

/- impl.found$1 -/
theorem found1_spec {F : FH} {L : List HP} {xv : Value} {x : List Int} (hx : IntsF F xv x) {i1 : Int} {i2 : Int} {i3 : Int} {yv : Value} {y : List Int} (hy : IntsF F yv y) {i4 : Int} {uv : Value} {u : List Int} (hu : IntsF F uv u) {bt : Nat} (hzbt : FzC F bt [uv]) (hlu : u.length ≤ 4000000) :
    Does prog 180 [.agg #[xv, .int .i64 (i1), .int .i64 (i2), .int .i64 (i3), yv, .int .i64 (i4)], ptr bt 0] F (L) (fun v F' L' => (.bool (decide (x = u)) : Value) = v ∧ F = F' ∧ L = L') := by
 refine Does.of_X func180 rfl rfl rfl (X.seq (X.region (cX (XOp.box [xv, .int .i64 (i1), .int .i64 (i2), .int .i64 (i3), yv, .int .i64 (i4)] rfl rfl ?_))))
 intro b1
 refine XL.as (.bool (false)) rfl (XL.nil (X.seq (X.region (cX (XOp.fieldP (0) runUnderlying104 rfl sizeOf24 (by decide) rfl rfl (cX (XOp.load1 isAgg24 rfl (Rd.own [] rfl rfl) (cX (XOp.load1 isAgg24 rfl (FzC.rd1 hzbt rfl) (cX (XOp.call (args := [xv, uv]) call62 rfl (Equal_spec hx hu (hbd := (by first | assumption | rfl | omega | (left; simp; done) | (right; simp; done)))) ?_)))))))))))
 rintro _ _ _ _ ⟨rfl, rfl, rfl⟩
 refine XL.as (.bool (decide (x = u))) rfl (XL.nil (X.ret (retEnd (L' := L) [.bool (decide (x = u))] (.bool (decide (x = u))) (.tmp rfl .nil) rfl rF rF (sD sR) ?_)))
 exact ⟨rfl, rfl, rfl⟩

/- slices.IndexFunc[[]impl.reached,impl.reached] -/
theorem IndexFuncFound_spec {F : FH} {L : List HP} {alv : Value} {al : List FoundT} {alcs : List Value} (hal : FoundsF F alv al alcs) {uv : Value} {u : List Int} (hu : IntsF F uv u) {bt : Nat} (hzbt : FzC F bt [uv]) (hlt : al.length ≤ 4000000) (hlu : u.length ≤ 4000000) :
    Does prog 179 [alv, .func (.func 180) #[] #[ptr bt 0]] F (L) (fun v F' L' => (.int .i64 (foundI al u) : Value) = v ∧ F = F' ∧ L = L') := by
 refine Does.of_X func179 rfl rfl rfl (X.seq (X.region (XL.as (.int .i64 (0)) rfl (XL.nil (X.seq (X.seq (X.region (XL.mv (alv) rfl (cX (XOp.lenS runUnderlying100 rfl hal.slv (XL.mv (.int .i64 (0)) rfl (XL.nil (X.block (X.loop (α := Nat) (fun k => [(0, alv), (1, .func (.func 180) #[] #[ptr bt 0]), (7, .int .i64 ((al.length : Int))), (8, .int .i64 ((k : Int)))]) (fun k => L) (fun k F' => F = F' ∧ (k ≤ al.length) ∧ (∀ i, i < k → (EL al i).1 ≠ u)) (fun k => al.length - k) 0 ⟨rfl, rfl, rfl, rfl, trivial⟩ sR ⟨rfl, (by (try dsimp only) <;> omega), (fun i hi => absurd hi (by omega))⟩ ?_))))))))))))))
 rintro k rE _ _ ⟨rfl, hk, hall⟩
 show X _ _ _ _ (envs [(0, alv), (1, .func (.func 180) #[] #[ptr bt 0]), (7, .int .i64 ((al.length : Int))), (8, .int .i64 ((k : Int)))] rE) _ (L)
 refine X.seq (X.region (cX (XOp.lss rfl rfl (XL.nil (X.seq ?_)))))
 refine X.condD (p := (k : Int) < (al.length : Int)) rfl (fun h1 => ?_) (fun h1 => ?_)
 ·refine X.skip (X.seq (X.block (X.seq (X.region (XL.mv (.int .i64 ((k : Int))) rfl (XL.as (.int .i64 ((k : Int))) rfl (XL.nil (X.seq (X.region (XL.mv (.func (.func 180) #[] #[ptr bt 0]) rfl (XL.mv (alv) rfl (XL.mv (.int .i64 ((k : Int))) rfl (cX (XOp.indexS k runUnderlying100 sizeOf104 rfl rfl rfl hal.slv (by omega) rfl ?_))))))))))))))
  obtain ⟨a1, a2, ha1, ha2, hrg1, hq1⟩ := hal.rd (i := k) (by omega)
  refine cX (XOp.loadN [a1, .int .i64 ((al.getD k ([], 0, (0, 0, []), 0)).2.1), .int .i64 ((al.getD k ([], 0, (0, 0, []), 0)).2.2.1.1), .int .i64 ((al.getD k ([], 0, (0, 0, []), 0)).2.2.1.2.1), a2, .int .i64 ((al.getD k ([], 0, (0, 0, []), 0)).2.2.2)] isAgg104 sizeOf104 rfl rfl (Rd.all (hrg1 _)) (cX (XOp.callV (first := []) (captured := [ptr bt 0]) (args := [.agg #[a1, .int .i64 ((al.getD k ([], 0, (0, 0, []), 0)).2.1), .int .i64 ((al.getD k ([], 0, (0, 0, []), 0)).2.2.1.1), .int .i64 ((al.getD k ([], 0, (0, 0, []), 0)).2.2.1.2.1), a2, .int .i64 ((al.getD k ([], 0, (0, 0, []), 0)).2.2.2)], ptr bt 0]) call180 rfl rfl (found1_spec ha1 ha2 hu hzbt (hlu := (by first | assumption | rfl | omega | simp))) ?_)))
  rintro _ _ _ _ ⟨rfl, rfl, rfl⟩
  refine XL.nil ?_
  refine X.cond (t := decide (((al.getD k ([], 0, (0, 0, []), 0)).1) = u)) rfl (fun h2 => ?_) (fun h2 => ?_)
  ·refine X.seq (X.region (XL.mv (.int .i64 ((k : Int))) rfl (XL.as (.int .i64 ((k : Int))) rfl (XL.nil (X.ret (blockQ_ret (thenQ_ret (thenQ_ret (blockQ_ret (thenQ_ret (retEnd (L' := L) [.int .i64 ((k : Int))] (.int .i64 ((k : Int))) (.tmp rfl .nil) rfl rF rF sR ?_)))))))))))
   exact ⟨(vI (foundI_at (k := k) (by omega) (by unfold EL; simp_all) hall)), rfl, rfl⟩
  refine X.skip (X.region (cX (XOp.addR (((k + 1 : Nat) : Int)) rfl rfl (by omega) (by omega) (XL.mv (.int .i64 (((k + 1 : Nat) : Int))) rfl (XL.nil ?_)))))
  exact ⟨k + 1, _, FLe.refl _, rF, ⟨rfl, rfl, rfl, rfl, trivial⟩, sR, ⟨rfl, (by (try dsimp only) <;> omega), (fun i hi => (Nat.lt_or_ge i k).elim (fun h => hall i h) (fun h => by obtain rfl : i = k := (by omega); unfold EL; simp_all))⟩, (by omega)⟩
 refine X.exit (thenQ_exit (thenQ_exit (blockQ_exit (X.seq (X.region (XL.as (.int .i64 (-1)) rfl (XL.nil (X.ret (retEnd (L' := L) [.int .i64 (-1)] (.int .i64 (-1)) (.tmp rfl .nil) rfl rF rF sR ?_)))))))))
 exact ⟨(vI (foundI_none (fun i hi => hall i (by omega)))), rfl, rfl⟩

/- impl.found -/
theorem found_spec {F : FH} {L : List HP} {alv : Value} {al : List FoundT} {alcs : List Value} (hal : FoundsF F alv al alcs) {uv : Value} {u : List Int} (hu : IntsF F uv u) (hlt : al.length ≤ 4000000) (hlu : u.length ≤ 4000000) :
    Does prog 124 [alv, uv] F (L) (fun v F' L' => (.int .i64 (foundI al u) : Value) = v ∧ F = F' ∧ L = L') := by
 refine Does.of_X func124 rfl rfl rfl (X.seq (X.region (cX (XOp.box [uv] rfl (cells_one (IntsF.isSl hu)) ?_))))
 intro b1
 refine XL.as (.int .i64 (0)) rfl (XL.nil (X.seq (X.region (XL.mv (alv) rfl (cX (XOp.makeFuncL [] [ptr b1 0] rfl rfl (XL.freeze [] _ _ rfl (fun F1 le1 hz1 => ?_))))))))
 replace hal := hal.mono le1
 replace hu := hu.mono le1
 have hf1 : FzC F1 b1 [uv] := Fz.cells hz1
 refine cX (XOp.call (args := [alv, .func (.func 180) #[] #[ptr b1 0]]) call179 rfl (IndexFuncFound_spec hal hu hf1 (hlt := (by first | assumption | rfl | omega | simp)) (hlu := (by first | assumption | rfl | omega | simp))) ?_)
 rintro _ _ _ _ ⟨rfl, rfl, rfl⟩
 refine XL.as (.int .i64 (foundI al u)) rfl (XL.nil (X.ret (retEnd (L' := L) [.int .i64 (foundI al u)] (.int .i64 (foundI al u)) (.tmp rfl .nil) rfl rF le1 sR ?_)))
 exact ⟨rfl, rfl, rfl⟩

/- impl.reach -/
set_option maxRecDepth 20000 in
theorem reach_spec {F : FH} {L : List HP} {arv : Value} {ar : List Int} (har : IntsF F arv ar) {rsv : Value} {rs : List (List Int × List Int)} (hrs : PairsF F rsv rs) {tv : Value} {t : List Int} (ht : IntsF F tv t) {n : Int} (hsys : sysOk ar rs = true) (ho : termOk ar t = true) (hn20 : 0 ≤ n ∧ n ≤ 20) :
    Does prog 66 [.agg #[arv, rsv], tv, .int .i64 (n)] F (L) (fun v F' L' => ∃ (a : Value) (acs : List Value) (Ls : List HP), (.tuple #[a, .bool (reachL ar rs t n).2] : Value) = v ∧ FoundsF F' a (reachL ar rs t n).1 acs ∧ DeepL 6 (FoundO 2) acs (reachL ar rs t n).1 Ls ∧ Fresh F F' (star Ls) ∧ L = L') := by
 refine Does.of_X func66 rfl rfl rfl ?_
 have hnn := notNil_of_pos ht (by have := termOk_len ho; omega)
 have htl := termOk_len ho
 have hrl := (sysOk_iff.1 hsys).2.1
 have hsig := (sysOk_iff.1 hsys).1
 have hsl := sigOk_spec hsig
 refine X.seq (X.region (cX (XOp.box [arv, rsv] rfl rfl ?_)))
 intro b1
 refine XL.as ((.slice none 0 0)) rfl (XL.as (.bool (false)) rfl (XL.nil (X.seq (X.region (XL.mv (tv) rfl (cX (XOp.frzF <| XOp.call (args := [tv]) call60 rfl (Clone_spec ht (hlt := (by first | assumption | rfl | omega | simp))) ?_)))))))
 rintro v1 _ _ _ ⟨rfl, hs1, rfl⟩
 refine ⟨_, _, rfl, fun F1 le1 hz1 => ?_⟩
 replace har := har.mono le1
 replace hrs := hrs.mono le1
 have hf1 : IntsF F1 v1 ((t)) := intsH.fz (xs := (t)) hz1.fz
 skip
 refine cX (XOp.build [v1, .int .i64 (-1), .int .i64 (0), .int .i64 (0), (.slice none 0 0), .int .i64 (0)] [(.slice none 0 0), .int .i64 (0), .int .i64 (0), .int .i64 (0), (.slice none 0 0), .int .i64 (0)] [(0, 1), (1, 1), (2, 3), (5, 1)] [(0, [v1]), (1, [.int .i64 (-1)])] runUnderlying104 zeroValue104 rfl (.cons rfl sizeOf24 (.cons rfl sizeOf3 (.cons rfl sizeOf68 (.cons rfl sizeOf2 PlacesAre.nil)))) rfl (.cons (cells_one (IntsF.isSl hf1)) (.cons rfl CellsAre.nil)) (cX (XOp.buildSlice (s := 6) [v1, .int .i64 (-1), .int .i64 (0), .int .i64 (0), (.slice none 0 0), .int .i64 (0)] [(.slice none 0 0), .int .i64 (0), .int .i64 (0), .int .i64 (0), (.slice none 0 0), .int .i64 (0)] [(0, [v1, .int .i64 (-1), .int .i64 (0), .int .i64 (0), (.slice none 0 0), .int .i64 (0)])] runUnderlying100 sizeOf104 zeroValue104 rfl (by decide) rfl (.cons rfl CellsAre.nil) rfl ?_)))
 intro v2 hv1
 refine XL.as (v2) rfl (XL.nil (X.seq (X.seq (X.region (XL.as (.int .i64 (0)) rfl (XL.nil (X.block ?_)))))))
 have hc1 : FoundsC F1 [v1, .int .i64 (-1), .int .i64 (0), .int .i64 (0), (.slice none 0 0), .int .i64 (0)] ([((t), -1, (0, 0, []), 0)] : List FoundT) := (FoundsC.snoc (CO.nil : FoundsC F1 [] []) (y0 := (t)) (y1 := -1) (y2 := 0) (y3 := 0) (y4 := []) (y5 := 0) hf1 IntsF.nilV)
 refine X.loop (α := Nat × Value × List FoundT × List Value × List HP × Nat × FH) (fun xQ => [(2, .int .i64 (n)), (3, ptr b1 0), (8, xQ.2.1), (9, .int .i64 (((xQ.1 : Nat) : Int)))]) (fun xQ => slH 104 6 xQ.2.1 xQ.2.2.2.2.2.1 xQ.2.2.2.1 :: cellsH b1 [arv, rsv] 29 :: L) (fun xQ F' => xQ.2.2.2.2.2.2 = F' ∧ F1 ≤ xQ.2.2.2.2.2.2 ∧ (IsSl xQ.2.1) ∧ (FoundsC xQ.2.2.2.2.2.2 xQ.2.2.2.1 xQ.2.2.1) ∧ (xQ.2.2.2.2.2.1 = xQ.2.2.1.length) ∧ (DeepL 6 (FoundO 2) xQ.2.2.2.1 xQ.2.2.1 xQ.2.2.2.2.1) ∧ (Fresh F xQ.2.2.2.2.2.2 (star xQ.2.2.2.2.1)) ∧ (xQ.1 ≤ xQ.2.2.1.length) ∧ (xQ.2.2.1.length ≤ 60) ∧ (AllOk ar xQ.2.2.1) ∧ (DeepOk n xQ.2.2.1) ∧ (reachL ar rs t n = reachGo ar rs n (60 - xQ.1) xQ.1 xQ.2.2.1)) (fun xQ => 60 - xQ.1) (0, v2, ([((t), -1, (0, 0, []), 0)] : List FoundT), [v1, .int .i64 (-1), .int .i64 (0), .int .i64 (0), (.slice none 0 0), .int .i64 (0)], [intsH 2 v1 t], 1, F1) ⟨rfl, rfl, rfl, rfl, trivial⟩ (sC (sC sR)) ⟨rfl, FLe.refl _, ((isSl_lit hv1)), (hc1), (rfl), ((DeepL.snoc .nil rfl ⟨_, _, rfl, rfl⟩ : DeepL 6 (FoundO 2) ([] ++ _) ([] ++ _) ([] ++ _))), ((Fresh.one hz1)), (by simp), (by simp), (AllOk.start ho), (DeepOk.start hn20.1), (rfl)⟩ ?_
 rintro ⟨k, ov, os, ocs, Ts, on, G1⟩ rE _ _ ⟨rfl, leG, hov, hC, hn, hD, hZ, hk, hl, hok, hdo, hgo⟩
 show X _ _ _ _ (envs [(2, .int .i64 (n)), (3, ptr b1 0), (8, ov), (9, .int .i64 ((k : Int)))] rE) _ (slH 104 6 ov on ocs :: cellsH b1 [arv, rsv] 29 :: L)
 replace leG : F1 ≤ G1 := leG
 dsimp only at hov hC hn hD hZ hk hl hok hdo hgo
 have hdk : k < os.length → termOk ar (os.getD k ([], 0, (0, 0, []), 0)).1 = true := fun h => hok k h
 have hdl : k < os.length → 1 ≤ (os.getD k ([], 0, (0, 0, []), 0)).1.length ∧ (os.getD k ([], 0, (0, 0, []), 0)).1.length ≤ 60 := fun h => termOk_len (hok k h)
 have leG1 := leG
 replace har := har.mono leG1
 replace hrs := hrs.mono leG1
 refine X.seq (X.seq (X.region (XL.mv (.int .i64 ((k : Int))) rfl (XL.mv (ov) rfl (cX (XOp.lenS runUnderlying100 rfl (SlV.own [] rfl) (cX (XOp.lss rfl rfl (XL.nil ?_)))))))))
 refine X.condD (p := (k : Int) < ((on : Nat) : Int)) rfl (fun h1 => ?_) (fun h1 => ?_)
 ·refine X.skip (X.seq (X.block (X.seq (X.seq (X.region (XL.mv (ov) rfl (XL.mv (.int .i64 ((k : Int))) rfl (cX (XOp.indexS k runUnderlying100 sizeOf104 rfl rfl rfl (SlV.own [] rfl) (by omega) rfl (cX (XOp.fieldE (k * 6 + 5) runUnderlying104 rfl sizeOf2 (by decide) rfl rfl ?_)))))))))))
  obtain ⟨a1, a2, ha1, ha2, hq1⟩ := hC.get (i := k) (by omega)
  refine cX (XOp.load1 isAgg2 rfl (Rd.sl [] rfl (hq1 5 _ rfl)) (XL.mv (.int .i64 (n)) rfl (cX (XOp.eql rfl rfl (XL.nil ?_)))))
  refine X.condD (p := ((os.getD k ([], 0, (0, 0, []), 0)).2.2.2 : Int) = n) rfl (fun h2 => ?_) (fun h2 => ?_)
  ·have hdeep : (EL os k).2.2.2 = n := h2
   refine X.exit (thenQ_exit (blockQ_exit (X.region (XL.mv (.int .i64 ((k : Int))) rfl (cX (XOp.addR (((k + 1 : Nat) : Int)) rfl rfl (by omega) (by omega) (XL.as (.int .i64 (((k + 1 : Nat) : Int))) rfl (XL.nil ?_))))))))
   exact ⟨(k + 1, ov, os, ocs, Ts, on, G1), _, leG1, rF, ⟨rfl, rfl, rfl, rfl, trivial⟩, (sC (sC sR)), ⟨rfl, leG1, (hov), (hC), (hn), (hD), (hZ), (by (try dsimp only) <;> omega), (by (try dsimp only) <;> omega), (hok), (hdo), (by (try dsimp only); exact hgo.trans (reach_same (f := 60 - k - 1) (by omega) (by omega) hdeep))⟩, (by (try dsimp only); omega)⟩
  have hdeep : (EL os k).2.2.2 ≠ n := h2
  refine X.skip (X.seq ?_)
  refine X.drawG [slH 104 6 ov on ocs, cellsH b1 [arv, rsv] 29] L 11 [[], [], [], [], [], [], [], [6], [6], [], [6]] [[], [], [], [1, 2], [3], [4], [0, 5], [6], [6, 7], [6, 7], [6, 8]] [[], [], [], [], [], [], [], [], [], [], []] (phiG [fun FF us v => v = (.agg #[arv, rsv] : Value), fun FF us v => v = ov, fun FF us v => v = (.int .i64 ((k : Int)) : Value), fun FF us v => v = (.pointer (some (elemA ov (k * 6))) : Value), fun FF us v => v = (.pointer (some (elemA ov (k * 6))) : Value), fun FF us v => v = a1, fun FF us v => (.tuple #[((tupAt v 0)), .bool (longL ar rs ((os.getD k ([], 0, (0, 0, []), 0)).1))] : Value) = v ∧ (FrStepsF G1 FF 2 ((tupAt v 0)) (stepsL ar rs ((os.getD k ([], 0, (0, 0, []), 0)).1))), fun FF us v => v = (.tuple #[((tupAt (us.getD 0 undef) 0)), .bool (longL ar rs ((os.getD k ([], 0, (0, 0, []), 0)).1))] : Value), fun FF us v => v = ((tupAt (us.getD 0 undef) 0)), fun FF us v => v = (.bool (longL ar rs ((os.getD k ([], 0, (0, 0, []), 0)).1)) : Value), fun FF us v => v = ((tupAt (us.getD 0 undef) 0))]) (ownL [fun us v => [], fun us v => [], fun us v => [], fun us v => [], fun us v => [], fun us v => [], fun us v => [], fun us v => [], fun us v => [], fun us v => [], fun us v => []]) mixed rfl rfl (by kernel_rfl) (by kernel_rfl) (MonoG.get (mC (fun le h => h) (mC (fun le h => h) (mC (fun le h => h) (mC (fun le h => h) (mC (fun le h => h) (mC (fun le h => h) (mC (fun le h => ⟨h.1, h.2.mono le⟩) (mC (fun le h => h) (mC (fun le h => h) (mC (fun le h => h) (mC (fun le h => h) MonoG.nil)))))))))))) ?_ ?_
  ·refine gC (fun vals Fs R leFs hpZ => ?_) ?_
   ·replace har := har.mono leFs
    replace hrs := hrs.mono leFs
    replace hC := hC.mono leFs
    replace ha1 := ha1.mono leFs
    refine XG.op (XOp.loadN [arv, rsv] isAgg29 sizeOf29 rfl rfl (Rd.ownN [_] rfl rfl) ?_)
    exact ⟨rfl, rfl⟩
   refine gC (fun vals Fs R leFs hpZ => ?_) ?_
   ·refine XG.op (XOp.move (ov) rfl ?_)
    exact ⟨rfl, rfl⟩
   refine gC (fun vals Fs R leFs hpZ => ?_) ?_
   ·refine XG.op (XOp.move (.int .i64 ((k : Int))) rfl ?_)
    exact ⟨rfl, rfl⟩
   refine gC (fun vals Fs R leFs hpZ => ?_) ?_
   ·replace har := har.mono leFs
    replace hrs := hrs.mono leFs
    replace hC := hC.mono leFs
    replace ha1 := ha1.mono leFs
    rw [eS (l := [(1, ov), (2, (.int .i64 ((k : Int)) : Value))]) ⟨(hpZ 1 (by decide)), (hpZ 2 (by decide)), trivial⟩]
    refine XG.op (XOp.indexS k runUnderlying100 sizeOf104 rfl rfl rfl (SlV.own [] rfl) (by omega) rfl ?_)
    exact ⟨rfl, rfl⟩
   refine gC (fun vals Fs R leFs hpZ => ?_) ?_
   ·rw [eS (l := [(3, (.pointer (some (elemA ov (k * 6))) : Value))]) ⟨(hpZ 3 (by decide)), trivial⟩]
    refine XG.op (XOp.fieldE (k * 6) runUnderlying104 rfl sizeOf24 (by decide) rfl rfl ?_)
    exact ⟨rfl, rfl⟩
   refine gC (fun vals Fs R leFs hpZ => ?_) ?_
   ·replace har := har.mono leFs
    replace hrs := hrs.mono leFs
    replace hC := hC.mono leFs
    replace ha1 := ha1.mono leFs
    rw [eS (l := [(4, (.pointer (some (elemA ov (k * 6))) : Value))]) ⟨(hpZ 4 (by decide)), trivial⟩]
    refine XG.op (XOp.load1 isAgg24 rfl (Rd.sl [] rfl (hq1 0 _ rfl)) ?_)
    exact ⟨rfl, rfl⟩
   refine gC (fun vals Fs R leFs hpZ => ?_) ?_
   ·replace har := har.mono leFs
    replace hrs := hrs.mono leFs
    replace hC := hC.mono leFs
    replace ha1 := ha1.mono leFs
    rw [eS (l := [(0, (.agg #[arv, rsv] : Value)), (5, a1)]) ⟨(hpZ 0 (by decide)), (hpZ 5 (by decide)), trivial⟩]
    refine XG.op (XOp.call (args := [.agg #[arv, rsv], a1]) call123 rfl (stepsFrom_spec har hrs ha1 (hsys := (hsys)) (ho := (hdk (by omega)))) ?_)
    rintro _ F3 _ le3 ⟨x2, rfl, hx2, rfl⟩
    replace hC := hC.mono le3
    exact ⟨⟨rfl, (hx2.base leFs)⟩, rfl⟩
   refine gC (fun vals Fs R leFs hpZ => ?_) ?_
   ·obtain ⟨e6, f6_1hx⟩ := hpZ 6 (by decide)
    rw [eS (l := [(6, (.tuple #[((tupAt (vals 6) 0)), .bool (longL ar rs ((os.getD k ([], 0, (0, 0, []), 0)).1))] : Value))]) ⟨(e6).symm, trivial⟩]
    refine XG.op (XOp.move (.tuple #[((tupAt (vals 6) 0)), .bool (longL ar rs ((os.getD k ([], 0, (0, 0, []), 0)).1))]) rfl ?_)
    exact ⟨rfl, rfl⟩
   refine gC (fun vals Fs R leFs hpZ => ?_) ?_
   ·obtain ⟨e6, f6_1hx⟩ := hpZ 6 (by decide)
    have e7 : vals 7 = (.tuple #[((tupAt (vals 6) 0)), .bool (longL ar rs ((os.getD k ([], 0, (0, 0, []), 0)).1))] : Value) := hpZ 7 (by decide)
    rw [eS (l := [(6, (.tuple #[((tupAt (vals 6) 0)), .bool (longL ar rs ((os.getD k ([], 0, (0, 0, []), 0)).1))] : Value)), (7, (.tuple #[((tupAt (vals 6) 0)), .bool (longL ar rs ((os.getD k ([], 0, (0, 0, []), 0)).1))] : Value))]) ⟨(e6).symm, e7, trivial⟩]
    refine XG.op (XOp.extract (((tupAt (vals 6) 0))) rfl rfl ?_)
    exact ⟨rfl, rfl⟩
   refine gC (fun vals Fs R leFs hpZ => ?_) ?_
   ·obtain ⟨e6, f6_1hx⟩ := hpZ 6 (by decide)
    have e7 : vals 7 = (.tuple #[((tupAt (vals 6) 0)), .bool (longL ar rs ((os.getD k ([], 0, (0, 0, []), 0)).1))] : Value) := hpZ 7 (by decide)
    rw [eS (l := [(6, (.tuple #[((tupAt (vals 6) 0)), .bool (longL ar rs ((os.getD k ([], 0, (0, 0, []), 0)).1))] : Value)), (7, (.tuple #[((tupAt (vals 6) 0)), .bool (longL ar rs ((os.getD k ([], 0, (0, 0, []), 0)).1))] : Value))]) ⟨(e6).symm, e7, trivial⟩]
    refine XG.op (XOp.extract (.bool (longL ar rs ((os.getD k ([], 0, (0, 0, []), 0)).1))) rfl rfl ?_)
    exact ⟨rfl, rfl⟩
   refine gC (fun vals Fs R leFs hpZ => ?_) ?_
   ·obtain ⟨e6, f6_1hx⟩ := hpZ 6 (by decide)
    have e8 : vals 8 = ((tupAt (vals 6) 0)) := hpZ 8 (by decide)
    rw [eS (l := [(6, (.tuple #[((tupAt (vals 6) 0)), .bool (longL ar rs ((os.getD k ([], 0, (0, 0, []), 0)).1))] : Value)), (8, ((tupAt (vals 6) 0)))]) ⟨(e6).symm, e8, trivial⟩]
    refine XG.op (XOp.assign (((tupAt (vals 6) 0))) rfl ?_)
    exact ⟨rfl, rfl⟩
   exact stepsG.nil
  intro vals F4 le4 hphi
  obtain ⟨e6, f6_1hx⟩ := hphi 6 (by decide)
  have e7 : vals 7 = (.tuple #[((tupAt (vals 6) 0)), .bool (longL ar rs ((os.getD k ([], 0, (0, 0, []), 0)).1))] : Value) := hphi 7 (by decide)
  have e8 : vals 8 = ((tupAt (vals 6) 0)) := hphi 8 (by decide)
  have e10 : vals 10 = ((tupAt (vals 6) 0)) := hphi 10 (by decide)
  generalize hu1 : ((tupAt (vals 6) 0)) = u1 at e6 f6_1hx e7 e8 e10
  rw [eS (l := [(6, (.tuple #[u1, .bool (longL ar rs ((os.getD k ([], 0, (0, 0, []), 0)).1))] : Value)), (9, (.bool (longL ar rs ((os.getD k ([], 0, (0, 0, []), 0)).1)) : Value)), (10, u1)]) ⟨(e6).symm, (hphi 9 (by decide)), e10, trivial⟩]
  replace hC := hC.mono le4
  show XL _ _ _ _ _ _ _ (slH 104 6 ov on ocs :: cellsH b1 [arv, rsv] 29 :: L)
  refine XL.as (.bool (longL ar rs ((os.getD k ([], 0, (0, 0, []), 0)).1))) rfl (XL.nil (X.seq (X.region ?_)))
  obtain ⟨cso1, Lso1, hXo1, hDo1, hZo1⟩ := f6_1hx
  skip
  refine XL.mv (u1) rfl (cX (XOp.lenS runUnderlying32 rfl hXo1.slv (XL.mv (.int .i64 (0)) rfl (XL.nil (X.block (X.loop (α := Nat × Value × List FoundT × List Value × List HP × Nat × FH) (fun xQ => [(2, .int .i64 (n)), (3, ptr b1 0), (8, xQ.2.1), (9, .int .i64 ((k : Int))), (41, u1), (42, .int .i64 (((((stepsL ar rs ((os.getD k ([], 0, (0, 0, []), 0)).1))).length : Nat) : Int))), (43, .int .i64 (((xQ.1 : Nat) : Int)))]) (fun xQ => slH 104 6 xQ.2.1 xQ.2.2.2.2.2.1 xQ.2.2.2.1 :: cellsH b1 [arv, rsv] 29 :: L) (fun xQ F' => xQ.2.2.2.2.2.2 = F' ∧ F4 ≤ xQ.2.2.2.2.2.2 ∧ (IsSl xQ.2.1) ∧ (FoundsC xQ.2.2.2.2.2.2 xQ.2.2.2.1 xQ.2.2.1) ∧ (xQ.2.2.2.2.2.1 = xQ.2.2.1.length) ∧ (DeepL 6 (FoundO 2) xQ.2.2.2.1 xQ.2.2.1 xQ.2.2.2.2.1) ∧ (Fresh F xQ.2.2.2.2.2.2 (star (xQ.2.2.2.2.1 ++ Lso1.drop xQ.1))) ∧ (xQ.1 ≤ (stepsL ar rs (os.getD k ([], 0, (0, 0, []), 0)).1).length) ∧ (xQ.2.2.1.length ≤ 60) ∧ (AllOk ar xQ.2.2.1) ∧ (DeepOk n xQ.2.2.1) ∧ (k < xQ.2.2.1.length) ∧ (EL xQ.2.2.1 k = EL os k) ∧ (addGo (k : Int) (EL os k).2.2.2 (stepsL ar rs (os.getD k ([], 0, (0, 0, []), 0)).1) os = addGo (k : Int) (EL os k).2.2.2 ((stepsL ar rs (os.getD k ([], 0, (0, 0, []), 0)).1).drop xQ.1) xQ.2.2.1)) (fun xQ => (stepsL ar rs (os.getD k ([], 0, (0, 0, []), 0)).1).length - xQ.1) (0, ov, os, ocs, Ts, on, F4) ⟨rfl, rfl, rfl, rfl, rfl, rfl, rfl, trivial⟩ (sC (sC sR)) ⟨rfl, FLe.refl _, (hov), (hC), (hn), (hD), ((Fresh.app hZ (FLe.trans le1 leG1) hZo1 le4)), (by (try dsimp only) <;> omega), (hl), (hok), (hdo), (by dsimp only; omega), (rfl), (rfl)⟩ ?_))))))
  rintro ⟨q, pv, ps, pcs, Us, pn, G2⟩ rE _ _ ⟨rfl, leG, hpv, hCi, hni, hDi, hZi, hq, hli, hoki, hdi, hkp, hel, hgoi⟩
  show X _ _ _ _ (envs [(2, .int .i64 (n)), (3, ptr b1 0), (8, pv), (9, .int .i64 ((k : Int))), (41, u1), (42, .int .i64 (((((stepsL ar rs ((os.getD k ([], 0, (0, 0, []), 0)).1))).length : Nat) : Int))), (43, .int .i64 ((q : Int)))] rE) _ (slH 104 6 pv pn pcs :: cellsH b1 [arv, rsv] 29 :: L)
  replace leG : F4 ≤ G2 := leG
  dsimp only at hpv hCi hni hDi hZi hq hli hoki hdi hkp hel hgoi
  have hnl : (stepsL ar rs (os.getD k ([], 0, (0, 0, []), 0)).1).length ≤ 1000 := by have h9 := stepsTo_len (ar := ar) (t := (os.getD k ([], 0, (0, 0, []), 0)).1) (rs := rs) hrl (os.getD k ([], 0, (0, 0, []), 0)).1.length; have h8 := hdl (by omega); show (stepsTo ar rs (os.getD k ([], 0, (0, 0, []), 0)).1 (os.getD k ([], 0, (0, 0, []), 0)).1.length).length ≤ 1000; omega
  have hsok : q < (stepsL ar rs (os.getD k ([], 0, (0, 0, []), 0)).1).length → 1 ≤ ((stepsL ar rs (os.getD k ([], 0, (0, 0, []), 0)).1).getD q (0, 0, [])).2.2.length ∧ ((stepsL ar rs (os.getD k ([], 0, (0, 0, []), 0)).1).getD q (0, 0, [])).2.2.length ≤ 60 := fun h => termOk_len (steps_ok hsys (hdk (by omega)) h)
  have hdn : 0 ≤ (ps.getD k ([], 0, (0, 0, []), 0)).2.2.2 ∧ (ps.getD k ([], 0, (0, 0, []), 0)).2.2.2 ≤ 1000 := by have h8 : (EL ps k).2.2.2 = (EL os k).2.2.2 := (by rw [hel]); have h9 := hdo k (by omega); have h7 : (ps.getD k ([], 0, (0, 0, []), 0)).2.2.2 = (EL ps k).2.2.2 := rfl; omega
  have leG2 := leG
  replace hC := hC.mono leG2
  replace hXo1 := hXo1.mono leG2
  refine X.seq (X.region (cX (XOp.lss rfl rfl (XL.nil (X.seq ?_)))))
  refine X.condD (p := (q : Int) < ((((stepsL ar rs ((os.getD k ([], 0, (0, 0, []), 0)).1))).length : Nat) : Int)) rfl (fun h3 => ?_) (fun h3 => ?_)
  ·refine X.skip (X.seq (X.block (X.seq (X.region (cX (XOp.indexS q runUnderlying32 sizeOf68 rfl rfl rfl hXo1.slv (by omega) rfl ?_))))))
   obtain ⟨a3, ha3, hr1, hr2, hr3, hq2⟩ := hXo1.rd (i := q) (by omega)
   refine cX (XOp.loadN [.int .i64 ((((stepsL ar rs ((os.getD k ([], 0, (0, 0, []), 0)).1))).getD q (0, 0, [])).1), .int .i64 ((((stepsL ar rs ((os.getD k ([], 0, (0, 0, []), 0)).1))).getD q (0, 0, [])).2.1), a3] isAgg68 sizeOf68 rfl rfl (Rd.three (hr1 _) (hr2 _) (hr3 _)) (cX (XOp.alloc [.int .i64 (0), .int .i64 (0), (.slice none 0 0)] zeroValue68 rfl ?_)))
   intro b2
   refine cX (XOp.storeN [] _ [.int .i64 ((((stepsL ar rs ((os.getD k ([], 0, (0, 0, []), 0)).1))).getD q (0, 0, [])).1), .int .i64 ((((stepsL ar rs ((os.getD k ([], 0, (0, 0, []), 0)).1))).getD q (0, 0, [])).2.1), a3] sizeOf68 rfl rfl rfl (ones_cons rfl (ones_cons rfl (ones_cons (one_sl (IntsF.isSl ha3)) ones_nil))) rfl rfl rfl (XL.nil (X.seq (X.seq (X.region (XL.mv (pv) rfl (cX (XOp.fieldP (2) runUnderlying68 rfl sizeOf24 (by decide) rfl rfl (cX (XOp.load1 isAgg24 rfl (Rd.own [] rfl rfl) (cX (XOp.lend [_] _ _ rfl (fun F5 le5 hz2 => ?_)))))))))))))
   have hf2 : FoundsF _ pv ps pcs := (FoundsC.fz (FoundsC.mono hCi (FLe.trans le5 rF)) (by first | rfl | assumption | omega | (rw [List.length_append]; simp only [List.length_singleton]; omega)) hz2 : FoundsF _ pv ps pcs)
   refine id (XOp.call (args := [pv, a3]) call124 rfl (found_spec hf2 ((ha3.mono le5)) (hlt := (by omega)) (hlu := (by have := hsok (by omega); omega))) ?_)
   rintro _ _ _ _ ⟨rfl, rfl, rfl⟩
   show XL _ _ _ _ _ _ _ (slH 104 6 pv pn pcs :: cellsH b2 [.int .i64 ((((stepsL ar rs ((os.getD k ([], 0, (0, 0, []), 0)).1))).getD q (0, 0, [])).1), .int .i64 ((((stepsL ar rs ((os.getD k ([], 0, (0, 0, []), 0)).1))).getD q (0, 0, [])).2.1), a3] 68 :: cellsH b1 [arv, rsv] 29 :: L)
   refine cX (XOp.geq rfl rfl (XL.nil ?_))
   refine X.condD (p := (foundI ps ((((stepsL ar rs ((os.getD k ([], 0, (0, 0, []), 0)).1))).getD q (0, 0, [])).2.2) : Int) ≥ 0) rfl (fun h4 => ?_) (fun h4 => ?_)
   ·have hin : isIn ps ((stepsL ar rs (os.getD k ([], 0, (0, 0, []), 0)).1).getD q (0, 0, [])).2.2 = true := foundI_iff.1 h4
    refine X.exit (thenQ_exit (blockQ_exit (X.region (cX (XOp.addR (((q + 1 : Nat) : Int)) rfl rfl (by omega) (by omega) (XL.mv (.int .i64 (((q + 1 : Nat) : Int))) rfl (XL.nil ?_)))))))
    exact ⟨(q + 1, pv, ps, pcs, Us, pn, G2), _, leG2, rF, ⟨rfl, rfl, rfl, rfl, rfl, rfl, rfl, trivial⟩, (sC (sD (sC sR))), ⟨rfl, leG2, (hpv), (hCi), (hni), (hDi), ((Fresh.skipLeaf hZi ((hDo1.leaves).2 q a3 (by omega) hq2))), (by (try dsimp only) <;> omega), (by (try dsimp only) <;> omega), (hoki), (hdi), (by (try dsimp only) <;> omega), (hel), (by (try dsimp only); exact hgoi.trans (add_in (by omega) hin))⟩, (by omega)⟩
   have hnin : isIn ps ((stepsL ar rs (os.getD k ([], 0, (0, 0, []), 0)).1).getD q (0, 0, [])).2.2 = false := by rw [Bool.eq_false_iff]; exact fun h9 => h4 (foundI_iff.2 h9)
   refine X.skip (X.seq (X.seq (X.region (XL.mv (pv) rfl (cX (XOp.lenS runUnderlying100 rfl (SlV.own [] rfl) (cX (XOp.eql rfl rfl (XL.nil ?_)))))))))
   refine X.condD (p := (((pn : Nat) : Int) : Int) = 60) rfl (fun h5 => ?_) (fun h5 => ?_)
   ·refine X.seq (X.region (XL.mv (pv) rfl (XL.as (pv) rfl (XL.as (.bool (false)) rfl (XL.nil (X.freezeF [] _ _ rfl (fun F6 le6 hz3 => ?_)))))))
    replace hC := hC.mono le6
    replace hCi := hCi.mono le6
    replace ha3 := ha3.mono le6
    have hf3 : FoundsF F6 pv ps pcs := FoundsC.fz hCi (by first | rfl | simp | omega) hz3.fz
    refine X.ret (thenQ_ret (blockQ_ret (thenQ_ret (thenQ_ret (blockQ_ret (blockQ_ret (thenQ_ret (thenQ_ret (blockQ_ret (thenQ_ret (retEnd (L' := L) [pv, .bool (false)] (.tuple #[pv, .bool (false)]) (.tmp rfl (.tmp rfl .nil)) rfl (FLe.trans (FLe.trans (FLe.trans (FLe.trans le1 leG1) le4) leG2) le6) rF (sD (sD sR)) ?_)))))))))))
    have h9 := hgoi.trans (add_full (by omega) hnin (by omega))
    have h8 := reach_stop (ar := ar) (rs := rs) (n := n) (f := 60 - k - 1) (show k < os.length by omega) (by omega) hdeep (by rw [h9])
    have e9 : reachL ar rs t n = (ps, false) := (hgo.trans h8).trans h9
    rw [e9]
    exact ⟨_, _, _, rfl, hf3, hDi, ((Fresh.noMore hZi).mono le6), rfl⟩
   refine X.skip ?_
   obtain ⟨a4, a5, ha4, ha5, hq3⟩ := hCi.get (i := k) (by omega)
   refine X.draw [slH 104 6 pv pn pcs, cellsH b2 [.int .i64 ((((stepsL ar rs ((os.getD k ([], 0, (0, 0, []), 0)).1))).getD q (0, 0, [])).1), .int .i64 ((((stepsL ar rs ((os.getD k ([], 0, (0, 0, []), 0)).1))).getD q (0, 0, [])).2.1), a3] 68, cellsH b1 [arv, rsv] 29] L 13 [[], [], [], [], [], [], [], [], [], [], [], [], []] [[], [], [1], [], [], [], [], [5, 6], [7], [8], [9], [2, 3, 4, 10], [11]] (phiL [fun us v => v = pv, fun us v => v = ptr b2 2, fun us v => v = a3, fun us v => v = (.int .i64 ((k : Int)) : Value), fun us v => v = (.agg #[.int .i64 ((((stepsL ar rs ((os.getD k ([], 0, (0, 0, []), 0)).1))).getD q (0, 0, [])).1), .int .i64 ((((stepsL ar rs ((os.getD k ([], 0, (0, 0, []), 0)).1))).getD q (0, 0, [])).2.1), a3] : Value), fun us v => v = pv, fun us v => v = (.int .i64 ((k : Int)) : Value), fun us v => v = (.pointer (some (elemA pv (k * 6))) : Value), fun us v => v = (.pointer (some (elemA pv (k * 6 + 5))) : Value), fun us v => v = (.int .i64 ((ps.getD k ([], 0, (0, 0, []), 0)).2.2.2) : Value), fun us v => v = (.int .i64 (((ps.getD k ([], 0, (0, 0, []), 0)).2.2.2) + 1) : Value), fun us v => v = (.agg #[a3, .int .i64 ((k : Int)), .int .i64 ((((stepsL ar rs ((os.getD k ([], 0, (0, 0, []), 0)).1))).getD q (0, 0, [])).1), .int .i64 ((((stepsL ar rs ((os.getD k ([], 0, (0, 0, []), 0)).1))).getD q (0, 0, [])).2.1), a3, .int .i64 (((ps.getD k ([], 0, (0, 0, []), 0)).2.2.2) + 1)] : Value), fun us v => ∃ b, v = .slice (some ⟨b, 0, none⟩) 1 1]) (ownL [fun us v => [], fun us v => [], fun us v => [], fun us v => [], fun us v => [], fun us v => [], fun us v => [], fun us v => [], fun us v => [], fun us v => [], fun us v => [], fun us v => [], fun us v => [slH 104 6 v 1 [a3, .int .i64 ((k : Int)), .int .i64 ((((stepsL ar rs ((os.getD k ([], 0, (0, 0, []), 0)).1))).getD q (0, 0, [])).1), .int .i64 ((((stepsL ar rs ((os.getD k ([], 0, (0, 0, []), 0)).1))).getD q (0, 0, [])).2.1), a3, .int .i64 (((ps.getD k ([], 0, (0, 0, []), 0)).2.2.2) + 1)]]]) mixed rfl rfl (by kernel_rfl) ?_ ?_
   ·refine pC (fun vals R hpZ => ?_) ?_
    ·refine XG.op (XOp.move (pv) rfl ?_)
     exact ⟨rfl, rfl, rfl⟩
    refine pC (fun vals R hpZ => ?_) ?_
    ·refine XG.op (XOp.fieldP (2) runUnderlying68 rfl sizeOf24 (by decide) rfl rfl ?_)
     exact ⟨rfl, rfl, rfl⟩
    refine pC (fun vals R hpZ => ?_) ?_
    ·rw [eS (l := [(1, ptr b2 2)]) ⟨hpZ 1 (by decide), trivial⟩]
     refine XG.op (XOp.load1 isAgg24 rfl (Rd.own [_] rfl rfl) ?_)
     exact ⟨rfl, rfl, rfl⟩
    refine pC (fun vals R hpZ => ?_) ?_
    ·refine XG.op (XOp.move (.int .i64 ((k : Int))) rfl ?_)
     exact ⟨rfl, rfl, rfl⟩
    refine pC (fun vals R hpZ => ?_) ?_
    ·refine XG.op (XOp.loadN [.int .i64 ((((stepsL ar rs ((os.getD k ([], 0, (0, 0, []), 0)).1))).getD q (0, 0, [])).1), .int .i64 ((((stepsL ar rs ((os.getD k ([], 0, (0, 0, []), 0)).1))).getD q (0, 0, [])).2.1), a3] isAgg68 sizeOf68 rfl rfl (Rd.ownN [_] rfl rfl) ?_)
     exact ⟨rfl, rfl, rfl⟩
    refine pC (fun vals R hpZ => ?_) ?_
    ·refine XG.op (XOp.move (pv) rfl ?_)
     exact ⟨rfl, rfl, rfl⟩
    refine pC (fun vals R hpZ => ?_) ?_
    ·refine XG.op (XOp.move (.int .i64 ((k : Int))) rfl ?_)
     exact ⟨rfl, rfl, rfl⟩
    refine pC (fun vals R hpZ => ?_) ?_
    ·rw [eS (l := [(5, pv), (6, (.int .i64 ((k : Int)) : Value))]) ⟨hpZ 5 (by decide), hpZ 6 (by decide), trivial⟩]
     refine XG.op (XOp.indexS k runUnderlying100 sizeOf104 rfl rfl rfl (SlV.own [] rfl) (by omega) rfl ?_)
     exact ⟨rfl, rfl, rfl⟩
    refine pC (fun vals R hpZ => ?_) ?_
    ·rw [eS (l := [(7, (.pointer (some (elemA pv (k * 6))) : Value))]) ⟨hpZ 7 (by decide), trivial⟩]
     refine XG.op (XOp.fieldE (k * 6 + 5) runUnderlying104 rfl sizeOf2 (by decide) rfl rfl ?_)
     exact ⟨rfl, rfl, rfl⟩
    refine pC (fun vals R hpZ => ?_) ?_
    ·rw [eS (l := [(8, (.pointer (some (elemA pv (k * 6 + 5))) : Value))]) ⟨hpZ 8 (by decide), trivial⟩]
     refine XG.op (XOp.load1 isAgg2 rfl (Rd.sl [] rfl (hq3 5 _ rfl)) ?_)
     exact ⟨rfl, rfl, rfl⟩
    refine pC (fun vals R hpZ => ?_) ?_
    ·rw [eS (l := [(9, (.int .i64 ((ps.getD k ([], 0, (0, 0, []), 0)).2.2.2) : Value))]) ⟨hpZ 9 (by decide), trivial⟩]
     refine XG.op (XOp.addR (((ps.getD k ([], 0, (0, 0, []), 0)).2.2.2) + 1) rfl rfl (by omega) (by omega) ?_)
     exact ⟨rfl, rfl, rfl⟩
    refine pC (fun vals R hpZ => ?_) ?_
    ·rw [eS (l := [(2, a3), (3, (.int .i64 ((k : Int)) : Value)), (4, (.agg #[.int .i64 ((((stepsL ar rs ((os.getD k ([], 0, (0, 0, []), 0)).1))).getD q (0, 0, [])).1), .int .i64 ((((stepsL ar rs ((os.getD k ([], 0, (0, 0, []), 0)).1))).getD q (0, 0, [])).2.1), a3] : Value)), (10, (.int .i64 (((ps.getD k ([], 0, (0, 0, []), 0)).2.2.2) + 1) : Value))]) ⟨hpZ 2 (by decide), hpZ 3 (by decide), hpZ 4 (by decide), hpZ 10 (by decide), trivial⟩]
     refine XG.op (XOp.build [a3, .int .i64 ((k : Int)), .int .i64 ((((stepsL ar rs ((os.getD k ([], 0, (0, 0, []), 0)).1))).getD q (0, 0, [])).1), .int .i64 ((((stepsL ar rs ((os.getD k ([], 0, (0, 0, []), 0)).1))).getD q (0, 0, [])).2.1), a3, .int .i64 (((ps.getD k ([], 0, (0, 0, []), 0)).2.2.2) + 1)] [(.slice none 0 0), .int .i64 (0), .int .i64 (0), .int .i64 (0), (.slice none 0 0), .int .i64 (0)] [(0, 1), (1, 1), (2, 3), (5, 1)] [(0, [a3]), (1, [.int .i64 ((k : Int))]), (2, [.int .i64 ((((stepsL ar rs ((os.getD k ([], 0, (0, 0, []), 0)).1))).getD q (0, 0, [])).1), .int .i64 ((((stepsL ar rs ((os.getD k ([], 0, (0, 0, []), 0)).1))).getD q (0, 0, [])).2.1), a3]), (3, [.int .i64 (((ps.getD k ([], 0, (0, 0, []), 0)).2.2.2) + 1)])] runUnderlying104 zeroValue104 rfl (.cons rfl sizeOf24 (.cons rfl sizeOf3 (.cons rfl sizeOf68 (.cons rfl sizeOf2 PlacesAre.nil)))) rfl (.cons (cells_one (IntsF.isSl ha3)) (.cons rfl (.cons rfl (.cons rfl CellsAre.nil)))) ?_)
     exact ⟨rfl, rfl, rfl⟩
    refine pC (fun vals R hpZ => ?_) ?_
    ·rw [eS (l := [(11, (.agg #[a3, .int .i64 ((k : Int)), .int .i64 ((((stepsL ar rs ((os.getD k ([], 0, (0, 0, []), 0)).1))).getD q (0, 0, [])).1), .int .i64 ((((stepsL ar rs ((os.getD k ([], 0, (0, 0, []), 0)).1))).getD q (0, 0, [])).2.1), a3, .int .i64 (((ps.getD k ([], 0, (0, 0, []), 0)).2.2.2) + 1)] : Value))]) ⟨hpZ 11 (by decide), trivial⟩]
     refine XG.op (XOp.buildSlice (s := 6) [a3, .int .i64 ((k : Int)), .int .i64 ((((stepsL ar rs ((os.getD k ([], 0, (0, 0, []), 0)).1))).getD q (0, 0, [])).1), .int .i64 ((((stepsL ar rs ((os.getD k ([], 0, (0, 0, []), 0)).1))).getD q (0, 0, [])).2.1), a3, .int .i64 (((ps.getD k ([], 0, (0, 0, []), 0)).2.2.2) + 1)] [(.slice none 0 0), .int .i64 (0), .int .i64 (0), .int .i64 (0), (.slice none 0 0), .int .i64 (0)] [(0, [a3, .int .i64 ((k : Int)), .int .i64 ((((stepsL ar rs ((os.getD k ([], 0, (0, 0, []), 0)).1))).getD q (0, 0, [])).1), .int .i64 ((((stepsL ar rs ((os.getD k ([], 0, (0, 0, []), 0)).1))).getD q (0, 0, [])).2.1), a3, .int .i64 (((ps.getD k ([], 0, (0, 0, []), 0)).2.2.2) + 1)])] runUnderlying100 sizeOf104 zeroValue104 rfl (by decide) rfl (.cons rfl CellsAre.nil) rfl ?_)
     intro v4 hv3
     exact ⟨rfl, hv3, rfl⟩
    exact stepsP.nil
   intro vals hphi
   have f12 : ∃ b, (vals 12) = .slice (some ⟨b, 0, none⟩) 1 1 := hphi 12 (by decide)
   generalize hu12 : vals 12 = u2 at f12
   rw [eS (l := [(0, pv), (12, u2)]) ⟨(hphi 0 (by decide)), hu12, trivial⟩]
   show XL _ _ _ _ _ _ _ (slH 104 6 u2 1 [a3, .int .i64 ((k : Int)), .int .i64 ((((stepsL ar rs ((os.getD k ([], 0, (0, 0, []), 0)).1))).getD q (0, 0, [])).1), .int .i64 ((((stepsL ar rs ((os.getD k ([], 0, (0, 0, []), 0)).1))).getD q (0, 0, [])).2.1), a3, .int .i64 (((ps.getD k ([], 0, (0, 0, []), 0)).2.2.2) + 1)] :: slH 104 6 pv pn pcs :: cellsH b2 [.int .i64 ((((stepsL ar rs ((os.getD k ([], 0, (0, 0, []), 0)).1))).getD q (0, 0, [])).1), .int .i64 ((((stepsL ar rs ((os.getD k ([], 0, (0, 0, []), 0)).1))).getD q (0, 0, [])).2.1), a3] 68 :: cellsH b1 [arv, rsv] 29 :: L)
   refine cX (XOp.append (m := 1) (bytes := 80) (cs := pcs) [_] _ [a3, .int .i64 ((k : Int)), .int .i64 ((((stepsL ar rs ((os.getD k ([], 0, (0, 0, []), 0)).1))).getD q (0, 0, [])).1), .int .i64 ((((stepsL ar rs ((os.getD k ([], 0, (0, 0, []), 0)).1))).getD q (0, 0, [])).2.1), a3, .int .i64 (((ps.getD k ([], 0, (0, 0, []), 0)).2.2.2) + 1)] runUnderlying100 typeInfo104 rfl rfl rfl rfl rfl rfl rfl (SlV.own [] rfl) rfl (Rd.lit [] rfl) (ones_cons (one_sl (IntsF.isSl ha3)) (ones_cons rfl (ones_cons rfl (ones_cons rfl (ones_cons (one_sl (IntsF.isSl ha3)) (ones_cons rfl ones_nil)))))) (by (try simp only [List.length_append, List.length_nil, List.length_cons, List.length_singleton]); omega) (by (try simp only [List.length_append, List.length_nil, List.length_cons, List.length_singleton]); omega) ?_)
   intro v5 hs2 hn1 hm1
   have hc2 := FoundsC.snoc hCi (y0 := (((stepsL ar rs ((os.getD k ([], 0, (0, 0, []), 0)).1))).getD q (0, 0, [])).2.2) (y1 := (k : Int)) (y2 := (((stepsL ar rs ((os.getD k ([], 0, (0, 0, []), 0)).1))).getD q (0, 0, [])).1) (y3 := (((stepsL ar rs ((os.getD k ([], 0, (0, 0, []), 0)).1))).getD q (0, 0, [])).2.1) (y4 := (((stepsL ar rs ((os.getD k ([], 0, (0, 0, []), 0)).1))).getD q (0, 0, [])).2.2) (y5 := ((ps.getD k ([], 0, (0, 0, []), 0)).2.2.2) + 1) ha3 ha3
   refine XL.as (v5) rfl (XL.nil (X.region (cX (XOp.addR (((q + 1 : Nat) : Int)) rfl rfl (by omega) (by omega) (XL.mv (.int .i64 (((q + 1 : Nat) : Int))) rfl (XL.nil ?_))))))
   exact ⟨(q + 1, v5, ps ++ [((((stepsL ar rs ((os.getD k ([], 0, (0, 0, []), 0)).1))).getD q (0, 0, [])).2.2, (k : Int), ((((stepsL ar rs ((os.getD k ([], 0, (0, 0, []), 0)).1))).getD q (0, 0, [])).1, (((stepsL ar rs ((os.getD k ([], 0, (0, 0, []), 0)).1))).getD q (0, 0, [])).2.1, (((stepsL ar rs ((os.getD k ([], 0, (0, 0, []), 0)).1))).getD q (0, 0, [])).2.2), ((ps.getD k ([], 0, (0, 0, []), 0)).2.2.2) + 1)], pcs ++ [a3, .int .i64 ((k : Int)), .int .i64 ((((stepsL ar rs ((os.getD k ([], 0, (0, 0, []), 0)).1))).getD q (0, 0, [])).1), .int .i64 ((((stepsL ar rs ((os.getD k ([], 0, (0, 0, []), 0)).1))).getD q (0, 0, [])).2.1), a3, .int .i64 (((ps.getD k ([], 0, (0, 0, []), 0)).2.2.2) + 1)], Us ++ [intsH 2 a3 ((stepsL ar rs (os.getD k ([], 0, (0, 0, []), 0)).1).getD q (0, 0, [])).2.2], (pn) + 1, G2), _, leG2, rF, ⟨rfl, rfl, rfl, rfl, rfl, rfl, rfl, trivial⟩, (sD (sC (sD (sC sR)))), ⟨rfl, leG2, (hs2), (hc2), (by (try dsimp only); rw [List.length_append, List.length_singleton]; omega), (DeepL.snoc hDi rfl ⟨_, _, rfl, rfl⟩), ((Fresh.keepLeaf hZi ((hDo1.leaves).2 q a3 (by omega) hq2))), (by (try dsimp only) <;> omega), (by (try dsimp only); rw [List.length_append, List.length_singleton]; omega), (hoki.snoc (steps_ok hsys (hdk (by omega)) (by omega))), (hdi.snoc (by have h9 := hdo k (by omega); have h8 : (EL ps k).2.2.2 = (EL os k).2.2.2 := (by rw [hel]); have h7 : (EL ps k).2.2.2 = (ps.getD k ([], 0, (0, 0, []), 0)).2.2.2 := rfl; have h6 : (EL os k).2.2.2 = (os.getD k ([], 0, (0, 0, []), 0)).2.2.2 := rfl; dsimp only; omega)), (by (try dsimp only); rw [List.length_append, List.length_singleton]; omega), (by (try dsimp only); rw [EL_snoc (by omega)]; exact hel), (by (try dsimp only); rw [show (ps.getD k ([], 0, (0, 0, []), 0)) = EL os k from hel]; exact hgoi.trans (add_new (by omega) hnin (by omega)))⟩, (by omega)⟩
  refine X.exit (thenQ_exit (thenQ_exit (blockQ_exit (X.region (XL.mv (.int .i64 ((k : Int))) rfl (cX (XOp.addR (((k + 1 : Nat) : Int)) rfl rfl (by omega) (by omega) (XL.as (.int .i64 (((k + 1 : Nat) : Int))) rfl (XL.nil ?_)))))))))
  exact ⟨(k + 1, pv, ps, pcs, Us, pn, G2), _, (FLe.trans (FLe.trans leG1 le4) leG2), rF, ⟨rfl, rfl, rfl, rfl, trivial⟩, (sC (sC sR)), ⟨rfl, (FLe.trans (FLe.trans leG1 le4) leG2), (hpv), (hCi), (hni), (hDi), ((Fresh.noMore hZi)), (by (try dsimp only); omega), (by (try dsimp only) <;> omega), (hoki), (hdi), (by (try dsimp only); have h9 := hgoi.trans (add_end (by omega)); have h8 := reach_more (ar := ar) (rs := rs) (n := n) (f := 60 - k - 1) (show k < os.length by omega) (by omega) hdeep (by rw [h9]); rw [h9] at h8; exact hgo.trans h8)⟩, (by (try dsimp only); omega)⟩
 refine X.exit (thenQ_exit (thenQ_exit (blockQ_exit (X.seq (X.region (XL.mv (ov) rfl (XL.as (ov) rfl (XL.as (.bool (true)) rfl (XL.nil (X.freezeF [] _ _ rfl (fun F7 le7 hz4 => ?_)))))))))))
 replace hC := hC.mono le7
 have hf4 : FoundsF F7 ov os ocs := FoundsC.fz hC (by first | rfl | simp | omega) hz4.fz
 refine X.ret (retEnd (L' := L) [ov, .bool (true)] (.tuple #[ov, .bool (true)]) (.tmp rfl (.tmp rfl .nil)) rfl (FLe.trans (FLe.trans le1 leG1) le7) rF (sD sR) ?_)
 have e9 : reachL ar rs t n = (os, true) := hgo.trans (reach_done (by omega) hl)
 rw [e9]
 exact ⟨_, _, _, rfl, hf4, hD, (hZ.mono le7), rfl⟩

/- impl.reachOk -/
theorem reachOk_spec {F : FH} {L : List HP} {arv : Value} {ar : List Int} (har : IntsF F arv ar) {rsv : Value} {rs : List (List Int × List Int)} (hrs : PairsF F rsv rs) {n : Int} {tsv : Value} {ts : List (List Int)} (hts : RowsF F tsv ts) (hlt : ts.length ≤ 4000000) :
    Does prog 65 [.agg #[arv, rsv], .int .i64 (n), tsv] F (L) (fun v F' L' => (.bool (reachOkL ar rs n ts) : Value) = v ∧ F = F' ∧ L = L') := by
 refine Does.of_X func65 rfl rfl rfl (X.seq (X.region (cX (XOp.box [arv, rsv] rfl rfl ?_))))
 intro b1
 refine XL.as (.bool (false)) rfl (XL.nil (X.seq (X.seq (X.region (cX (XOp.loadN [arv, rsv] isAgg29 sizeOf29 rfl rfl (Rd.ownN [] rfl rfl) (cX (XOp.call (args := [.agg #[arv, rsv]]) call56 rfl (SystemOk_spec har hrs) ?_))))))))
 rintro _ _ _ _ ⟨rfl, rfl, rfl⟩
 refine cX (XOp.notB rfl (XL.mv (.bool (!(sysOk ar rs))) rfl ?_))
 by_cases h1 : (!(sysOk ar rs)) = true
 ·refine XL.no (t := 12) rfl (vB h1) (XL.no (t := 12) rfl (vB h1) (cX (XOp.pickT (.bool (true)) (vB h1) rfl (XL.mv (.bool (true)) rfl (XL.no (t := 16) rfl rfl (XL.no (t := 16) rfl rfl (cX (XOp.pickT (.bool (true)) rfl rfl (XL.nil (X.condT rfl (X.seq (X.region ?_))))))))))))
  refine XL.as (.bool (false)) rfl (XL.nil (X.ret (thenQ_ret (retEnd (L' := L) [.bool (false)] (.bool (false)) (.tmp rfl .nil) rfl rF rF (sD sR) ?_))))
  exact ⟨(vB (by unfold reachOkL; simp_all <;> omega)), rfl, rfl⟩
 rw [Bool.not_eq_true] at h1
 refine XL.yes (t := 12) rfl (vB h1) (XOp.move (.int .i64 (n)) rfl (XL.yes (t := 12) rfl (vB h1) (XOp.lss rfl rfl (cX (XOp.pickF (.bool (decide ((n : Int) < 0))) (vB h1) rfl (XL.mv (.bool (decide ((n : Int) < 0))) rfl ?_))))))
 by_cases h2 : (n : Int) < 0
 ·refine XL.no (t := 16) rfl (vT h2) (XL.no (t := 16) rfl (vT h2) (cX (XOp.pickT (.bool (true)) (vT h2) rfl (XL.nil (X.condT rfl (X.seq (X.region (XL.as (.bool (false)) rfl (XL.nil (X.ret (thenQ_ret (retEnd (L' := L) [.bool (false)] (.bool (false)) (.tmp rfl .nil) rfl rF rF (sD sR) ?_))))))))))))
  exact ⟨(vB (by unfold reachOkL; simp_all <;> omega)), rfl, rfl⟩
 refine XL.yes (t := 16) rfl (vF h2) (XOp.move (.int .i64 (n)) rfl (XL.yes (t := 16) rfl (vF h2) (XOp.gtr rfl rfl (cX (XOp.pickF (.bool (decide ((n : Int) > 20))) (vF h2) rfl (XL.nil ?_))))))
 refine X.condD (p := (n : Int) > 20) rfl (fun h3 => ?_) (fun h3 => ?_)
 ·refine X.seq (X.region (XL.as (.bool (false)) rfl (XL.nil (X.ret (thenQ_ret (retEnd (L' := L) [.bool (false)] (.bool (false)) (.tmp rfl .nil) rfl rF rF (sD sR) ?_))))))
  exact ⟨(vB (by unfold reachOkL; simp_all <;> omega)), rfl, rfl⟩
 refine X.skip (X.seq (X.seq (X.region (XL.mv (tsv) rfl (cX (XOp.lenS runUnderlying47 rfl hts.slv (XL.mv (.int .i64 (0)) rfl (XL.nil (X.block (X.loop (α := Nat) (fun k => [(3, ptr b1 0), (20, tsv), (21, .int .i64 ((ts.length : Int))), (22, .int .i64 ((k : Int)))]) (fun k => cellsH b1 [arv, rsv] 29 :: L) (fun k F' => F = F' ∧ (k ≤ ts.length) ∧ (∀ i, i < k → termOk ar (ts.getD i []) = true)) (fun k => ts.length - k) 0 ⟨rfl, rfl, rfl, rfl, trivial⟩ (sC sR) ⟨rfl, (by (try dsimp only) <;> omega), (fun i hi => absurd hi (by omega))⟩ ?_))))))))))
 rintro k rE _ _ ⟨rfl, hk, hall⟩
 show X _ _ _ _ (envs [(3, ptr b1 0), (20, tsv), (21, .int .i64 ((ts.length : Int))), (22, .int .i64 ((k : Int)))] rE) _ (cellsH b1 [arv, rsv] 29 :: L)
 refine X.seq (X.region (cX (XOp.lss rfl rfl (XL.nil (X.seq ?_)))))
 refine X.condD (p := (k : Int) < (ts.length : Int)) rfl (fun h4 => ?_) (fun h4 => ?_)
 ·refine X.skip (X.seq (X.block (X.seq (X.region (cX (XOp.indexS k runUnderlying47 sizeOf24 rfl rfl rfl hts.slv (by omega) (Nat.mul_one _) ?_))))))
  obtain ⟨a1, ha1, hr1⟩ := hts.rd (i := k) (by omega)
  refine cX (XOp.load1 isAgg24 rfl (hr1 _) (XL.as (a1) rfl (XL.nil (X.seq (X.region (cX (XOp.fieldP (0) runUnderlying29 rfl sizeOf26 (by decide) rfl rfl (cX (XOp.loadN [arv] isAgg26 sizeOf26 rfl rfl (Rd.ownN [] rfl rfl) (XL.mv (a1) rfl (cX (XOp.call (args := [.agg #[arv], a1]) call58 rfl (TermOk_spec har ha1) ?_))))))))))))
  rintro _ _ _ _ ⟨rfl, rfl, rfl⟩
  refine cX (XOp.notB rfl (XL.nil ?_))
  refine X.cond (t := !(termOk ar ((ts.getD k [])))) rfl (fun h5 => ?_) (fun h5 => ?_)
  ·refine X.seq (X.region (XL.as (.bool (false)) rfl (XL.nil (X.ret (blockQ_ret (thenQ_ret (thenQ_ret (blockQ_ret (thenQ_ret (retEnd (L' := L) [.bool (false)] (.bool (false)) (.tmp rfl .nil) rfl rF rF (sD sR) ?_))))))))))
   exact ⟨(vB (reachOk_fail (k := k) (by omega) (by simp_all))), rfl, rfl⟩
  refine X.skip (X.region (cX (XOp.addR (((k + 1 : Nat) : Int)) rfl rfl (by omega) (by omega) (XL.mv (.int .i64 (((k + 1 : Nat) : Int))) rfl (XL.nil ?_)))))
  exact ⟨k + 1, _, FLe.refl _, rF, ⟨rfl, rfl, rfl, rfl, trivial⟩, (sC sR), ⟨rfl, (by (try dsimp only) <;> omega), (fun i hi => (Nat.lt_or_ge i k).elim (fun h => hall i h) (fun h => by obtain rfl : i = k := (by omega); simp_all))⟩, (by omega)⟩
 refine X.exit (thenQ_exit (thenQ_exit (blockQ_exit (X.seq (X.region (XL.as (.bool (true)) rfl (XL.nil (X.ret (retEnd (L' := L) [.bool (true)] (.bool (true)) (.tmp rfl .nil) rfl rF rF (sD sR) ?_)))))))))
 exact ⟨(vB (reachOk_all (by simp_all) (by omega) (fun i hi => hall i (by omega)))), rfl, rfl⟩

/- impl.ReachOf -/
set_option maxRecDepth 20000 in
theorem ReachOf_spec {F : FH} {L : List HP} {arv : Value} {ar : List Int} (har : IntsF F arv ar) {rsv : Value} {rs : List (List Int × List Int)} (hrs : PairsF F rsv rs) {tv : Value} {t : List Int} (ht : IntsF F tv t) {n : Int} (hlt9 : t.length ≤ 4000000) :
    Does prog 20 [.agg #[arv, rsv], tv, .int .i64 (n)] F (L) (fun v F' L' => ∃ (a : Value), (.tuple #[a, .bool ((reachF ar rs t n).2)] : Value) = v ∧ (RowsF F' a (terms (reachF ar rs t n).1)) ∧ (Fresh F F' (star [rowsD 2 24 a (terms (reachF ar rs t n).1)])) ∧ L = L') := by
 refine Does.of_X func20 rfl rfl rfl (X.seq (X.region (cX (XOp.box [arv, rsv] rfl rfl ?_))))
 intro b1
 refine XL.as ((.slice none 0 0)) rfl (XL.as (.bool (false)) rfl (XL.nil (X.seq (X.seq (X.region (cX (XOp.loadN [arv, rsv] isAgg29 sizeOf29 rfl rfl (Rd.ownN [] rfl rfl) (XL.mv (.int .i64 (n)) rfl (XL.mv (tv) rfl (cX (XOp.buildSlice (s := 1) [tv] [(.slice none 0 0)] [(0, [tv])] runUnderlying47 sizeOf24 zeroValue24 rfl (by decide) rfl (.cons (cells_one (IntsF.isSl ht)) CellsAre.nil) rfl ?_)))))))))))
 intro v1 hv1
 have hc1 : RowsC F [tv] ([t] : List (List Int)) := (RowsC.snoc (CO.nil : RowsC F [] []) ht)
 refine XL.freezeF [] _ _ rfl (fun F1 le1 hz1 => ?_)
 replace har := har.mono le1
 replace hrs := hrs.mono le1
 replace ht := ht.mono le1
 replace hc1 := hc1.mono le1
 have hf1 : RowsF F1 v1 (([t] : List (List Int))) := CO.fz hc1 (by first | rfl | omega | (rw [List.length_set]; omega) | (simp; done)) hz1.fz
 refine cX (XOp.call (args := [.agg #[arv, rsv], .int .i64 (n), v1]) call65 rfl (reachOk_spec (n := n) har hrs hf1 (hlt := (by first | assumption | rfl | omega | simp))) ?_)
 rintro _ _ _ _ ⟨rfl, rfl, rfl⟩
 refine cX (XOp.notB rfl (XL.nil ?_))
 refine X.cond (t := !(reachOkL ar rs n (([t] : List (List Int))))) rfl (fun h1 => ?_) (fun h1 => ?_)
 ·have hro : reachOkL ar rs n [t] = false := by simpa using h1
  refine X.seq (X.region (XL.as ((.slice none 0 0)) rfl (XL.as (.bool (false)) rfl (XL.nil (X.ret (thenQ_ret (retEnd (L' := L) [(.slice none 0 0), .bool (false)] (.tuple #[(.slice none 0 0), .bool (false)]) (.tmp rfl (.tmp rfl .nil)) rfl le1 rF (sD sR) ?_)))))))
  rw [reachF_no hro]
  exact ⟨_, rfl, SlOf.nilV, Fresh.empty nilRowsD, rfl⟩
 have hro : reachOkL ar rs n [t] = true := by simpa using h1
 have hr3 := reachOk_iff.1 hro
 have hsys := hr3.1.1
 have ho := hr3.1.2
 have hro2 := reachL_ok (n := n) hsys ho
 have hro3 := hro2.1
 refine X.skip (X.seq (X.region (cX (XOp.loadN [arv, rsv] isAgg29 sizeOf29 rfl rfl (Rd.ownN [] rfl rfl) (XL.mv (tv) rfl (XL.mv (.int .i64 (n)) rfl (cX (XOp.call (args := [.agg #[arv, rsv], tv, .int .i64 (n)]) call66 rfl (reach_spec (n := n) har hrs ht (hsys := (by first | assumption | rfl | omega | (left; simp; done) | (right; simp; done))) (ho := (by first | assumption | rfl | omega | (left; simp; done) | (right; simp; done))) (hn20 := (by first | assumption | rfl | omega | (left; simp; done) | (right; simp; done)))) ?_))))))))
 rintro _ F2 _ le2 ⟨x1, xcs1, xLs1, rfl, hx1, hxD1, hxZ1, rfl⟩
 refine XL.mv (.tuple #[x1, .bool ((reachL ar rs t n).2)]) rfl (cX (XOp.extract (x1) rfl rfl (cX (XOp.extract (.bool ((reachL ar rs t n).2)) rfl rfl (XL.as (x1) rfl (XL.as (.bool ((reachL ar rs t n).2)) rfl (XL.nil (X.seq (X.region (XL.as ((.slice none 0 0)) rfl (XL.nil (X.seq (X.seq (X.region (XL.mv (x1) rfl (cX (XOp.lenS runUnderlying100 rfl hx1.slv ?_)))))))))))))))))
 refine XL.mv (.int .i64 (0)) rfl (XL.nil (X.block (X.loop (α := Nat × Value × RowL × List Value) (fun xQ => [(9, .bool ((reachL ar rs t n).2)), (10, xQ.2.1), (26, x1), (27, .int .i64 (((((reachL ar rs t n).1).length : Nat) : Int))), (28, .int .i64 (((xQ.1 : Nat) : Int)))]) (fun xQ => slH 24 1 xQ.2.1 xQ.1 xQ.2.2.2 :: cellsH b1 [arv, rsv] 29 :: L) (fun xQ F' => F2 = F' ∧ (IsSl xQ.2.1) ∧ (xQ.1 ≤ (reachL ar rs t n).1.length) ∧ (RowsC F2 xQ.2.2.2 xQ.2.2.1) ∧ (xQ.2.2.1 = (terms (reachL ar rs t n).1).take xQ.1) ∧ (xQ.2.2.2 = firsts xcs1 xQ.1)) (fun xQ => (reachL ar rs t n).1.length - xQ.1) (0, (.slice none 0 0), [], []) ⟨rfl, rfl, rfl, rfl, rfl, trivial⟩ (Sub.trans (Sub.addNil 24 1 _ _) (sC (sC sR))) ⟨rfl, (⟨_, _, _, rfl⟩), (by (try dsimp only) <;> omega), (CO.nil), (rfl), (rfl)⟩ ?_)))
 rintro ⟨k, ov, os, ocs⟩ rE _ _ ⟨rfl, hov, hk, hC, hos, hcs⟩
 show X _ _ _ _ (envs [(9, .bool ((reachL ar rs t n).2)), (10, ov), (26, x1), (27, .int .i64 (((((reachL ar rs t n).1).length : Nat) : Int))), (28, .int .i64 ((k : Int)))] rE) _ (slH 24 1 ov k ocs :: cellsH b1 [arv, rsv] 29 :: L)
 dsimp only at hov hk hC hos hcs
 have hol : os.length = k := by rw [hos, List.length_take, terms_len]; omega
 refine X.seq (X.region (cX (XOp.lss rfl rfl (XL.nil (X.seq ?_)))))
 refine X.condD (p := (k : Int) < ((((reachL ar rs t n).1).length : Nat) : Int)) rfl (fun h2 => ?_) (fun h2 => ?_)
 ·refine X.skip (X.seq (X.block (X.seq (X.region (cX (XOp.indexS k runUnderlying100 sizeOf104 rfl rfl rfl hx1.slv (by omega) rfl ?_))))))
  obtain ⟨a1, a2, ha1, ha2, hrg1, hq1⟩ := hx1.rd (i := k) (by omega)
  refine cX (XOp.loadN [a1, .int .i64 ((((reachL ar rs t n).1).getD k ([], 0, (0, 0, []), 0)).2.1), .int .i64 ((((reachL ar rs t n).1).getD k ([], 0, (0, 0, []), 0)).2.2.1.1), .int .i64 ((((reachL ar rs t n).1).getD k ([], 0, (0, 0, []), 0)).2.2.1.2.1), a2, .int .i64 ((((reachL ar rs t n).1).getD k ([], 0, (0, 0, []), 0)).2.2.2)] isAgg104 sizeOf104 rfl rfl (Rd.all (hrg1 _)) (cX (XOp.alloc [(.slice none 0 0), .int .i64 (0), .int .i64 (0), .int .i64 (0), (.slice none 0 0), .int .i64 (0)] zeroValue104 rfl ?_)))
  intro b2
  refine cX (XOp.storeN [] _ [a1, .int .i64 ((((reachL ar rs t n).1).getD k ([], 0, (0, 0, []), 0)).2.1), .int .i64 ((((reachL ar rs t n).1).getD k ([], 0, (0, 0, []), 0)).2.2.1.1), .int .i64 ((((reachL ar rs t n).1).getD k ([], 0, (0, 0, []), 0)).2.2.1.2.1), a2, .int .i64 ((((reachL ar rs t n).1).getD k ([], 0, (0, 0, []), 0)).2.2.2)] sizeOf104 rfl rfl rfl (ones_cons (one_sl (IntsF.isSl ha1)) (ones_cons rfl (ones_cons rfl (ones_cons rfl (ones_cons (one_sl (IntsF.isSl ha2)) (ones_cons rfl ones_nil)))))) rfl rfl rfl (XL.nil (X.region (XL.mv (ov) rfl (cX (XOp.fieldP (0) runUnderlying104 rfl sizeOf24 (by decide) rfl rfl (cX (XOp.load1 isAgg24 rfl (Rd.own [] rfl rfl) (cX (XOp.buildSlice (s := 1) [a1] [(.slice none 0 0)] [(0, [a1])] runUnderlying47 sizeOf24 zeroValue24 rfl (by decide) rfl (.cons (cells_one (IntsF.isSl ha1)) CellsAre.nil) rfl ?_))))))))))
  intro v2 hv2
  refine cX (XOp.append (m := 1) (bytes := 24) (cs := ocs) [_, _] _ [a1] runUnderlying47 typeInfo24 rfl rfl rfl rfl rfl rfl rfl (SlV.own [] rfl) rfl (Rd.lit [] rfl) (ones_cons (one_sl (IntsF.isSl ha1)) ones_nil) (by (try simp only [List.length_append, List.length_nil, List.length_cons, List.length_singleton]); omega) (by (try simp only [List.length_append, List.length_nil, List.length_cons, List.length_singleton]); omega) ?_)
  intro v3 hs1 hn1 hm1
  have hc2 := RowsC.snoc hC ha1
  refine XL.as (v3) rfl (XL.nil (X.region (cX (XOp.addR (((k + 1 : Nat) : Int)) rfl rfl (by omega) (by omega) (XL.mv (.int .i64 (((k + 1 : Nat) : Int))) rfl (XL.nil ?_))))))
  exact ⟨(k + 1, v3, os ++ [(((reachL ar rs t n).1).getD k ([], 0, (0, 0, []), 0)).1], ocs ++ [a1]), _, FLe.refl _, rF, ⟨rfl, rfl, rfl, rfl, rfl, trivial⟩, (sD (sD (sC (sC sR)))), ⟨rfl, (hs1), (by (try dsimp only) <;> omega), (hc2), (by (try dsimp only); rw [hos, take_succ_getD [] (by rw [terms_len]; omega), terms_get]), (by (try dsimp only); rw [hcs]; exact (firsts_succ (hq1 0 _ rfl)).symm)⟩, (by omega)⟩
 refine X.exit (thenQ_exit (thenQ_exit (blockQ_exit (X.seq (X.region (XL.mv (ov) rfl (XL.mv (.bool ((reachL ar rs t n).2)) rfl (XL.as (ov) rfl (XL.as (.bool ((reachL ar rs t n).2)) rfl (XL.nil (X.freezeF [] _ _ rfl (fun F3 le3 hz2 => ?_))))))))))))
 replace hC := hC.mono le3
 have hf2 : RowsF F3 ov os := CO.fz hC (by first | rfl | omega | (rw [List.length_set]; omega) | (simp; done)) hz2.fz
 refine X.ret (retEnd (L' := L) [ov, .bool ((reachL ar rs t n).2)] (.tuple #[ov, .bool ((reachL ar rs t n).2)]) (.tmp rfl (.tmp rfl .nil)) rfl (FLe.trans (FLe.trans le1 le2) le3) rF (sD sR) ?_)
 have hkl : k = (reachL ar rs t n).1.length := by omega
 have e1 : os = terms (reachL ar rs t n).1 := by rw [hos, hkl, ← terms_len, List.take_length]
 have e2 : ocs = firsts xcs1 (reachL ar rs t n).1.length := by rw [hcs, hkl]
 have hz9 := hz2
 rw [e2, hkl] at hz9
 rw [reachF_yes hro]
 subst e1
 exact ⟨_, rfl, hf2, Fresh.one ((Fresh.deep (DeepL.firsts hxD1) hxZ1 le2 hz9 (by (try rw [List.length_map])) le3).base le1), rfl⟩
end Go.Proofs.YtmaaifhmhclhdaaGreat
set_option linter.unusedSimpArgs false
set_option linter.unusedVariables false
namespace Go.Proofs.YtmaaifhmhclhdaaGreat
open Go X M Tryz

/- (*impl.Walk).add -/
theorem walkAdd_spec {F : FH} {L : List HP} {b m : Nat} {fv sv tov : Value} {ss : List StepT} {cs : List Value} {i j : Int} {to : List Int} (hto : IntsF F tov to) (hsv : IsSl sv) (hC : StepsC F cs ss) (hm : m = ss.length) (hsb : ss.length ≤ 4000000) (hlt : to.length ≤ 4000000) :
    Does prog 151 [ptr b 0, .agg #[.int .i64 (i), .int .i64 (j), tov]] F (cellsH b [fv, sv] 34 :: slH 68 3 sv m cs :: L) (fun v F' L' => ∃ (sw cw : Value), IsSl sw ∧ IntsF F' cw to ∧ Fresh F F' (intsH 2 cw to) ∧ cellsH b [fv, sw] 34 :: slH 68 3 sw (m + 1) (cs ++ [.int .i64 i, .int .i64 j, cw]) :: L = L') := by
 refine Does.of_X func151 rfl rfl rfl (X.seq (X.region (cX (XOp.box [.int .i64 (i), .int .i64 (j), tov] rfl rfl ?_))))
 intro b1
 refine XL.nil (X.weaken (Sub.front (A := [_, _])) ?_)
 show X _ _ _ _ _ _ (slH 68 3 sv m cs :: cellsH b1 [.int .i64 (i), .int .i64 (j), tov] 68 :: cellsH b [fv, sv] 34 :: L)
 refine X.drawH [cellsH b1 [.int .i64 (i), .int .i64 (j), tov] 68, cellsH b [fv, sv] 34] L 15 [[], [], [], [], [], [], [], [], [], [], [], [], [11], [11], [11, 13]] [[], [], [1], [2], [3], [], [5], [], [7], [], [9], [10], [6, 8, 11], [11, 12], [4, 11, 13]] [[], [], [], [], [], [], [], [], [], [], [], [], [], [], [13]] (phiG [fun FF us v => v = ptr b 0, fun FF us v => v = ptr b 0, fun FF us v => v = ptr b 0, fun FF us v => v = ptr b 1, fun FF us v => v = sv, fun FF us v => v = ptr b1 0, fun FF us v => v = (.int .i64 (i) : Value), fun FF us v => v = ptr b1 1, fun FF us v => v = (.int .i64 (j) : Value), fun FF us v => v = ptr b1 2, fun FF us v => v = tov, fun FF us v => ((v) : Value) = v ∧ (IntsF FF (v) (to)) ∧ (FrIntsF F FF 2 (v) (to)), fun FF us v => v = (.agg #[.int .i64 (i), .int .i64 (j), ((us.getD 0 undef))] : Value), fun FF us v => ∃ b, v = .slice (some ⟨b, 0, none⟩) 1 1, fun FF us v => IsSl v]) (ownL [fun us v => [], fun us v => [], fun us v => [], fun us v => [], fun us v => [], fun us v => [], fun us v => [], fun us v => [], fun us v => [], fun us v => [], fun us v => [], fun us v => [], fun us v => [], fun us v => [slH 68 3 v 1 [.int .i64 (i), .int .i64 (j), ((us.getD 0 undef))]], fun us v => [slH 68 3 (us.getD 1 undef) 1 [.int .i64 (i), .int .i64 (j), ((us.getD 0 undef))], slH 68 3 (v) ((m) + 1) (cs ++ [.int .i64 (i), .int .i64 (j), ((us.getD 0 undef))])]]) (fun i => ([[], [], [], [], [], [], [], [], [], [], [], [], [], [], [slH 68 3 sv m cs]] : List (List HP)).getD i []) mixed rfl rfl (by kernel_rfl) (by kernel_rfl) (MonoG.get (mC (fun le h => h) (mC (fun le h => h) (mC (fun le h => h) (mC (fun le h => h) (mC (fun le h => h) (mC (fun le h => h) (mC (fun le h => h) (mC (fun le h => h) (mC (fun le h => h) (mC (fun le h => h) (mC (fun le h => h) (mC (fun le h => ⟨h.1, h.2.1.mono le, h.2.2.mono le⟩) (mC (fun le h => h) (mC (fun le h => h) (mC (fun le h => h) MonoG.nil)))))))))))))))) ?_ ?_
 ·refine stepsT.cons (fun vals Fs R leFs hpZ => ?_) ?_
  ·refine XG.op (XOp.move (ptr b 0) rfl ?_)
   exact ⟨rfl, rfl⟩
  refine stepsT.cons (fun vals Fs R leFs hpZ => ?_) ?_
  ·refine XG.op (XOp.move (ptr b 0) rfl ?_)
   exact ⟨rfl, rfl⟩
  refine stepsT.cons (fun vals Fs R leFs hpZ => ?_) ?_
  ·replace hto := hto.mono leFs
   replace hC := hC.mono leFs
   rw [eS (l := [(1, ptr b 0)]) ⟨(hpZ 1 (by decide)), trivial⟩]
   refine XG.op (XOp.nilCheck rfl ?_)
   exact ⟨rfl, rfl⟩
  refine stepsT.cons (fun vals Fs R leFs hpZ => ?_) ?_
  ·rw [eS (l := [(2, ptr b 0)]) ⟨(hpZ 2 (by decide)), trivial⟩]
   refine XG.op (XOp.fieldP (1) runUnderlying34 rfl sizeOf32 (by decide) rfl rfl ?_)
   exact ⟨rfl, rfl⟩
  refine stepsT.cons (fun vals Fs R leFs hpZ => ?_) ?_
  ·replace hto := hto.mono leFs
   replace hC := hC.mono leFs
   rw [eS (l := [(3, ptr b 1)]) ⟨(hpZ 3 (by decide)), trivial⟩]
   refine XG.op (XOp.load1 isAgg32 rfl (Rd.own [_] rfl rfl) ?_)
   exact ⟨rfl, rfl⟩
  refine stepsT.cons (fun vals Fs R leFs hpZ => ?_) ?_
  ·refine XG.op (XOp.fieldP (0) runUnderlying68 rfl sizeOf2 (by decide) rfl rfl ?_)
   exact ⟨rfl, rfl⟩
  refine stepsT.cons (fun vals Fs R leFs hpZ => ?_) ?_
  ·replace hto := hto.mono leFs
   replace hC := hC.mono leFs
   rw [eS (l := [(5, ptr b1 0)]) ⟨(hpZ 5 (by decide)), trivial⟩]
   refine XG.op (XOp.load1 isAgg2 rfl (Rd.own [] rfl rfl) ?_)
   exact ⟨rfl, rfl⟩
  refine stepsT.cons (fun vals Fs R leFs hpZ => ?_) ?_
  ·refine XG.op (XOp.fieldP (1) runUnderlying68 rfl sizeOf2 (by decide) rfl rfl ?_)
   exact ⟨rfl, rfl⟩
  refine stepsT.cons (fun vals Fs R leFs hpZ => ?_) ?_
  ·replace hto := hto.mono leFs
   replace hC := hC.mono leFs
   rw [eS (l := [(7, ptr b1 1)]) ⟨(hpZ 7 (by decide)), trivial⟩]
   refine XG.op (XOp.load1 isAgg2 rfl (Rd.own [] rfl rfl) ?_)
   exact ⟨rfl, rfl⟩
  refine stepsT.cons (fun vals Fs R leFs hpZ => ?_) ?_
  ·refine XG.op (XOp.fieldP (2) runUnderlying68 rfl sizeOf24 (by decide) rfl rfl ?_)
   exact ⟨rfl, rfl⟩
  refine stepsT.cons (fun vals Fs R leFs hpZ => ?_) ?_
  ·replace hto := hto.mono leFs
   replace hC := hC.mono leFs
   rw [eS (l := [(9, ptr b1 2)]) ⟨(hpZ 9 (by decide)), trivial⟩]
   refine XG.op (XOp.load1 isAgg24 rfl (Rd.own [] rfl rfl) ?_)
   exact ⟨rfl, rfl⟩
  refine stepsT.cons (fun vals Fs R leFs hpZ => ?_) ?_
  ·replace hto := hto.mono leFs
   replace hC := hC.mono leFs
   rw [eS (l := [(10, tov)]) ⟨(hpZ 10 (by decide)), trivial⟩]
   refine XG.op (XOp.frzF <| XOp.call (args := [tov]) call60 rfl (Clone_spec hto (hlt := (by first | assumption | rfl | omega | simp))) ?_)
   rintro v4 _ _ _ ⟨rfl, hs3, rfl⟩
   refine ⟨_, _, rfl, fun F1 le1 hz1 => ?_⟩
   replace hC := hC.mono le1
   have hf1 : IntsF F1 v4 ((to)) := intsH.fz (xs := (to)) hz1.fz
   exact ⟨⟨rfl, hf1, (hz1.base leFs)⟩, rfl⟩
  refine stepsT.cons (fun vals Fs R leFs hpZ => ?_) ?_
  ·obtain ⟨e11, f11_1ha, f11_1hz⟩ := hpZ 11 (by decide)
   replace hC := hC.mono leFs
   rw [eS (l := [(6, (.int .i64 (i) : Value)), (8, (.int .i64 (j) : Value)), (11, ((vals 11)))]) ⟨(hpZ 6 (by decide)), (hpZ 8 (by decide)), (e11).symm, trivial⟩]
   refine XG.op (XOp.build [.int .i64 (i), .int .i64 (j), ((vals 11))] [.int .i64 (0), .int .i64 (0), (.slice none 0 0)] [(0, 1), (1, 1), (2, 1)] [(0, [.int .i64 (i)]), (1, [.int .i64 (j)]), (2, [((vals 11))])] runUnderlying68 zeroValue68 rfl (.cons rfl sizeOf2 (.cons rfl sizeOf2 (.cons rfl sizeOf24 PlacesAre.nil))) rfl (.cons rfl (.cons rfl (.cons (cells_one (IntsF.isSl f11_1ha)) CellsAre.nil))) ?_)
   exact ⟨rfl, rfl⟩
  refine stepsT.cons (fun vals Fs R leFs hpZ => ?_) ?_
  ·obtain ⟨e11, f11_1ha, f11_1hz⟩ := hpZ 11 (by decide)
   have e12 : vals 12 = (.agg #[.int .i64 (i), .int .i64 (j), ((vals 11))] : Value) := hpZ 12 (by decide)
   replace hC := hC.mono leFs
   rw [eS (l := [(11, ((vals 11))), (12, (.agg #[.int .i64 (i), .int .i64 (j), ((vals 11))] : Value))]) ⟨(e11).symm, e12, trivial⟩]
   refine XG.op (XOp.buildSlice (s := 3) [.int .i64 (i), .int .i64 (j), ((vals 11))] [.int .i64 (0), .int .i64 (0), (.slice none 0 0)] [(0, [.int .i64 (i), .int .i64 (j), ((vals 11))])] runUnderlying32 sizeOf68 zeroValue68 rfl (by decide) rfl (.cons rfl CellsAre.nil) rfl ?_)
   intro v5 hv2
   exact ⟨hv2, rfl⟩
  refine stepsT.cons (fun vals Fs R leFs hpZ => ?_) ?_
  ·obtain ⟨e11, f11_1ha, f11_1hz⟩ := hpZ 11 (by decide)
   have f13 : ∃ b, (vals 13) = .slice (some ⟨b, 0, none⟩) 1 1 := hpZ 13 (by decide)
   replace hC := hC.mono leFs
   rw [eS (l := [(4, sv), (11, ((vals 11)))]) ⟨(hpZ 4 (by decide)), (e11).symm, trivial⟩]
   show XG _ _ _ _ _ (slH 68 3 (vals 13) 1 [.int .i64 (i), .int .i64 (j), ((vals 11))] :: slH 68 3 sv m cs :: ([cellsH b1 [.int .i64 (i), .int .i64 (j), tov] 68, cellsH b [fv, sv] 34] ++ R)) _
   refine XG.op (XOp.append (m := 1) (bytes := 40) (cs := cs) [_] _ [.int .i64 (i), .int .i64 (j), ((vals 11))] runUnderlying32 typeInfo68 rfl rfl rfl rfl rfl rfl rfl (SlV.own [] rfl) rfl (Rd.lit [] rfl) (ones_cons rfl (ones_cons rfl (ones_cons (one_sl (IntsF.isSl f11_1ha)) ones_nil))) (by (try simp only [List.length_append, List.length_nil, List.length_cons, List.length_singleton]); omega) (by (try simp only [List.length_append, List.length_nil, List.length_cons, List.length_singleton]); omega) ?_)
   intro v6 hs4 hn2 hm2
   have hc2 := StepsC.snoc hC (i := i) (j := j) f11_1ha
   exact ⟨hs4, rfl⟩
  exact stepsT.nil
 intro vals F2 le2 hphi
 obtain ⟨e11, f11_1ha, f11_1hz⟩ := hphi 11 (by decide)
 have e12 : vals 12 = (.agg #[.int .i64 (i), .int .i64 (j), ((vals 11))] : Value) := hphi 12 (by decide)
 have f13 : ∃ b, (vals 13) = .slice (some ⟨b, 0, none⟩) 1 1 := hphi 13 (by decide)
 have f14 : IsSl (vals 14) := hphi 14 (by decide)
 generalize hu1 : ((vals 11)) = u1 at e11 f11_1ha f11_1hz e12 f13 f14
 generalize hu13 : vals 13 = u2 at e11 f11_1ha f11_1hz e12 f13 f14
 generalize hu14 : vals 14 = u3 at e11 f11_1ha f11_1hz e12 f13 f14
 rw [eS (l := [(0, ptr b 0), (11, u1), (13, u2), (14, u3)]) ⟨(hphi 0 (by decide)), hu1, hu13, hu14, trivial⟩]
 replace hC := hC.mono le2
 have hc3 := StepsC.snoc hC (i := i) (j := j) f11_1ha
 show XL _ _ _ _ _ _ _ (slH 68 3 u2 1 [.int .i64 (i), .int .i64 (j), u1] :: slH 68 3 u3 ((m) + 1) (cs ++ [.int .i64 (i), .int .i64 (j), u1]) :: cellsH b1 [.int .i64 (i), .int .i64 (j), tov] 68 :: cellsH b [fv, sv] 34 :: L)
 skip
 refine cX (XOp.nilCheck rfl (cX (XOp.fieldP (1) runUnderlying34 rfl sizeOf32 (by decide) rfl rfl (cX (XOp.store1 [_, _, _] _ [fv, u3] sizeOf32 rfl rfl (one_sl f14) rfl rfl rfl (XL.nil (id (retEndN (L' := cellsH b [fv, u3] 34 :: slH 68 3 u3 ((m) + 1) (cs ++ [.int .i64 (i), .int .i64 (j), u1]) :: L) [] (.tuple #[]) (by exact .nil) rfl le2 rF (Sub.trans (Sub.front (A := [_])) (Sub.trans (Sub.front (A := [_, _, _])) (sC (sC (sD (sD sR)))))) ?_))))))))
 exact ⟨_, _, f14, f11_1ha, f11_1hz, rfl⟩

/- slices.Backward[[]impl.Step,impl.Step] -/
theorem backward_spec {F : FH} {L : List HP} {sv : Value} {s : List StepT} (hs : StepsF F sv s) :
    Does prog 181 [sv] F (L) (fun v F' L' => ∃ (bt : Nat), (.func (.func 202) #[] #[ptr bt 0] : Value) = v ∧ FzC F' bt [sv] ∧ L = L') := by
 refine Does.of_X func181 rfl rfl rfl (X.seq (X.region (cX (XOp.box [sv] rfl (cells_one (StepsF.isSl hs)) ?_))))
 intro b1
 refine XL.as (.nilFunc) rfl (XL.nil (X.seq (X.region (cX (XOp.makeFuncL [] [ptr b1 0] rfl rfl (XL.as (.func (.func 202) #[] #[ptr b1 0]) rfl (XL.nil (X.freeze [] _ _ rfl (fun F1 le1 hz1 => ?_)))))))))
 have hf1 : FzC F1 b1 [sv] := Fz.cells hz1
 refine X.ret (retEnd (L' := L) [.func (.func 202) #[] #[ptr b1 0]] (.func (.func 202) #[] #[ptr b1 0]) (.tmp rfl .nil) rfl le1 rF sR ?_)
 exact ⟨_, rfl, hf1, rfl⟩

/- slices.Backward[[]impl.Step,impl.Step]$1 -/
set_option maxRecDepth 20000 in
theorem backIt_spec {F : FH} {L : List HP} {l bt : Nat} {R : Loop} {sv : Value} {ss : List StepT} (hbt : FzC F bt [sv]) (hs : StepsF F sv ss) (hsl : ss.length ≤ 4000000) {J : Nat → FH → List HP → Prop} (hJ0 : J ss.length F L) (hyes : ∀ (k : Nat) (i : Int) (Fy : FH) (Ly : List HP) (tov : Value), k < ss.length → F ≤ Fy → J (k + 1) Fy Ly → IntsF Fy tov (ss.getD k (0, 0, [])).2.2 → i = (k : Int) → Yld prog l [.int .i64 i, .agg #[.int .i64 (ss.getD k (0, 0, [])).1, .int .i64 (ss.getD k (0, 0, [])).2.1, tov]] Fy (objH l (.loop R) :: Ly) (fun v F' L' => .bool true = v ∧ ∃ L2, J k F' L2 ∧ objH l (.loop R) :: L2 = L')) :
    Does prog 202 [(.func (.yield l) #[] #[]), ptr bt 0] F (objH l (.loop R) :: L) (fun v F' L' => ∃ L2, J 0 F' L2 ∧ objH l (.loop R) :: L2 = L') := by
 refine Does.of_X func202 rfl rfl rfl (X.seq (X.region (cX (XOp.load1 isAgg32 rfl (FzC.rd1 hbt rfl) (cX (XOp.lenS runUnderlying32 rfl hs.slv (cX (XOp.subR (((ss.length : Int)) - 1) rfl rfl (by omega) (by omega) (XL.as (.int .i64 (((ss.length : Int)) - 1)) rfl (XL.nil (X.block (X.loop (α := Nat × List HP × FH) (fun xQ => [(0, (.func (.yield l) #[] #[])), (1, ptr bt 0), (3, .int .i64 ((xQ.1 : Int) - 1))]) (fun xQ => objH l (.loop R) :: xQ.2.1) (fun xQ F' => xQ.2.2 = F' ∧ F ≤ xQ.2.2 ∧ (xQ.1 ≤ ss.length) ∧ (J xQ.1 xQ.2.2 xQ.2.1)) (fun xQ => xQ.1) (ss.length, L, F) ⟨rfl, rfl, rfl, trivial⟩ (sC sR) ⟨rfl, FLe.refl _, (Nat.le_refl _), (hJ0)⟩ ?_))))))))))))
 rintro ⟨j, Lk, G1⟩ rE _ _ ⟨rfl, leG, hj, hJ⟩
 show X _ _ _ _ (envs [(0, (.func (.yield l) #[] #[])), (1, ptr bt 0), (3, .int .i64 ((j : Int) - 1))] rE) _ (objH l (.loop R) :: Lk)
 replace leG : F ≤ G1 := leG
 dsimp only at hj hJ
 have hjl : j - 1 < ss.length ∨ j = 0 := by omega
 have leG1 := leG
 replace hs := hs.mono leG1
 replace hbt := hbt.mono leG1
 refine X.seq (X.seq (X.region (XL.mv (.int .i64 ((j : Int) - 1)) rfl (cX (XOp.geq rfl rfl (XL.nil ?_))))))
 refine X.condD (p := ((j : Int) - 1 : Int) ≥ 0) rfl (fun h1 => ?_) (fun h1 => ?_)
 ·have hj0 : ((j : Int) - 1).toNat = j - 1 := by omega
  have hjk : ((j : Int) - 1) = ((j - 1 : Nat) : Int) := by omega
  refine X.skip (X.seq (X.block (X.seq (X.ofI (by kernel_rfl) (XI.region (XIL.cons (XOp.move ((.func (.yield l) #[] #[])) rfl (XIL.cons (XOp.move (.int .i64 ((j : Int) - 1)) rfl (XIL.cons (XOp.load1 isAgg32 rfl (FzC.rd1 hbt rfl) (XIL.cons (XOp.move (.int .i64 ((j : Int) - 1)) rfl (XIL.cons (XOp.indexS (((j : Int) - 1).toNat) runUnderlying32 sizeOf68 rfl rfl (by omega) hs.slv (by omega) rfl ?_)))))))))))))))
  obtain ⟨a1, ha1, hr1, hr2, hr3⟩ := hs.rd (i := ((j : Int) - 1).toNat) (by omega)
  refine XIL.cons (XOp.loadN [.int .i64 ((ss.getD (((j : Int) - 1).toNat) (0, 0, [])).1), .int .i64 ((ss.getD (((j : Int) - 1).toNat) (0, 0, [])).2.1), a1] isAgg68 sizeOf68 rfl rfl (Rd.three (hr1 _) (hr2 _) (hr3 _)) (XIL.yield (k := l) (args := [.int .i64 ((j : Int) - 1), .agg #[.int .i64 ((ss.getD (((j : Int) - 1).toNat) (0, 0, [])).1), .int .i64 ((ss.getD (((j : Int) - 1).toNat) (0, 0, [])).2.1), a1]]) rfl (by rfl) (Yld.weaken (sC sR) ?_)))
  have hJ9 : J ((((j : Int) - 1).toNat) + 1) G1 Lk := by rw [show ((j : Int) - 1).toNat + 1 = j from by omega]; exact hJ
  refine (hyes _ _ _ _ _ (by omega) leG1 hJ9 ha1 (by omega)).mono ?_
  rintro _ F1 _ le1 ⟨rfl, Lj1, hJ1, rfl⟩
  rw [hj0] at hJ1
  show XIL _ _ _ _ _ _ _ _ _ (objH l (.loop R) :: Lj1)
  refine XIL.cons (XOp.notB rfl (XIL.nil (X.condF rfl (X.skip (X.region (XL.mv (.int .i64 ((j : Int) - 1)) rfl (cX (XOp.subR (((j : Int) - 1) - 1) rfl rfl (by omega) (by omega) (XL.as (.int .i64 (((j : Int) - 1) - 1)) rfl (XL.nil ?_))))))))))
  exact ⟨(j - 1, Lj1, F1), _, (FLe.trans leG1 le1), rF, ⟨rfl, rfl, (vI (by (try dsimp only); omega)), trivial⟩, (sC sR), ⟨rfl, (FLe.trans leG1 le1), (by (try dsimp only) <;> omega), (hJ1)⟩, (by (try dsimp only); omega)⟩
 refine X.exit (thenQ_exit (thenQ_exit (blockQ_exit (id (retEndN (L' := objH l (.loop R) :: Lk) [] (.tuple #[]) (by exact .nil) rfl leG1 rF (sC sR) ?_)))))
 obtain rfl : j = 0 := by omega
 exact ⟨_, hJ, rfl⟩

/- impl.walkBack -/
set_option maxRecDepth 20000 in
theorem walkBack_spec {F : FH} {L : List HP} {alv : Value} {al : List FoundT} {alcs : List Value} (hal : FoundsF F alv al alcs) {k : Nat} (hk : k < al.length) (hll : al.length ≤ 60) (hlk : Link al) (hbd : ∀ i, i < al.length → (EL al i).1.length ≤ 60) :
    Does prog 127 [alv, .int .i64 ((k : Int))] F (L) (fun v F' L' => ∃ (a : Value), ∃ (b : Value), (.agg #[a, b] : Value) = v ∧ (IntsF F' a (EL al 0).1) ∧ (StepsF F' b (walkL al k)) ∧ (Fresh F F' (star [intsH 2 a (EL al 0).1, stepsD 2 68 b (walkL al k)])) ∧ L = L') := by
 refine Does.of_XF func127 rfl (by kernel_rfl) rfl ?_
 have hbd0 : (al.getD 0 ([], 0, (0, 0, []), 0)).1.length ≤ 60 := hbd 0 (by omega)
 refine XF.seq (X.region (cX (XOp.alloc [(.slice none 0 0), (.slice none 0 0)] zeroValue34 rfl ?_)))
 intro b1
 refine XL.nil (XF.seq (X.region (XL.mv (alv) rfl (cX (XOp.indexS 0 runUnderlying100 sizeOf104 rfl rfl rfl hal.slv (by omega) rfl (cX (XOp.fieldE (0 * 6) runUnderlying104 rfl sizeOf24 (by decide) rfl rfl ?_)))))))
 obtain ⟨a1, a2, ha1, ha2, hrg1, hq1⟩ := hal.rd (i := 0) (by omega)
 refine cX (XOp.load1 isAgg24 rfl (hrg1 _ 0 _ rfl) (cX (XOp.frzF <| XOp.call (args := [a1]) call60 rfl (Clone_spec ha1 (hlt := (by first | assumption | rfl | omega | simp))) ?_)))
 rintro v1 _ _ _ ⟨rfl, hs1, rfl⟩
 refine ⟨_, _, rfl, fun F1 le1 hz1 => ?_⟩
 replace hal := hal.mono le1
 have hf1 : IntsF F1 v1 ((((al.getD 0 ([], 0, (0, 0, []), 0)).1))) := intsH.fz (xs := (((al.getD 0 ([], 0, (0, 0, []), 0)).1))) hz1.fz
 refine cX (XOp.build [v1, (.slice none 0 0)] [(.slice none 0 0), (.slice none 0 0)] [(0, 1), (1, 1)] [(0, [v1])] runUnderlying34 zeroValue34 rfl (.cons rfl sizeOf24 (.cons rfl sizeOf32 PlacesAre.nil)) rfl (.cons (cells_one (IntsF.isSl hf1)) CellsAre.nil) (cX (XOp.alloc [(.slice none 0 0), (.slice none 0 0)] zeroValue34 rfl ?_)))
 intro b2
 refine cX (XOp.storeN [] _ [v1, (.slice none 0 0)] sizeOf34 rfl rfl rfl (ones_cons (one_sl (IntsF.isSl hf1)) (ones_cons rfl ones_nil)) rfl rfl rfl (XL.nil (XF.seq (X.region (XL.as ((.slice none 0 0)) rfl (XL.nil (XF.seq (X.block (X.loop (α := Nat × Value × List StepT × List Value × Nat) (fun xQ => [(0, alv), (1, .int .i64 (((xQ.1 : Nat) : Int))), (4, ptr b1 0), (5, ptr b2 0), (6, xQ.2.1)]) (fun xQ => slH 68 3 xQ.2.1 xQ.2.2.2.2 xQ.2.2.2.1 :: cellsH b2 [v1, (.slice none 0 0)] 34 :: cellsH b1 [(.slice none 0 0), (.slice none 0 0)] 34 :: L) (fun xQ F' => F1 = F' ∧ (xQ.1 < al.length) ∧ (IsSl xQ.2.1) ∧ (StepsC F1 xQ.2.2.2.1 xQ.2.2.1) ∧ (xQ.2.2.2.2 = xQ.2.2.1.length) ∧ (xQ.2.2.2.2 + xQ.1 ≤ k) ∧ (backL al k = xQ.2.2.1 ++ backL al xQ.1)) (fun xQ => xQ.1) (k, (.slice none 0 0), [], [], 0) ⟨rfl, rfl, rfl, rfl, rfl, trivial⟩ (Sub.trans (Sub.addNil 68 3 _ _) (sC (sC (sC sR)))) ⟨rfl, (hk), (⟨_, _, _, rfl⟩), (CO.nil), (rfl), (by (try dsimp only) <;> omega), (rfl)⟩ ?_)))))))))
 rintro ⟨j, sv, ss, cs, m⟩ rE _ _ ⟨rfl, hj, hsv, hC, hm, hmj, hbk⟩
 show X _ _ _ _ (envs [(0, alv), (1, .int .i64 ((j : Int))), (4, ptr b1 0), (5, ptr b2 0), (6, sv)] rE) _ (slH 68 3 sv m cs :: cellsH b2 [v1, (.slice none 0 0)] 34 :: cellsH b1 [(.slice none 0 0), (.slice none 0 0)] 34 :: L)
 dsimp only at hj hsv hC hm hmj hbk
 have hlj := fun (h : 0 < j) => hlk.2 j h hj
 have hljx : 0 < j → 0 ≤ (al.getD j ([], 0, (0, 0, []), 0)).2.1 ∧ (al.getD j ([], 0, (0, 0, []), 0)).2.1 < (j : Int) := fun h => ⟨(hlj h).1, (hlj h).2.1⟩
 refine X.seq (X.seq (X.region (XL.mv (.int .i64 ((j : Int))) rfl (cX (XOp.gtr rfl rfl (XL.nil ?_))))))
 refine X.condD (p := (j : Int) > 0) rfl (fun h1 => ?_) (fun h1 => ?_)
 ·refine X.skip (X.seq (X.block (X.region (XL.mv (sv) rfl (XL.mv (alv) rfl (XL.mv (.int .i64 ((j : Int))) rfl (cX (XOp.indexS j runUnderlying100 sizeOf104 rfl rfl rfl hal.slv (by omega) rfl (cX (XOp.fieldE (j * 6 + 2) runUnderlying104 rfl sizeOf68 (by decide) rfl rfl ?_))))))))))
  obtain ⟨a3, a4, ha3, ha4, hrg2, hq2⟩ := hal.rd (i := j) (by omega)
  refine cX (XOp.loadN [.int .i64 ((al.getD j ([], 0, (0, 0, []), 0)).2.2.1.1), .int .i64 ((al.getD j ([], 0, (0, 0, []), 0)).2.2.1.2.1), a4] isAgg68 sizeOf68 rfl rfl (Rd.part 2 (hrg2 _) rfl) (cX (XOp.buildSlice (s := 3) [.int .i64 ((al.getD j ([], 0, (0, 0, []), 0)).2.2.1.1), .int .i64 ((al.getD j ([], 0, (0, 0, []), 0)).2.2.1.2.1), a4] [.int .i64 (0), .int .i64 (0), (.slice none 0 0)] [(0, [.int .i64 ((al.getD j ([], 0, (0, 0, []), 0)).2.2.1.1), .int .i64 ((al.getD j ([], 0, (0, 0, []), 0)).2.2.1.2.1), a4])] runUnderlying32 sizeOf68 zeroValue68 rfl (by decide) rfl (.cons rfl CellsAre.nil) rfl ?_)))
  intro v2 hv1
  refine cX (XOp.append (m := 1) (bytes := 40) (cs := cs) [_] _ [.int .i64 ((al.getD j ([], 0, (0, 0, []), 0)).2.2.1.1), .int .i64 ((al.getD j ([], 0, (0, 0, []), 0)).2.2.1.2.1), a4] runUnderlying32 typeInfo68 rfl rfl rfl rfl rfl rfl rfl (SlV.own [] rfl) rfl (Rd.lit [] rfl) (ones_cons rfl (ones_cons rfl (ones_cons (one_sl (IntsF.isSl ha4)) ones_nil))) (by (try simp only [List.length_append, List.length_nil, List.length_cons, List.length_singleton]); omega) (by (try simp only [List.length_append, List.length_nil, List.length_cons, List.length_singleton]); omega) ?_)
  intro v3 hs2 hn1 hm1
  have hc1 := StepsC.snoc hC (i := (al.getD j ([], 0, (0, 0, []), 0)).2.2.1.1) (j := (al.getD j ([], 0, (0, 0, []), 0)).2.2.1.2.1) ha4
  refine XL.as (v3) rfl (XL.nil (X.region (XL.mv (alv) rfl (XL.mv (.int .i64 ((j : Int))) rfl (cX (XOp.indexS j runUnderlying100 sizeOf104 rfl rfl rfl hal.slv (by omega) rfl (cX (XOp.fieldE (j * 6 + 1) runUnderlying104 rfl sizeOf3 (by decide) rfl rfl (cX (XOp.load1 isAgg3 rfl (hrg2 _ 1 _ rfl) (XL.as (.int .i64 ((al.getD j ([], 0, (0, 0, []), 0)).2.1)) rfl (XL.nil ?_))))))))))))
  exact ⟨((al.getD j ([], 0, (0, 0, []), 0)).2.1.toNat, v3, ss ++ [((al.getD j ([], 0, (0, 0, []), 0)).2.2.1.1, (al.getD j ([], 0, (0, 0, []), 0)).2.2.1.2.1, (al.getD j ([], 0, (0, 0, []), 0)).2.2.1.2.2)], cs ++ [.int .i64 ((al.getD j ([], 0, (0, 0, []), 0)).2.2.1.1), .int .i64 ((al.getD j ([], 0, (0, 0, []), 0)).2.2.1.2.1), a4], (m) + 1), _, FLe.refl _, rF, ⟨rfl, (vI (by have := hljx (by omega); (try dsimp only); omega)), rfl, rfl, rfl, trivial⟩, (sD (sC (sC (sC sR)))), ⟨rfl, (by have := hljx (by omega); (try dsimp only); omega), (hs2), (hc1), (by (try dsimp only); rw [List.length_append, List.length_singleton]; omega), (by have := hljx (by omega); (try dsimp only); omega), (by (try dsimp only); rw [hbk, backL_succ hlk (by omega) hj, List.append_assoc]; rfl)⟩, (by have := hljx (by omega); (try dsimp only); omega)⟩
 refine X.exit (thenQ_exit (thenQ_exit (blockQ_exit (XF.ofR (XR.seq (X.region ?_))))))
 skip
 refine XL.mv (sv) rfl (XL.freezeF [] _ _ rfl (fun F2 le2 hz2 => ?_))
 replace hf1 := hf1.mono le2
 replace hC := hC.mono le2
 have hf2 : StepsF F2 sv ss := CO.fz hC (by first | rfl | omega | (rw [List.length_set]; omega) | (simp; done)) hz2.fz
 refine cX (XOp.call (args := [sv]) call181 rfl (backward_spec hf2) ?_)
 rintro _ F3 _ le3 ⟨x1, rfl, hb1, rfl⟩
 replace hf1 := hf1.mono le3
 replace hf2 := hf2.mono le3
 refine XL.nil (XR.rangeB (gf := 202) (lb := [ptr x1 0]) rfl call202 (fun l D R hRs hRp hRps hRa hRb hRz hRg => ?_))
 have hR0 : ({ R with state := .ready, pending := none } : Loop) = R := by
  cases R
  simp only at hRs hRp
  subst hRs hRp
  rfl
 have hssb : ss = backL al k := by rw [hbk, show j = 0 from by omega, backL_zero, List.append_nil]
 have htb : ∀ i, i < ss.length → (ss.getD i (0, 0, [])).2.2.length ≤ 60 := fun i hi => by
  obtain ⟨q, hq, he⟩ := backL_mem hlk k k (Nat.le_refl _) hk (ss.getD i (0, 0, [])) (by rw [← hssb]; simp [List.getD, hi])
  rw [he]; exact hbd q hq
 have hyes : ∀ (k : Nat) (i : Int) (Fy : FH) (Ly : List HP) (tov : Value), k < ss.length → F3 ≤ Fy → (WJ F3 2 68 34 b2 v1 ss (objH D (.deferred (some [])) :: cellsH b1 [(.slice none 0 0), (.slice none 0 0)] 34 :: L)) (k + 1) Fy Ly → IntsF Fy tov (ss.getD k (0, 0, [])).2.2 → i = (k : Int) → Yld prog l [.int .i64 i, .agg #[.int .i64 (ss.getD k (0, 0, [])).1, .int .i64 (ss.getD k (0, 0, [])).2.1, tov]] Fy (objH l (.loop R) :: Ly) (fun v F' L' => .bool true = v ∧ ∃ L2, (WJ F3 2 68 34 b2 v1 ss (objH D (.deferred (some [])) :: cellsH b1 [(.slice none 0 0), (.slice none 0 0)] 34 :: L)) k F' L2 ∧ objH l (.loop R) :: L2 = L') := by
  intro k i Fy Ly tov hk9 leF hJ hto hi
  obtain ⟨sv8, ss8, cs8, Ls8, m8, hsv8, hC8, hm8, hDp, hZ, hss8, rfl⟩ := hJ
  have hssl : ss8.length ≤ 60 := by rw [hss8, List.length_reverse, List.length_drop]; omega
  have htob := htb k hk9
  refine Yld.of_round hRs hRp hRps hRa hRb hRz hRg rfl (by kernel_rfl) (by kernel_rfl) (by kernel_rfl) (XI.slots [(32, .int .i64 (i)), (33, .agg #[.int .i64 ((ss.getD k (0, 0, [])).1), .int .i64 ((ss.getD k (0, 0, [])).2.1), tov]), (5, ptr b2 0)] ⟨rfl, rfl, rfl, trivial⟩ (fun rE => (XI.region (XIL.cons (XOp.alloc [.int .i64 (0), .int .i64 (0), (.slice none 0 0)] zeroValue68 rfl ?_)))))
  intro b3
  refine XIL.cons (XOp.storeN [] _ [.int .i64 ((ss.getD k (0, 0, [])).1), .int .i64 ((ss.getD k (0, 0, [])).2.1), tov] sizeOf68 rfl rfl rfl (ones_cons rfl (ones_cons rfl (ones_cons (one_sl (IntsF.isSl hto)) ones_nil))) rfl rfl rfl (XIL.nil ?_))
  refine ⟨cellsH b3 [.int .i64 ((ss.getD k (0, 0, [])).1), .int .i64 ((ss.getD k (0, 0, [])).2.1), tov] 68 :: cellsH b2 [v1, sv8] 34 :: slH 68 3 sv8 m8 cs8 :: objH D (.deferred (some [])) :: cellsH b1 [(.slice none 0 0), (.slice none 0 0)] 34 :: L, (Sub.trans (Sub.front (A := [_, _, _])) (Sub.trans (Sub.front (A := [_, _, _])) (Sub.trans (Sub.front (A := [_, _])) (Sub.trans (Sub.front (A := [_, _, _])) (sC (sC (sC (sC sR)))))))), ?_⟩
  refine XI.block (XI.region (XIL.cons (XOp.loadN [.int .i64 ((ss.getD k (0, 0, [])).1), .int .i64 ((ss.getD k (0, 0, [])).2.1), tov] isAgg68 sizeOf68 rfl rfl (Rd.ownN [_] rfl rfl) (XIL.weaken (Sub.front (A := [_, _, _])) ?_))))
  show XIL _ _ _ _ _ _ _ _ _ (slH 68 3 sv8 m8 cs8 :: objH l (.loop { R with state := .busy }) :: cellsH b3 [.int .i64 ((ss.getD k (0, 0, [])).1), .int .i64 ((ss.getD k (0, 0, [])).2.1), tov] 68 :: cellsH b2 [v1, sv8] 34 :: objH D (.deferred (some [])) :: cellsH b1 [(.slice none 0 0), (.slice none 0 0)] 34 :: L)
  refine XIL.weaken (Sub.front (A := [_, _, _])) ?_
  show XIL _ _ _ _ _ _ _ _ _ (cellsH b2 [v1, sv8] 34 :: slH 68 3 sv8 m8 cs8 :: objH l (.loop { R with state := .busy }) :: cellsH b3 [.int .i64 ((ss.getD k (0, 0, [])).1), .int .i64 ((ss.getD k (0, 0, [])).2.1), tov] 68 :: objH D (.deferred (some [])) :: cellsH b1 [(.slice none 0 0), (.slice none 0 0)] 34 :: L)
  refine XIL.cons (XOp.call (args := [ptr b2 0, .agg #[.int .i64 ((ss.getD k (0, 0, [])).1), .int .i64 ((ss.getD k (0, 0, [])).2.1), tov]]) call151 rfl (walkAdd_spec hto hsv8 hC8 (by first | rfl | assumption | omega) (by omega) (by omega)) ?_)
  rintro _ F4 _ le4 ⟨sw1, cw1, hs3, hw1, hf3, rfl⟩
  replace hC8 := hC8.mono le4
  have hc2 := StepsC.snoc hC8 (i := (ss.getD k (0, 0, [])).1) (j := (ss.getD k (0, 0, [])).2.1) hw1
  show XIL _ _ _ _ _ _ _ _ _ (cellsH b2 [v1, sw1] 34 :: slH 68 3 sw1 ((m8) + 1) ((cs8 ++ [.int .i64 ((ss.getD k (0, 0, [])).1), .int .i64 ((ss.getD k (0, 0, [])).2.1), cw1])) :: objH l (.loop { R with state := .busy }) :: cellsH b3 [.int .i64 ((ss.getD k (0, 0, [])).1), .int .i64 ((ss.getD k (0, 0, [])).2.1), tov] 68 :: objH D (.deferred (some [])) :: cellsH b1 [(.slice none 0 0), (.slice none 0 0)] 34 :: L)
  refine XIL.nil ?_
  refine ⟨rfl, ?_⟩
  refine ⟨cellsH b2 [v1, sw1] 34 :: slH 68 3 sw1 ((m8) + 1) ((cs8 ++ [.int .i64 ((ss.getD k (0, 0, [])).1), .int .i64 ((ss.getD k (0, 0, [])).2.1), cw1])) :: objH D (.deferred (some [])) :: cellsH b1 [(.slice none 0 0), (.slice none 0 0)] 34 :: L, (Sub.trans (Sub.front (A := [_])) (Sub.trans (Sub.front (A := [_])) (Sub.trans (Sub.front (A := [_, _])) (sC (sC (sC (sD sR))))))), ?_⟩
  rw [hR0]
  exact ⟨rfl, _, ⟨_, _, _, _, _, hs3, hc2, by rw [List.length_append, List.length_singleton]; omega, DeepL.snoc hDp rfl ⟨_, rfl, rfl⟩, (Fresh.app hZ leF (Fresh.one hf3) le4), by rw [hss8]; exact (drop_rev (0, 0, []) hk9).symm, rfl⟩, rfl⟩
 refine (Does.weaken (Sub.trans (Sub.addNil 68 3 none _) (Sub.trans (Sub.front (A := [_, _, _, _])) (Sub.trans (Sub.front (A := [_, _, _])) (Sub.trans (Sub.front (A := [_, _])) (Sub.trans (Sub.front (A := [_, _, _, _])) (Sub.trans (Sub.front (A := [_, _, _, _])) (sC (sC (sC (sC (sC sR))))))))))) (backIt_spec (J := (WJ F3 2 68 34 b2 v1 ss (objH D (.deferred (some [])) :: cellsH b1 [(.slice none 0 0), (.slice none 0 0)] 34 :: L))) hb1 hf2 (by omega) WJ.start hyes)).mono ?_
 rintro _ F9 _ le9 ⟨L9, ⟨sv9, ss9, cs9, Ls9, m9, hsv9, hC9, hm9, hD9, hZ9, hss9, rfl⟩, rfl⟩
 replace hf1 := hf1.mono le9
 rw [List.drop_zero] at hss9
 refine ⟨R, cellsH b2 [v1, sv9] 34 :: slH 68 3 sv9 m9 cs9 :: cellsH b1 [(.slice none 0 0), (.slice none 0 0)] 34 :: L, by rw [hRs]; simp, hRp, (Sub.trans (Sub.front (A := [_, _, _, _])) (Sub.trans (Sub.front (A := [_, _, _])) (Sub.trans (Sub.front (A := [_, _, _])) (Sub.trans (Sub.front (A := [_, _, _, _])) (Sub.trans (Sub.front (A := [_, _, _, _])) (sC (sC (sC (sC (sC sR)))))))))), ?_⟩
 refine XI.seq (XI.region (XIL.cons (XOp.loadN [v1, sv9] isAgg34 sizeOf34 rfl rfl (Rd.ownN [_] rfl rfl) (XIL.cons (XOp.storeN [_, _, _] _ [v1, sv9] sizeOf34 rfl rfl rfl (ones_cons (one_sl (IntsF.isSl hf1)) (ones_cons (one_sl hsv9) ones_nil)) rfl rfl rfl (XIL.nil (XI.freezeF [_, _] _ _ rfl (fun F5 le5 hz3 => ?_))))))))
 replace hf1 := hf1.mono le5
 replace hC9 := hC9.mono le5
 have hf4 : StepsF F5 sv9 ss9 := CO.fz hC9 (by first | rfl | omega | (rw [List.length_set]; omega) | (simp; done)) hz3.fz
 refine XI.ret (retEndC (L' := L) (cellsH b2 [v1, sv9] 34 :: cellsH b1 [v1, sv9] 34 :: L) [.agg #[v1, sv9]] (.agg #[v1, sv9]) (.cell rfl (loadNV [v1, sv9] isAgg34 sizeOf34 rfl (Rd.ownN [_, _] rfl rfl)) .nil) rfl (FLe.trans (FLe.trans (FLe.trans (FLe.trans le1 le2) le3) le9) le5) rF (sC (sC (sC sR))) (sD (sD sR)) ?_)
 have e9 : ss9 = walkL al k := by rw [hss9]; unfold walkL; rw [hbk, show j = 0 from by omega, backL_zero, List.append_nil]
 rw [← e9]
 exact ⟨_, _, rfl, hf1, hf4, (Fresh.app ((Fresh.one hz1).mono (FLe.trans le2 le3)) (FLe.trans (FLe.trans le1 le2) le3) (Fresh.one (Fresh.deep hD9 hZ9 le9 hz3 (by omega) le5)) (FLe.trans le9 le5)), rfl⟩
end Go.Proofs.YtmaaifhmhclhdaaGreat
set_option linter.unusedSimpArgs false
set_option linter.unusedVariables false
namespace Go.Proofs.YtmaaifhmhclhdaaGreat
open Go X M Tryz

/- impl.walkTo -/
set_option maxRecDepth 20000 in
theorem walkTo0_spec {F : FH} {L : List HP} {arv : Value} {ar : List Int} (har : IntsF F arv ar) {rsv : Value} {rs : List (List Int × List Int)} (hrs : PairsF F rsv rs) {tv : Value} {t : List Int} (ht : IntsF F tv t) {uv : Value} {u : List Int} (hu : IntsF F uv u) {n : Int} (hsys : sysOk ar rs = true) (ho : termOk ar t = true) (hn20 : 0 ≤ n ∧ n ≤ 20) (hlu : u.length ≤ 4000000) :
    Does prog 70 [.agg #[arv, rsv], tv, uv, .int .i64 (n)] F (L) (fun v F' L' => ∃ (a : Value), ∃ (b : Value), (.tuple #[.agg #[a, b], .bool ((walkTo0 ar rs t u n).2.2)] : Value) = v ∧ (IntsF F' a (walkTo0 ar rs t u n).1) ∧ (StepsF F' b (walkTo0 ar rs t u n).2.1) ∧ (Fresh F F' (star [intsH 2 a (walkTo0 ar rs t u n).1, stepsD 2 68 b (walkTo0 ar rs t u n).2.1])) ∧ L = L') := by
 refine Does.of_X func70 rfl rfl rfl ?_
 have hgd := reachL_good (ar := ar) (rs := rs) (t := t) (n := n) hn20.1
 have hrk := reachL_ok (n := n) hsys ho
 have hrl := hrk.1
 have hrd : ∀ i, i < (reachL ar rs t n).1.length → (EL (reachL ar rs t n).1 i).1.length ≤ 60 := fun i hi => (termOk_len (hrk.2 i hi)).2
 have hfl := fun (h : 0 ≤ (foundI (reachL ar rs t n).1 u)) => (foundI_lt h).1
 refine X.seq (X.region (cX (XOp.box [arv, rsv] rfl rfl ?_)))
 intro b1
 refine cX (XOp.alloc [(.slice none 0 0), (.slice none 0 0)] zeroValue34 rfl ?_)
 intro b2
 refine XL.as (.bool (false)) rfl (XL.nil (X.seq (X.region (cX (XOp.loadN [arv, rsv] isAgg29 sizeOf29 rfl rfl (Rd.ownN [_] rfl rfl) (XL.mv (tv) rfl (XL.mv (.int .i64 (n)) rfl (cX (XOp.call (args := [.agg #[arv, rsv], tv, .int .i64 (n)]) call66 rfl (reach_spec (n := n) har hrs ht (hsys := (by first | assumption | rfl | omega | (left; simp; done) | (right; simp; done))) (ho := (by first | assumption | rfl | omega | (left; simp; done) | (right; simp; done))) (hn20 := (by first | assumption | rfl | omega | (left; simp; done) | (right; simp; done)))) ?_)))))))))
 rintro _ F1 _ le1 ⟨x1, xcs1, xLs1, rfl, hx1, hxD1, hxZ1, rfl⟩
 replace hu := hu.mono le1
 refine XL.mv (.tuple #[x1, .bool ((reachL ar rs t n).2)]) rfl (cX (XOp.extract (x1) rfl rfl (cX (XOp.extract (.bool ((reachL ar rs t n).2)) rfl rfl (XL.as (x1) rfl (XL.as (.bool ((reachL ar rs t n).2)) rfl (XL.nil (X.seq (X.region (XL.mv (x1) rfl (XL.mv (uv) rfl (cX (XOp.call (args := [x1, uv]) call124 rfl (found_spec hx1 hu (hlt := (by omega)) (hlu := (by first | assumption | rfl | omega | simp))) ?_)))))))))))))
 rintro _ _ _ _ ⟨rfl, rfl, rfl⟩
 refine XL.as (.int .i64 (foundI ((reachL ar rs t n).1) u)) rfl (XL.nil (X.seq (X.seq (X.region (XL.mv (.int .i64 (foundI ((reachL ar rs t n).1) u)) rfl (cX (XOp.lss rfl rfl (XL.nil ?_))))))))
 refine X.condD (p := (foundI ((reachL ar rs t n).1) u : Int) < 0) rfl (fun h1 => ?_) (fun h1 => ?_)
 ·refine X.seq (X.region (cX (XOp.build [(.slice none 0 0), (.slice none 0 0)] [(.slice none 0 0), (.slice none 0 0)] [(0, 1), (1, 1)] [] runUnderlying34 zeroValue34 rfl (.cons rfl sizeOf24 (.cons rfl sizeOf32 PlacesAre.nil)) rfl CellsAre.nil (cX (XOp.storeN [] _ [(.slice none 0 0), (.slice none 0 0)] sizeOf34 rfl rfl rfl (ones_cons rfl (ones_cons rfl ones_nil)) rfl rfl rfl (XL.as (.bool (false)) rfl (XL.nil (X.ret (thenQ_ret (retEnd (L' := L) [.agg #[(.slice none 0 0), (.slice none 0 0)], .bool (false)] (.tuple #[.agg #[(.slice none 0 0), (.slice none 0 0)], .bool (false)]) (.cell rfl (loadNV [(.slice none 0 0), (.slice none 0 0)] isAgg34 sizeOf34 rfl (Rd.ownN [] rfl rfl)) (.tmp rfl .nil)) rfl le1 rF (sD (sD sR)) ?_))))))))))
  have e : walkTo0 ar rs t u n = ([], [], false) := walkTo0_no (by omega)
  exact ⟨_, _, by rw [e], by rw [e]; exact IntsF.nilV, by rw [e]; exact SlOf.nilV, by rw [e]; exact Fresh.empty nilWalk, rfl⟩
 refine X.skip (X.seq (X.region (XL.mv (x1) rfl (XL.mv (.int .i64 (foundI ((reachL ar rs t n).1) u)) rfl (cX (XOp.call (args := [x1, .int .i64 (((foundI ((reachL ar rs t n).1) u).toNat : Nat) : Int)]) call127 (by rw [show (((foundI ((reachL ar rs t n).1) u).toNat : Nat) : Int) = foundI ((reachL ar rs t n).1) u from by omega]; rfl) (walkBack_spec (k := (foundI ((reachL ar rs t n).1) u).toNat) hx1 (hk := (hfl (by omega))) (hll := (hrl)) (hlk := (hgd.1)) (hbd := (hrd))) ?_))))))
 rintro _ F2 _ le2 ⟨x2, x3, rfl, hr1, hr2, hr3, rfl⟩
 refine cX (XOp.storeN [] _ [x2, x3] sizeOf34 rfl rfl rfl (ones_cons (one_sl (IntsF.isSl hr1)) (ones_cons (one_sl (StepsF.isSl hr2)) ones_nil)) rfl rfl rfl (XL.as (.bool (true)) rfl (XL.nil (X.ret (retEnd (L' := L) [.agg #[x2, x3], .bool (true)] (.tuple #[.agg #[x2, x3], .bool (true)]) (.cell rfl (loadNV [x2, x3] isAgg34 sizeOf34 rfl (Rd.ownN [] rfl rfl)) (.tmp rfl .nil)) rfl (FLe.trans le1 le2) rF (sD (sD sR)) ?_)))))
 have e : walkTo0 ar rs t u n = ((EL (reachL ar rs t n).1 0).1, walkL (reachL ar rs t n).1 (foundI (reachL ar rs t n).1 u).toNat, true) := by rw [walkTo0_yes (by omega), hgd.2.2.2]
 exact ⟨_, _, by rw [e], by rw [e]; exact hr1, by rw [e]; exact hr2, by rw [e]; exact (hr3.base le1), rfl⟩

/- impl.WalkTo -/
set_option maxRecDepth 20000 in
theorem WalkTo_spec {F : FH} {L : List HP} {arv : Value} {ar : List Int} (har : IntsF F arv ar) {rsv : Value} {rs : List (List Int × List Int)} (hrs : PairsF F rsv rs) {tv : Value} {t : List Int} (ht : IntsF F tv t) {uv : Value} {u : List Int} (hu : IntsF F uv u) {n : Int} (hlt : t.length ≤ 4000000) (hlu : u.length ≤ 4000000) :
    Does prog 24 [.agg #[arv, rsv], tv, uv, .int .i64 (n)] F (L) (fun v F' L' => ∃ (a : Value), ∃ (b : Value), (.tuple #[.agg #[a, b], .bool ((walkToF ar rs t u n).2.2)] : Value) = v ∧ (IntsF F' a (walkToF ar rs t u n).1) ∧ (StepsF F' b (walkToF ar rs t u n).2.1) ∧ (Fresh F F' (star [intsH 2 a (walkToF ar rs t u n).1, stepsD 2 68 b (walkToF ar rs t u n).2.1])) ∧ L = L') := by
 refine Does.of_X func24 rfl rfl rfl (X.seq (X.region (cX (XOp.box [arv, rsv] rfl rfl ?_))))
 intro b1
 refine cX (XOp.alloc [(.slice none 0 0), (.slice none 0 0)] zeroValue34 rfl ?_)
 intro b2
 refine XL.as (.bool (false)) rfl (XL.nil (X.seq (X.seq (X.region (cX (XOp.loadN [arv, rsv] isAgg29 sizeOf29 rfl rfl (Rd.ownN [_] rfl rfl) (XL.mv (.int .i64 (n)) rfl (XL.mv (tv) rfl (XL.mv (uv) rfl (cX (XOp.buildSlice (s := 1) [tv, uv] [(.slice none 0 0)] [(0, [tv]), (1, [uv])] runUnderlying47 sizeOf24 zeroValue24 rfl (by decide) rfl (.cons (cells_one (IntsF.isSl ht)) (.cons (cells_one (IntsF.isSl hu)) CellsAre.nil)) rfl ?_)))))))))))
 intro v1 hv1
 have hc1 : RowsC F [tv, uv] ([t, u] : List (List Int)) := (RowsC.snoc (RowsC.snoc (CO.nil : RowsC F [] []) ht) hu)
 refine XL.freezeF [] _ _ rfl (fun F1 le1 hz1 => ?_)
 replace har := har.mono le1
 replace hrs := hrs.mono le1
 replace ht := ht.mono le1
 replace hu := hu.mono le1
 replace hc1 := hc1.mono le1
 have hf1 : RowsF F1 v1 (([t, u] : List (List Int))) := CO.fz hc1 (by first | rfl | omega | (rw [List.length_set]; omega) | (simp; done)) hz1.fz
 refine cX (XOp.call (args := [.agg #[arv, rsv], .int .i64 (n), v1]) call65 rfl (reachOk_spec (n := n) har hrs hf1 (hlt := (by first | assumption | rfl | omega | simp))) ?_)
 rintro _ _ _ _ ⟨rfl, rfl, rfl⟩
 refine cX (XOp.notB rfl (XL.nil ?_))
 refine X.cond (t := !(reachOkL ar rs n (([t, u] : List (List Int))))) rfl (fun h1 => ?_) (fun h1 => ?_)
 ·have hro : reachOkL ar rs n [t, u] = false := by simpa using h1
  refine X.seq (X.region (cX (XOp.build [(.slice none 0 0), (.slice none 0 0)] [(.slice none 0 0), (.slice none 0 0)] [(0, 1), (1, 1)] [] runUnderlying34 zeroValue34 rfl (.cons rfl sizeOf24 (.cons rfl sizeOf32 PlacesAre.nil)) rfl CellsAre.nil (cX (XOp.storeN [] _ [(.slice none 0 0), (.slice none 0 0)] sizeOf34 rfl rfl rfl (ones_cons rfl (ones_cons rfl ones_nil)) rfl rfl rfl (XL.as (.bool (false)) rfl (XL.nil (X.ret (thenQ_ret (retEnd (L' := L) [.agg #[(.slice none 0 0), (.slice none 0 0)], .bool (false)] (.tuple #[.agg #[(.slice none 0 0), (.slice none 0 0)], .bool (false)]) (.cell rfl (loadNV [(.slice none 0 0), (.slice none 0 0)] isAgg34 sizeOf34 rfl (Rd.ownN [] rfl rfl)) (.tmp rfl .nil)) rfl le1 rF (sD (sD sR)) ?_))))))))))
  have e : walkToF ar rs t u n = ([], [], false) := walkToF_no hro
  exact ⟨_, _, by rw [e], by rw [e]; exact IntsF.nilV, by rw [e]; exact SlOf.nilV, by rw [e]; exact Fresh.empty nilWalk, rfl⟩
 have hro : reachOkL ar rs n [t, u] = true := by simpa using h1
 have hr3 := reachOk2_iff.1 hro
 have hsys := hr3.1.1
 have ho := hr3.1.2.1
 have hou := hr3.1.2.2
 have hn20 := hr3.2
 refine X.skip (X.seq (X.region (cX (XOp.loadN [arv, rsv] isAgg29 sizeOf29 rfl rfl (Rd.ownN [_] rfl rfl) (XL.mv (tv) rfl (XL.mv (uv) rfl (XL.mv (.int .i64 (n)) rfl (cX (XOp.call (args := [.agg #[arv, rsv], tv, uv, .int .i64 (n)]) call70 rfl (walkTo0_spec (n := n) har hrs ht hu (hsys := (by first | assumption | rfl | omega | simp)) (ho := (by first | assumption | rfl | omega | simp)) (hn20 := (by first | assumption | rfl | omega | simp)) (hlu := (by first | assumption | rfl | omega | simp))) ?_)))))))))
 rintro _ F2 _ le2 ⟨x1, x2, rfl, hr1, hr2, hr3, rfl⟩
 refine cX (XOp.extract (.agg #[x1, x2]) rfl rfl (cX (XOp.extract (.bool ((walkTo0 ar rs t u n).2.2)) rfl rfl (cX (XOp.storeN [] _ [x1, x2] sizeOf34 rfl rfl rfl (ones_cons (one_sl (IntsF.isSl hr1)) (ones_cons (one_sl (StepsF.isSl hr2)) ones_nil)) rfl rfl rfl (XL.as (.bool ((walkTo0 ar rs t u n).2.2)) rfl (XL.nil (X.ret (retEnd (L' := L) [.agg #[x1, x2], .bool ((walkTo0 ar rs t u n).2.2)] (.tuple #[.agg #[x1, x2], .bool ((walkTo0 ar rs t u n).2.2)]) (.cell rfl (loadNV [x1, x2] isAgg34 sizeOf34 rfl (Rd.ownN [] rfl rfl)) (.tmp rfl .nil)) rfl (FLe.trans le1 le2) rF (sD (sD sR)) ?_)))))))))
 have e := walkToF_yes hro
 exact ⟨_, _, by rw [e], by rw [e]; exact hr1, by rw [e]; exact hr2, by rw [e]; exact (hr3.base le1), rfl⟩

/- impl.join -/
set_option maxRecDepth 20000 in
theorem join0_spec {F : FH} {L : List HP} {arv : Value} {ar : List Int} (har : IntsF F arv ar) {rsv : Value} {rs : List (List Int × List Int)} (hrs : PairsF F rsv rs) {av : Value} {a : List Int} (ha : IntsF F av a) {bv : Value} {b : List Int} (hb : IntsF F bv b) {n : Int} (hsys : sysOk ar rs = true) (ho : termOk ar a = true) (hob : termOk ar b = true) (hn20 : 0 ≤ n ∧ n ≤ 20) :
    Does prog 71 [.agg #[arv, rsv], av, bv, .int .i64 (n)] F (L) (fun v F' L' => ∃ (a1 : Value), ∃ (b1 : Value), ∃ (a2 : Value), ∃ (b2 : Value), (.tuple #[.agg #[a1, b1], .agg #[a2, b2], .bool ((join0 ar rs a b n).2.2.2.2)] : Value) = v ∧ (IntsF F' a1 (join0 ar rs a b n).1) ∧ (StepsF F' b1 (join0 ar rs a b n).2.1) ∧ (IntsF F' a2 (join0 ar rs a b n).2.2.1) ∧ (StepsF F' b2 (join0 ar rs a b n).2.2.2.1) ∧ (Fresh F F' (star [intsH 2 a1 (join0 ar rs a b n).1, stepsD 2 68 b1 (join0 ar rs a b n).2.1, intsH 2 a2 (join0 ar rs a b n).2.2.1, stepsD 2 68 b2 (join0 ar rs a b n).2.2.2.1])) ∧ L = L') := by
 refine Does.of_X func71 rfl rfl rfl ?_
 have hgda := reachL_good (ar := ar) (rs := rs) (t := a) (n := n) hn20.1
 have hrka := reachL_ok (n := n) hsys ho
 have hrla := hrka.1
 have hrda : ∀ i, i < (reachL ar rs a n).1.length → (EL (reachL ar rs a n).1 i).1.length ≤ 60 := fun i hi => (termOk_len (hrka.2 i hi)).2
 have hgdb := reachL_good (ar := ar) (rs := rs) (t := b) (n := n) hn20.1
 have hrkb := reachL_ok (n := n) hsys hob
 have hrlb := hrkb.1
 have hrdb : ∀ i, i < (reachL ar rs b n).1.length → (EL (reachL ar rs b n).1 i).1.length ≤ 60 := fun i hi => (termOk_len (hrkb.2 i hi)).2
 refine X.seq (X.region (cX (XOp.box [arv, rsv] rfl rfl ?_)))
 intro b1
 refine cX (XOp.alloc [(.slice none 0 0), (.slice none 0 0)] zeroValue34 rfl ?_)
 intro b2
 refine cX (XOp.alloc [(.slice none 0 0), (.slice none 0 0)] zeroValue34 rfl ?_)
 intro b3
 refine XL.as (.bool (false)) rfl (XL.nil (X.seq (X.region (cX (XOp.loadN [arv, rsv] isAgg29 sizeOf29 rfl rfl (Rd.ownN [_, _] rfl rfl) (XL.mv (av) rfl (XL.mv (.int .i64 (n)) rfl (cX (XOp.call (args := [.agg #[arv, rsv], av, .int .i64 (n)]) call66 rfl (reach_spec (n := n) har hrs ha (hsys := (by first | assumption | rfl | omega | (left; simp; done) | (right; simp; done))) (ho := (by first | assumption | rfl | omega | (left; simp; done) | (right; simp; done))) (hn20 := (by first | assumption | rfl | omega | (left; simp; done) | (right; simp; done)))) ?_)))))))))
 rintro _ F1 _ le1 ⟨x1, xcs1, xLs1, rfl, hx1, hxD1, hxZ1, rfl⟩
 replace har := har.mono le1
 replace hrs := hrs.mono le1
 replace hb := hb.mono le1
 refine XL.mv (.tuple #[x1, .bool ((reachL ar rs a n).2)]) rfl (cX (XOp.extract (x1) rfl rfl (cX (XOp.extract (.bool ((reachL ar rs a n).2)) rfl rfl (XL.as (x1) rfl (XL.as (.bool ((reachL ar rs a n).2)) rfl (XL.nil (X.seq (X.region (cX (XOp.loadN [arv, rsv] isAgg29 sizeOf29 rfl rfl (Rd.ownN [_, _] rfl rfl) (XL.mv (bv) rfl (XL.mv (.int .i64 (n)) rfl (cX (XOp.call (args := [.agg #[arv, rsv], bv, .int .i64 (n)]) call66 rfl (reach_spec (n := n) har hrs hb (hsys := (by first | assumption | rfl | omega | (left; simp; done) | (right; simp; done))) (ho := (by first | assumption | rfl | omega | (left; simp; done) | (right; simp; done))) (hn20 := (by first | assumption | rfl | omega | (left; simp; done) | (right; simp; done)))) ?_)))))))))))))))
 rintro _ F2 _ le2 ⟨x2, xcs2, xLs2, rfl, hx2, hxD2, hxZ2, rfl⟩
 replace hx1 := hx1.mono le2
 refine XL.mv (.tuple #[x2, .bool ((reachL ar rs b n).2)]) rfl (cX (XOp.extract (x2) rfl rfl (cX (XOp.extract (.bool ((reachL ar rs b n).2)) rfl rfl (XL.as (x2) rfl (XL.as (.bool ((reachL ar rs b n).2)) rfl (XL.nil (X.seq (X.seq (X.region (XL.mv (x1) rfl (cX (XOp.lenS runUnderlying100 rfl hx1.slv (XL.mv (.int .i64 (0)) rfl (XL.nil (X.block ?_))))))))))))))))
 refine X.loop (α := Nat) (fun k => [(8, ptr b2 0), (9, ptr b3 0), (11, x1), (13, x2), (32, x1), (33, .int .i64 (((((reachL ar rs a n).1).length : Nat) : Int))), (34, .int .i64 ((k : Int)))]) (fun k => cellsH b3 [(.slice none 0 0), (.slice none 0 0)] 34 :: cellsH b2 [(.slice none 0 0), (.slice none 0 0)] 34 :: cellsH b1 [arv, rsv] 29 :: L) (fun k F' => F2 = F' ∧ (k ≤ (reachL ar rs a n).1.length) ∧ (∀ i, i < k → foundI (reachL ar rs b n).1 (EL (reachL ar rs a n).1 i).1 < 0)) (fun k => (reachL ar rs a n).1.length - k) 0 ⟨rfl, rfl, rfl, rfl, rfl, rfl, rfl, trivial⟩ (sC (sC (sC sR))) ⟨rfl, (by (try dsimp only) <;> omega), (fun i hi => absurd hi (by omega))⟩ ?_
 rintro k rE _ _ ⟨rfl, hk, hno⟩
 show X _ _ _ _ (envs [(8, ptr b2 0), (9, ptr b3 0), (11, x1), (13, x2), (32, x1), (33, .int .i64 (((((reachL ar rs a n).1).length : Nat) : Int))), (34, .int .i64 ((k : Int)))] rE) _ (cellsH b3 [(.slice none 0 0), (.slice none 0 0)] 34 :: cellsH b2 [(.slice none 0 0), (.slice none 0 0)] 34 :: cellsH b1 [arv, rsv] 29 :: L)
 have hfl := fun (h : 0 ≤ foundI (reachL ar rs b n).1 ((reachL ar rs a n).1.getD k ([], 0, (0, 0, []), 0)).1) => (foundI_lt h).1
 have hka := fun (h : k < (reachL ar rs a n).1.length) => (show ((reachL ar rs a n).1.getD k ([], 0, (0, 0, []), 0)).1.length ≤ 60 from hrda k h)
 refine X.seq (X.region (cX (XOp.lss rfl rfl (XL.nil (X.seq ?_)))))
 refine X.condD (p := (k : Int) < ((((reachL ar rs a n).1).length : Nat) : Int)) rfl (fun h1 => ?_) (fun h1 => ?_)
 ·refine X.skip (X.seq (X.block (X.seq (X.region (XL.mv (.int .i64 ((k : Int))) rfl (cX (XOp.indexS k runUnderlying100 sizeOf104 rfl rfl rfl hx1.slv (by omega) rfl ?_)))))))
  obtain ⟨a1, a2, ha1, ha2, hrg1, hq1⟩ := hx1.rd (i := k) (by omega)
  refine cX (XOp.loadN [a1, .int .i64 ((((reachL ar rs a n).1).getD k ([], 0, (0, 0, []), 0)).2.1), .int .i64 ((((reachL ar rs a n).1).getD k ([], 0, (0, 0, []), 0)).2.2.1.1), .int .i64 ((((reachL ar rs a n).1).getD k ([], 0, (0, 0, []), 0)).2.2.1.2.1), a2, .int .i64 ((((reachL ar rs a n).1).getD k ([], 0, (0, 0, []), 0)).2.2.2)] isAgg104 sizeOf104 rfl rfl (Rd.all (hrg1 _)) (cX (XOp.alloc [(.slice none 0 0), .int .i64 (0), .int .i64 (0), .int .i64 (0), (.slice none 0 0), .int .i64 (0)] zeroValue104 rfl ?_)))
  intro b4
  refine XL.as (.int .i64 ((k : Int))) rfl (cX (XOp.storeN [] _ [a1, .int .i64 ((((reachL ar rs a n).1).getD k ([], 0, (0, 0, []), 0)).2.1), .int .i64 ((((reachL ar rs a n).1).getD k ([], 0, (0, 0, []), 0)).2.2.1.1), .int .i64 ((((reachL ar rs a n).1).getD k ([], 0, (0, 0, []), 0)).2.2.1.2.1), a2, .int .i64 ((((reachL ar rs a n).1).getD k ([], 0, (0, 0, []), 0)).2.2.2)] sizeOf104 rfl rfl rfl (ones_cons (one_sl (IntsF.isSl ha1)) (ones_cons rfl (ones_cons rfl (ones_cons rfl (ones_cons (one_sl (IntsF.isSl ha2)) (ones_cons rfl ones_nil)))))) rfl rfl rfl (XL.nil (X.seq (X.region (XL.mv (x2) rfl (cX (XOp.fieldP (0) runUnderlying104 rfl sizeOf24 (by decide) rfl rfl (cX (XOp.load1 isAgg24 rfl (Rd.own [] rfl rfl) (cX (XOp.call (args := [x2, a1]) call124 rfl (found_spec hx2 ha1 (hlt := (by omega)) (hlu := (by have := hka (by omega); omega))) ?_))))))))))))
  rintro _ _ _ _ ⟨rfl, rfl, rfl⟩
  refine XL.as (.int .i64 (foundI ((reachL ar rs b n).1) ((((reachL ar rs a n).1).getD k ([], 0, (0, 0, []), 0)).1))) rfl (XL.nil (X.seq (X.region (XL.mv (.int .i64 (foundI ((reachL ar rs b n).1) ((((reachL ar rs a n).1).getD k ([], 0, (0, 0, []), 0)).1))) rfl (cX (XOp.geq rfl rfl (XL.nil ?_)))))))
  refine X.condD (p := (foundI ((reachL ar rs b n).1) ((((reachL ar rs a n).1).getD k ([], 0, (0, 0, []), 0)).1) : Int) ≥ 0) rfl (fun h2 => ?_) (fun h2 => ?_)
  ·refine X.seq (X.region (XL.mv (x1) rfl (XL.mv (.int .i64 ((k : Int))) rfl (cX (XOp.call (args := [x1, .int .i64 (k : Int)]) call127 rfl (walkBack_spec (k := k) hx1 (hk := (by omega)) (hll := (hrla)) (hlk := (hgda.1)) (hbd := (hrda))) ?_)))))
   rintro _ F3 _ le3 ⟨x3, x4, rfl, hr1, hr2, hr3, rfl⟩
   replace hx2 := hx2.mono le3
   refine XL.mv (x2) rfl (XL.mv (.int .i64 (foundI ((reachL ar rs b n).1) ((((reachL ar rs a n).1).getD k ([], 0, (0, 0, []), 0)).1))) rfl (cX (XOp.call (args := [x2, .int .i64 (((foundI ((reachL ar rs b n).1) ((((reachL ar rs a n).1).getD k ([], 0, (0, 0, []), 0)).1)).toNat : Nat) : Int)]) call127 (by rw [show (((foundI ((reachL ar rs b n).1) ((((reachL ar rs a n).1).getD k ([], 0, (0, 0, []), 0)).1)).toNat : Nat) : Int) = foundI ((reachL ar rs b n).1) ((((reachL ar rs a n).1).getD k ([], 0, (0, 0, []), 0)).1) from by omega]; rfl) (walkBack_spec (k := (foundI ((reachL ar rs b n).1) ((((reachL ar rs a n).1).getD k ([], 0, (0, 0, []), 0)).1)).toNat) hx2 (hk := (hfl (by omega))) (hll := (hrlb)) (hlk := (hgdb.1)) (hbd := (hrdb))) ?_)))
   rintro _ F4 _ le4 ⟨x5, x6, rfl, hr4, hr5, hr6, rfl⟩
   replace hr1 := hr1.mono le4
   replace hr2 := hr2.mono le4
   refine cX (XOp.storeN [_, _] _ [x3, x4] sizeOf34 rfl rfl rfl (ones_cons (one_sl (IntsF.isSl hr1)) (ones_cons (one_sl (StepsF.isSl hr2)) ones_nil)) rfl rfl rfl (cX (XOp.storeN [_] _ [x5, x6] sizeOf34 rfl rfl rfl (ones_cons (one_sl (IntsF.isSl hr4)) (ones_cons (one_sl (StepsF.isSl hr5)) ones_nil)) rfl rfl rfl (XL.as (.bool (true)) rfl (XL.nil (X.ret (blockQ_ret (thenQ_ret (thenQ_ret (blockQ_ret (thenQ_ret (retEnd (L' := L) [.agg #[x3, x4], .agg #[x5, x6], .bool (true)] (.tuple #[.agg #[x3, x4], .agg #[x5, x6], .bool (true)]) (.cell rfl (loadNV [x3, x4] isAgg34 sizeOf34 rfl (Rd.ownN [_, _] rfl rfl)) (.cell rfl (loadNV [x5, x6] isAgg34 sizeOf34 rfl (Rd.ownN [_] rfl rfl)) (.tmp rfl .nil))) rfl (FLe.trans (FLe.trans (FLe.trans le1 le2) le3) le4) rF (sD (sD (sD (sD sR)))) ?_))))))))))))
   have e : join0 ar rs a b n = ((EL (reachL ar rs a n).1 0).1, walkL (reachL ar rs a n).1 k, (EL (reachL ar rs b n).1 0).1, walkL (reachL ar rs b n).1 (foundI (reachL ar rs b n).1 ((reachL ar rs a n).1.getD k ([], 0, (0, 0, []), 0)).1).toNat, true) := by rw [join0_at (k := k) (by omega) (by show foundI (reachL ar rs b n).1 ((reachL ar rs a n).1.getD k ([], 0, (0, 0, []), 0)).1 ≥ 0; omega) hno, hgda.2.2.2, hgdb.2.2.2]
   exact ⟨_, _, _, _, by rw [e], by rw [e]; exact hr1, by rw [e]; exact hr2, by rw [e]; exact hr4, by rw [e]; exact hr5, by rw [e]; exact (Fresh.app (hr3.base (FLe.trans le1 le2)) (FLe.trans (FLe.trans le1 le2) le3) hr6 le4), rfl⟩
  refine X.skip (X.region (cX (XOp.addR (((k + 1 : Nat) : Int)) rfl rfl (by omega) (by omega) (XL.mv (.int .i64 (((k + 1 : Nat) : Int))) rfl (XL.nil ?_)))))
  exact ⟨k + 1, _, FLe.refl _, rF, ⟨rfl, rfl, rfl, rfl, rfl, rfl, rfl, trivial⟩, (sD (sC (sC (sC sR)))), ⟨rfl, (by (try dsimp only) <;> omega), (fun i hi => (Nat.lt_or_ge i k).elim (fun h => hno i h) (fun h => by obtain rfl : i = k := (by omega); show foundI (reachL ar rs b n).1 ((reachL ar rs a n).1.getD i ([], 0, (0, 0, []), 0)).1 < 0; omega))⟩, (by omega)⟩
 refine X.exit (thenQ_exit (thenQ_exit (blockQ_exit (X.seq (X.region (cX (XOp.build [(.slice none 0 0), (.slice none 0 0)] [(.slice none 0 0), (.slice none 0 0)] [(0, 1), (1, 1)] [] runUnderlying34 zeroValue34 rfl (.cons rfl sizeOf24 (.cons rfl sizeOf32 PlacesAre.nil)) rfl CellsAre.nil (cX (XOp.build [(.slice none 0 0), (.slice none 0 0)] [(.slice none 0 0), (.slice none 0 0)] [(0, 1), (1, 1)] [] runUnderlying34 zeroValue34 rfl (.cons rfl sizeOf24 (.cons rfl sizeOf32 PlacesAre.nil)) rfl CellsAre.nil (cX (XOp.storeN [_] _ [(.slice none 0 0), (.slice none 0 0)] sizeOf34 rfl rfl rfl (ones_cons rfl (ones_cons rfl ones_nil)) rfl rfl rfl (cX (XOp.storeN [] _ [(.slice none 0 0), (.slice none 0 0)] sizeOf34 rfl rfl rfl (ones_cons rfl (ones_cons rfl ones_nil)) rfl rfl rfl (XL.as (.bool (false)) rfl (XL.nil (X.ret (retEnd (L' := L) [.agg #[(.slice none 0 0), (.slice none 0 0)], .agg #[(.slice none 0 0), (.slice none 0 0)], .bool (false)] (.tuple #[.agg #[(.slice none 0 0), (.slice none 0 0)], .agg #[(.slice none 0 0), (.slice none 0 0)], .bool (false)]) (.cell rfl (loadNV [(.slice none 0 0), (.slice none 0 0)] isAgg34 sizeOf34 rfl (Rd.ownN [_] rfl rfl)) (.cell rfl (loadNV [(.slice none 0 0), (.slice none 0 0)] isAgg34 sizeOf34 rfl (Rd.ownN [] rfl rfl)) (.tmp rfl .nil))) rfl (FLe.trans le1 le2) rF (sD (sD (sD sR))) ?_)))))))))))))))))
 have e : join0 ar rs a b n = ([], [], [], [], false) := join0_none (fun i hi => hno i (by omega))
 exact ⟨_, _, _, _, by rw [e], by rw [e]; exact IntsF.nilV, by rw [e]; exact SlOf.nilV, by rw [e]; exact IntsF.nilV, by rw [e]; exact SlOf.nilV, by rw [e]; exact Fresh.app (Fresh.empty nilWalk) rF (Fresh.empty nilWalk) (FLe.trans le1 le2), rfl⟩

/- impl.JoinOf -/
set_option maxRecDepth 20000 in
theorem JoinOf_spec {F : FH} {L : List HP} {arv : Value} {ar : List Int} (har : IntsF F arv ar) {rsv : Value} {rs : List (List Int × List Int)} (hrs : PairsF F rsv rs) {av : Value} {a : List Int} (ha : IntsF F av a) {bv : Value} {b : List Int} (hb : IntsF F bv b) {n : Int} (hla9 : a.length ≤ 4000000) (hlb9 : b.length ≤ 4000000) :
    Does prog 25 [.agg #[arv, rsv], av, bv, .int .i64 (n)] F (L) (fun v F' L' => ∃ (a1 : Value), ∃ (b1 : Value), ∃ (a2 : Value), ∃ (b2 : Value), (.tuple #[.agg #[a1, b1], .agg #[a2, b2], .bool ((joinF ar rs a b n).2.2.2.2)] : Value) = v ∧ (IntsF F' a1 (joinF ar rs a b n).1) ∧ (StepsF F' b1 (joinF ar rs a b n).2.1) ∧ (IntsF F' a2 (joinF ar rs a b n).2.2.1) ∧ (StepsF F' b2 (joinF ar rs a b n).2.2.2.1) ∧ (Fresh F F' (star [intsH 2 a1 (joinF ar rs a b n).1, stepsD 2 68 b1 (joinF ar rs a b n).2.1, intsH 2 a2 (joinF ar rs a b n).2.2.1, stepsD 2 68 b2 (joinF ar rs a b n).2.2.2.1])) ∧ L = L') := by
 refine Does.of_X func25 rfl rfl rfl (X.seq (X.region (cX (XOp.box [arv, rsv] rfl rfl ?_))))
 intro b1
 refine cX (XOp.alloc [(.slice none 0 0), (.slice none 0 0)] zeroValue34 rfl ?_)
 intro b2
 refine cX (XOp.alloc [(.slice none 0 0), (.slice none 0 0)] zeroValue34 rfl ?_)
 intro b3
 refine XL.as (.bool (false)) rfl (XL.nil (X.seq (X.seq (X.region (cX (XOp.loadN [arv, rsv] isAgg29 sizeOf29 rfl rfl (Rd.ownN [_, _] rfl rfl) (XL.mv (.int .i64 (n)) rfl (XL.mv (av) rfl (XL.mv (bv) rfl (cX (XOp.buildSlice (s := 1) [av, bv] [(.slice none 0 0)] [(0, [av]), (1, [bv])] runUnderlying47 sizeOf24 zeroValue24 rfl (by decide) rfl (.cons (cells_one (IntsF.isSl ha)) (.cons (cells_one (IntsF.isSl hb)) CellsAre.nil)) rfl ?_)))))))))))
 intro v1 hv1
 have hc1 : RowsC F [av, bv] ([a, b] : List (List Int)) := (RowsC.snoc (RowsC.snoc (CO.nil : RowsC F [] []) ha) hb)
 refine XL.freezeF [] _ _ rfl (fun F1 le1 hz1 => ?_)
 replace har := har.mono le1
 replace hrs := hrs.mono le1
 replace ha := ha.mono le1
 replace hb := hb.mono le1
 replace hc1 := hc1.mono le1
 have hf1 : RowsF F1 v1 (([a, b] : List (List Int))) := CO.fz hc1 (by first | rfl | omega | (rw [List.length_set]; omega) | (simp; done)) hz1.fz
 refine cX (XOp.call (args := [.agg #[arv, rsv], .int .i64 (n), v1]) call65 rfl (reachOk_spec (n := n) har hrs hf1 (hlt := (by first | assumption | rfl | omega | simp))) ?_)
 rintro _ _ _ _ ⟨rfl, rfl, rfl⟩
 refine cX (XOp.notB rfl (XL.nil ?_))
 refine X.cond (t := !(reachOkL ar rs n (([a, b] : List (List Int))))) rfl (fun h1 => ?_) (fun h1 => ?_)
 ·have hro : reachOkL ar rs n [a, b] = false := by simpa using h1
  refine X.seq (X.region (cX (XOp.build [(.slice none 0 0), (.slice none 0 0)] [(.slice none 0 0), (.slice none 0 0)] [(0, 1), (1, 1)] [] runUnderlying34 zeroValue34 rfl (.cons rfl sizeOf24 (.cons rfl sizeOf32 PlacesAre.nil)) rfl CellsAre.nil (cX (XOp.build [(.slice none 0 0), (.slice none 0 0)] [(.slice none 0 0), (.slice none 0 0)] [(0, 1), (1, 1)] [] runUnderlying34 zeroValue34 rfl (.cons rfl sizeOf24 (.cons rfl sizeOf32 PlacesAre.nil)) rfl CellsAre.nil (cX (XOp.storeN [_] _ [(.slice none 0 0), (.slice none 0 0)] sizeOf34 rfl rfl rfl (ones_cons rfl (ones_cons rfl ones_nil)) rfl rfl rfl (cX (XOp.storeN [] _ [(.slice none 0 0), (.slice none 0 0)] sizeOf34 rfl rfl rfl (ones_cons rfl (ones_cons rfl ones_nil)) rfl rfl rfl (XL.as (.bool (false)) rfl (XL.nil (X.ret (thenQ_ret (retEnd (L' := L) [.agg #[(.slice none 0 0), (.slice none 0 0)], .agg #[(.slice none 0 0), (.slice none 0 0)], .bool (false)] (.tuple #[.agg #[(.slice none 0 0), (.slice none 0 0)], .agg #[(.slice none 0 0), (.slice none 0 0)], .bool (false)]) (.cell rfl (loadNV [(.slice none 0 0), (.slice none 0 0)] isAgg34 sizeOf34 rfl (Rd.ownN [_] rfl rfl)) (.cell rfl (loadNV [(.slice none 0 0), (.slice none 0 0)] isAgg34 sizeOf34 rfl (Rd.ownN [] rfl rfl)) (.tmp rfl .nil))) rfl le1 rF (sD (sD (sD sR))) ?_))))))))))))))
  have e : joinF ar rs a b n = ([], [], [], [], false) := joinF_no hro
  exact ⟨_, _, _, _, by rw [e], by rw [e]; exact IntsF.nilV, by rw [e]; exact SlOf.nilV, by rw [e]; exact IntsF.nilV, by rw [e]; exact SlOf.nilV, by rw [e]; exact Fresh.app (Fresh.empty nilWalk) rF (Fresh.empty nilWalk) le1, rfl⟩
 have hro : reachOkL ar rs n [a, b] = true := by simpa using h1
 have hr3 := reachOk2_iff.1 hro
 have hsys := hr3.1.1
 have ho := hr3.1.2.1
 have hou := hr3.1.2.2
 have hn20 := hr3.2
 refine X.skip (X.seq (X.region (cX (XOp.loadN [arv, rsv] isAgg29 sizeOf29 rfl rfl (Rd.ownN [_, _] rfl rfl) (XL.mv (av) rfl (XL.mv (bv) rfl (XL.mv (.int .i64 (n)) rfl (cX (XOp.call (args := [.agg #[arv, rsv], av, bv, .int .i64 (n)]) call71 rfl (join0_spec (n := n) har hrs ha hb (hsys := (by first | assumption | rfl | omega | simp)) (ho := (by first | assumption | rfl | omega | simp)) (hob := (by first | assumption | rfl | omega | simp)) (hn20 := (by first | assumption | rfl | omega | simp))) ?_)))))))))
 rintro _ F2 _ le2 ⟨x1, x2, x3, x4, rfl, hr1, hr2, hr3, hr4, hr5, rfl⟩
 refine cX (XOp.extract (.agg #[x1, x2]) rfl rfl (cX (XOp.extract (.agg #[x3, x4]) rfl rfl (cX (XOp.extract (.bool ((join0 ar rs a b n).2.2.2.2)) rfl rfl (cX (XOp.storeN [_] _ [x1, x2] sizeOf34 rfl rfl rfl (ones_cons (one_sl (IntsF.isSl hr1)) (ones_cons (one_sl (StepsF.isSl hr2)) ones_nil)) rfl rfl rfl (cX (XOp.storeN [] _ [x3, x4] sizeOf34 rfl rfl rfl (ones_cons (one_sl (IntsF.isSl hr3)) (ones_cons (one_sl (StepsF.isSl hr4)) ones_nil)) rfl rfl rfl (XL.as (.bool ((join0 ar rs a b n).2.2.2.2)) rfl (XL.nil (X.ret (retEnd (L' := L) [.agg #[x1, x2], .agg #[x3, x4], .bool ((join0 ar rs a b n).2.2.2.2)] (.tuple #[.agg #[x1, x2], .agg #[x3, x4], .bool ((join0 ar rs a b n).2.2.2.2)]) (.cell rfl (loadNV [x1, x2] isAgg34 sizeOf34 rfl (Rd.ownN [_] rfl rfl)) (.cell rfl (loadNV [x3, x4] isAgg34 sizeOf34 rfl (Rd.ownN [] rfl rfl)) (.tmp rfl .nil))) rfl (FLe.trans le1 le2) rF (sD (sD (sD sR))) ?_)))))))))))))
 have e := joinF_yes hro
 exact ⟨_, _, _, _, by rw [e], by rw [e]; exact hr1, by rw [e]; exact hr2, by rw [e]; exact hr3, by rw [e]; exact hr4, by rw [e]; exact (hr5.base le1), rfl⟩

/- impl.JoinsIn -/
set_option maxRecDepth 20000 in
theorem JoinsIn_spec {F : FH} {L : List HP} {arv : Value} {ar : List Int} (har : IntsF F arv ar) {rsv : Value} {rs : List (List Int × List Int)} (hrs : PairsF F rsv rs) {av : Value} {a : List Int} (ha : IntsF F av a) {bv : Value} {b : List Int} (hb : IntsF F bv b) {n : Int} (hla9 : a.length ≤ 4000000) (hlb9 : b.length ≤ 4000000) :
    Does prog 27 [.agg #[arv, rsv], av, bv, .int .i64 (n)] F (L) (fun v F' L' => (.bool ((joinF ar rs a b n).2.2.2.2) : Value) = v ∧ L = L') := by
 refine Does.of_X func27 rfl rfl rfl (X.seq (X.region (cX (XOp.box [arv, rsv] rfl rfl ?_))))
 intro b1
 refine XL.as (.bool (false)) rfl (XL.nil (X.seq (X.region (cX (XOp.loadN [arv, rsv] isAgg29 sizeOf29 rfl rfl (Rd.ownN [] rfl rfl) (XL.mv (av) rfl (XL.mv (bv) rfl (XL.mv (.int .i64 (n)) rfl (cX (XOp.call (args := [.agg #[arv, rsv], av, bv, .int .i64 (n)]) call25 rfl (JoinOf_spec (n := n) har hrs ha hb (hla9 := (by first | assumption | rfl | omega | simp)) (hlb9 := (by first | assumption | rfl | omega | simp))) ?_))))))))))
 rintro _ F1 _ le1 ⟨x1, x2, x3, x4, rfl, hr1, hr2, hr3, hr4, hr5, rfl⟩
 refine XL.mv (.tuple #[.agg #[x1, x2], .agg #[x3, x4], .bool ((joinF ar rs a b n).2.2.2.2)]) rfl (cX (XOp.extract (.agg #[x1, x2]) rfl rfl (cX (XOp.extract (.agg #[x3, x4]) rfl rfl (cX (XOp.extract (.bool ((joinF ar rs a b n).2.2.2.2)) rfl rfl (cX (XOp.alloc [(.slice none 0 0), (.slice none 0 0)] zeroValue34 rfl ?_))))))))
 intro b2
 refine cX (XOp.alloc [(.slice none 0 0), (.slice none 0 0)] zeroValue34 rfl ?_)
 intro b3
 refine cX (XOp.storeN [_] _ [x1, x2] sizeOf34 rfl rfl rfl (ones_cons (one_sl (IntsF.isSl hr1)) (ones_cons (one_sl (StepsF.isSl hr2)) ones_nil)) rfl rfl rfl (cX (XOp.storeN [] _ [x3, x4] sizeOf34 rfl rfl rfl (ones_cons (one_sl (IntsF.isSl hr3)) (ones_cons (one_sl (StepsF.isSl hr4)) ones_nil)) rfl rfl rfl (XL.as (.bool ((joinF ar rs a b n).2.2.2.2)) rfl (XL.nil (X.seq (X.region (XL.mv (.bool ((joinF ar rs a b n).2.2.2.2)) rfl (XL.as (.bool ((joinF ar rs a b n).2.2.2.2)) rfl (XL.nil (X.ret (retEnd (L' := L) [.bool ((joinF ar rs a b n).2.2.2.2)] (.bool ((joinF ar rs a b n).2.2.2.2)) (.tmp rfl .nil) rfl le1 rF (sD (sD (sD sR))) ?_))))))))))))
 exact ⟨rfl, rfl⟩
end Go.Proofs.YtmaaifhmhclhdaaGreat
