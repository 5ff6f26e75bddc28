/-
  Walks, one after the other (part 4).
-/
import Derived.Test.YtiaanelimbmniaaGreatQxL1
import Derived.Test.YtiaanelimbmniaaGreatQxB2
set_option linter.unusedSimpArgs false
set_option linter.unusedVariables false
namespace Go.Proofs.YtiaanelimbmniaaGreat
open Go X M Tryz

/- spec.l7Steps -/
theorem l7Steps_spec {F : FH} {L : List HP} {arv : Value} {ar : List Int} (har : IntsF F arv ar) {rsv : Value} {rs : List (List Int × List Int)} (hrs : PairsF F rsv rs) {tv : Value} {t : List Int} (ht : IntsF F tv t) (hsys : sysOk ar rs = true) (ho : termOk ar t = true) :
    Does prog 144 [.agg #[arv, rsv], tv] F (L) (fun v F' L' => ∃ (a : Value), (a : Value) = v ∧ (StepsF F' a (stepsL ar rs t)) ∧ L = L') := by
 refine Does.of_X func144 rfl rfl rfl ?_
 have hnn := notNil_of_pos ht (by have := termOk_len ho; omega)
 have htl := termOk_len ho
 have hrl := (sysOk_iff.1 hsys).2.1
 have hsig := (sysOk_iff.1 hsys).1
 have hsl := sigOk_spec hsig
 refine X.seq (X.region ?_)
 refine cX (XOp.box [arv, rsv] rfl rfl ?_)
 intro b1
 refine XL.as ((.slice none 0 0)) rfl ?_
 refine XL.nil (X.seq (X.region ?_))
 refine cX (XOp.buildSlice (s := 3) [] [.int .i64 (0), .int .i64 (0), (.slice none 0 0)] [] runUnderlying55 sizeOf116 zeroValue116 rfl (by decide) rfl CellsAre.nil rfl ?_)
 intro v1 hv1
 refine XL.as (v1) rfl ?_
 refine XL.nil (X.seq (X.seq (X.region ?_)))
 refine XL.as (.int .i64 (0)) rfl ?_
 refine XL.nil (X.block ?_)
 refine X.loop (α := Nat × Value × List StepT × List Value × Nat × FH) (fun xQ => [(1, tv), (2, ptr b1 0), (5, xQ.2.1), (6, .int .i64 (((xQ.1 : Nat) : Int)))]) (fun xQ => slH 116 3 xQ.2.1 xQ.2.2.2.2.1 xQ.2.2.2.1 :: cellsH b1 [arv, rsv] 37 :: L) (fun xQ F' => xQ.2.2.2.2.2 = F' ∧ F ≤ xQ.2.2.2.2.2 ∧ (xQ.1 ≤ t.length) ∧ (IsSl xQ.2.1) ∧ (StepsC xQ.2.2.2.2.2 xQ.2.2.2.1 xQ.2.2.1) ∧ (xQ.2.2.2.2.1 = xQ.2.2.1.length) ∧ (xQ.2.2.1 = stepsTo ar rs t xQ.1)) (fun xQ => t.length - xQ.1) (0, v1, [], [], 0, F) ⟨rfl, rfl, rfl, rfl, trivial⟩ (sC (sC sR)) ⟨rfl, FLe.refl _, (by (try dsimp only) <;> omega), ((isSl_lit hv1)), (CO.nil), (rfl), (rfl)⟩ ?_
 rintro ⟨k, sv, ss, cs, m, G1⟩ rE _ _ ⟨rfl, leG, hk, hsv, hC, hm, hss⟩
 show X _ _ _ _ (envs [(1, tv), (2, ptr b1 0), (5, sv), (6, .int .i64 ((k : Int)))] rE) _ (slH 116 3 sv m cs :: cellsH b1 [arv, rsv] 37 :: L)
 replace leG : F ≤ G1 := leG
 dsimp only at hk hsv hC hm hss
 have hsl1 := stepsTo_len (ar := ar) (t := t) (rs := rs) hrl k
 have hss0 := hss
 have leG1 := leG
 replace har := har.mono leG1
 replace hrs := hrs.mono leG1
 replace ht := ht.mono leG1
 refine X.seq (X.seq (X.region ?_))
 refine XL.mv (.int .i64 ((k : Int))) rfl ?_
 refine XL.mv (tv) rfl ?_
 refine cX (XOp.lenS (v := tv) (n := (t).length) runUnderlying22 rfl ht.slv ?_)
 refine cX (XOp.lss (a := (k : Int)) (b := (t.length : Int)) rfl rfl ?_)
 refine XL.nil ?_
 refine X.condD (p := (k : Int) < (t.length : Int)) rfl (fun h1 => ?_) (fun h1 => ?_)
 ·refine X.skip (X.seq (X.block (X.seq (X.region ?_))))
  refine XL.as (.int .i64 (0)) rfl ?_
  refine XL.nil (X.block ?_)
  refine X.loop (α := Nat × Value × List StepT × List Value × Nat × FH) (fun xQ => [(1, tv), (2, ptr b1 0), (5, xQ.2.1), (6, .int .i64 ((k : Int))), (7, .int .i64 (((xQ.1 : Nat) : Int)))]) (fun xQ => slH 116 3 xQ.2.1 xQ.2.2.2.2.1 xQ.2.2.2.1 :: cellsH b1 [arv, rsv] 37 :: L) (fun xQ F' => xQ.2.2.2.2.2 = F' ∧ G1 ≤ xQ.2.2.2.2.2 ∧ (xQ.1 ≤ rs.length) ∧ (IsSl xQ.2.1) ∧ (StepsC xQ.2.2.2.2.2 xQ.2.2.2.1 xQ.2.2.1) ∧ (xQ.2.2.2.2.1 = xQ.2.2.1.length) ∧ (xQ.2.2.1 = stepsTo ar rs t k ++ stepsRow ar rs t k xQ.1)) (fun xQ => rs.length - xQ.1) (0, sv, ss, cs, m, G1) ⟨rfl, rfl, rfl, rfl, rfl, trivial⟩ (sC (sC sR)) ⟨rfl, FLe.refl _, (by (try dsimp only) <;> omega), (hsv), (hC), (hm), (by (try dsimp only); rw [hss0]; simp [stepsRow])⟩ ?_
  rintro ⟨r, sv, ss, cs, m, G2⟩ rE _ _ ⟨rfl, leG, hr, hsvi, hCi, hmi, hssi⟩
  show X _ _ _ _ (envs [(1, tv), (2, ptr b1 0), (5, sv), (6, .int .i64 ((k : Int))), (7, .int .i64 ((r : Int)))] rE) _ (slH 116 3 sv m cs :: cellsH b1 [arv, rsv] 37 :: L)
  replace leG : G1 ≤ G2 := leG
  dsimp only at hr hsvi hCi hmi hssi
  have hsl2 := stepsRow_len (ar := ar) (rs := rs) (t := t) (p := k) r
  have hssl : ss.length ≤ 1000 := by rw [hssi, List.length_append]; omega
  have leG2 := leG
  replace har := har.mono leG2
  replace hrs := hrs.mono leG2
  replace ht := ht.mono leG2
  replace hC := hC.mono leG2
  refine X.seq (X.seq (X.region ?_))
  refine XL.mv (.int .i64 ((r : Int))) rfl ?_
  refine cX (XOp.fieldP (b := b1) (1) runUnderlying37 rfl sizeOf35 (by decide) rfl rfl ?_)
  refine cX (XOp.load1 (v := rsv) isAgg35 rfl (Rd.own [_] rfl rfl) ?_)
  refine cX (XOp.lenS (v := rsv) (n := (rs).length) runUnderlying35 rfl hrs.slv ?_)
  refine cX (XOp.lss (a := (r : Int)) (b := (rs.length : Int)) rfl rfl ?_)
  refine XL.nil ?_
  refine X.condD (p := (r : Int) < (rs.length : Int)) rfl (fun h2 => ?_) (fun h2 => ?_)
  ·refine X.skip (X.seq (X.block (X.seq (X.region ?_))))
   refine cX (XOp.loadN [arv, rsv] isAgg37 sizeOf37 rfl rfl (Rd.ownN [_] rfl rfl) ?_)
   refine XL.mv (tv) rfl ?_
   refine XL.mv (.int .i64 ((k : Int))) rfl ?_
   refine XL.mv (.int .i64 ((r : Int))) rfl ?_
   refine cX (XOp.call (args := [.agg #[arv, rsv], tv, .int .i64 (k : Int), .int .i64 (r : Int)]) call101 rfl (l7Step_spec (p := k) (r := r) har hrs ht (hsys := (by first | assumption | rfl | omega | simp)) (ho := (by first | assumption | rfl | omega | simp)) (hp := (by first | assumption | rfl | omega | simp)) (hr := (by first | assumption | rfl | omega | simp))) ?_)
   rintro _ F1 _ le1 ⟨x1, rfl, hr1, rfl⟩
   replace hC := hC.mono le1
   replace hCi := hCi.mono le1
   refine XL.mv (.tuple #[x1, .bool ((stepL ar rs t k r).isSome)]) rfl ?_
   refine cX (XOp.extract (x1) rfl rfl ?_)
   refine cX (XOp.extract (.bool ((stepL ar rs t k r).isSome)) rfl rfl ?_)
   refine XL.as (x1) rfl ?_
   refine XL.as (.bool ((stepL ar rs t k r).isSome)) rfl ?_
   refine XL.nil (X.seq (X.region ?_))
   refine XL.mv (.bool ((stepL ar rs t k r).isSome)) rfl ?_
   refine XL.nil ?_
   refine X.cond (t := (stepL ar rs t k r).isSome) rfl (fun h3 => ?_) (fun h3 => ?_)
   ·have hone : stepOne ar rs t k r = [((k : Int), (r : Int), (stepL ar rs t k r).getD [])] := (one_some h3).1
    refine X.region ?_
    refine XL.mv (sv) rfl ?_
    refine XL.mv (.int .i64 ((k : Int))) rfl ?_
    refine XL.mv (.int .i64 ((r : Int))) rfl ?_
    refine XL.mv (x1) rfl ?_
    refine cX (XOp.build [.int .i64 ((k : Int)), .int .i64 ((r : Int)), x1] [.int .i64 (0), .int .i64 (0), (.slice none 0 0)] [(0, 1), (1, 1), (2, 1)] [(0, [.int .i64 ((k : Int))]), (1, [.int .i64 ((r : Int))]), (2, [x1])] runUnderlying116 zeroValue116 rfl (.cons rfl sizeOf2 (.cons rfl sizeOf2 (.cons rfl sizeOf22 PlacesAre.nil))) rfl (.cons rfl (.cons rfl (.cons (cells_one (IntsF.isSl hr1)) CellsAre.nil))) ?_)
    refine cX (XOp.buildSlice (s := 3) [.int .i64 ((k : Int)), .int .i64 ((r : Int)), x1] [.int .i64 (0), .int .i64 (0), (.slice none 0 0)] [(0, [.int .i64 ((k : Int)), .int .i64 ((r : Int)), x1])] runUnderlying55 sizeOf116 zeroValue116 rfl (by decide) rfl (.cons rfl CellsAre.nil) rfl ?_)
    intro v2 hv2
    refine cX (XOp.append (m := 1) (bytes := 40) (cs := cs) [_] _ [.int .i64 ((k : Int)), .int .i64 ((r : Int)), x1] runUnderlying55 typeInfo116 rfl rfl rfl rfl rfl rfl rfl (SlV.own [] rfl) rfl (Rd.lit [] rfl) (ones_cons rfl (ones_cons rfl (ones_cons (one_sl (IntsF.isSl hr1)) ones_nil))) (by (try simp only [List.length_append, List.length_nil, List.length_cons, List.length_singleton]); omega) (by (try simp only [List.length_append, List.length_nil, List.length_cons, List.length_singleton]); omega) ?_)
    intro v3 hs1 hn1 hm1
    have hc1 := StepsC.snoc hCi (i := (k : Int)) (j := (r : Int)) hr1
    refine XL.as (v3) rfl ?_
    refine XL.nil (X.region ?_)
    refine XL.mv (.int .i64 ((r : Int))) rfl ?_
    refine cX (XOp.addR (a := (r : Int)) (b := 1) (((r + 1 : Nat) : Int)) rfl rfl (by omega) (by omega) ?_)
    refine XL.as (.int .i64 (((r + 1 : Nat) : Int))) rfl ?_
    refine XL.nil ?_
    exact ⟨(r + 1, v3, ss ++ [((k : Int), (r : Int), (stepL ar rs t k r).getD [])], cs ++ [.int .i64 ((k : Int)), .int .i64 ((r : Int)), x1], (m) + 1, F1), _, (FLe.trans leG2 le1), rF, ⟨rfl, rfl, rfl, rfl, rfl, trivial⟩, (sD (sC (sC sR))), ⟨rfl, (FLe.trans leG2 le1), (by (try dsimp only) <;> omega), (hs1), (hc1), (by (try dsimp only); (try rw [List.length_append, List.length_singleton]); omega), (by (try dsimp only); rw [hssi, stepsRow_succ, hone]; simp)⟩, (by omega)⟩
   have hone : stepOne ar rs t k r = [] := stepOne_no h3
   refine X.skip (X.region ?_)
   refine XL.mv (.int .i64 ((r : Int))) rfl ?_
   refine cX (XOp.addR (a := (r : Int)) (b := 1) (((r + 1 : Nat) : Int)) rfl rfl (by omega) (by omega) ?_)
   refine XL.as (.int .i64 (((r + 1 : Nat) : Int))) rfl ?_
   refine XL.nil ?_
   exact ⟨(r + 1, sv, ss, cs, m, F1), _, (FLe.trans leG2 le1), rF, ⟨rfl, rfl, rfl, rfl, rfl, trivial⟩, (sC (sC sR)), ⟨rfl, (FLe.trans leG2 le1), (by (try dsimp only) <;> omega), (hsvi), (hCi), (by (try dsimp only); (try rw [List.length_append, List.length_singleton]); omega), (by (try dsimp only); rw [hssi, stepsRow_succ, hone]; simp)⟩, (by omega)⟩
  refine X.exit (thenQ_exit (thenQ_exit (blockQ_exit ?_)))
  refine X.region ?_
  refine XL.mv (.int .i64 ((k : Int))) rfl ?_
  refine cX (XOp.addR (a := (k : Int)) (b := 1) (((k + 1 : Nat) : Int)) rfl rfl (by omega) (by omega) ?_)
  refine XL.as (.int .i64 (((k + 1 : Nat) : Int))) rfl ?_
  refine XL.nil ?_
  exact ⟨(k + 1, sv, ss, cs, m, G2), _, (FLe.trans leG1 leG2), rF, ⟨rfl, rfl, rfl, rfl, trivial⟩, (sC (sC sR)), ⟨rfl, (FLe.trans leG1 leG2), (by (try dsimp only) <;> omega), (hsvi), (hCi), (hmi), (by (try dsimp only); rw [hssi, stepsTo_succ, show r = rs.length from by omega])⟩, (by omega)⟩
 refine X.exit (thenQ_exit (thenQ_exit (blockQ_exit ?_)))
 refine X.seq (X.region ?_)
 refine XL.mv (sv) rfl ?_
 refine XL.as (sv) rfl ?_
 refine XL.nil ?_
 refine X.freezeF [] _ _ rfl (fun F2 le2 hz1 => ?_)
 replace hC := hC.mono le2
 have hf1 : StepsF F2 sv ss := CO.fz hC (by first | rfl | simp | omega) hz1.fz
 refine X.ret (retEnd (L' := L) [sv] (sv) (.tmp rfl .nil) rfl (FLe.trans leG1 le2) rF (sD sR) ?_)
 have e1 : stepsL ar rs t = ss := by rw [hss, show k = t.length from by omega]; rfl
 rw [e1]
 exact ⟨_, rfl, hf1, rfl⟩

/- spec.l1TermPlace -/
theorem l1TermPlace_spec {F : FH} {L : List HP} {tsv : Value} {ts : List (List Int)} (hts : RowsF F tsv ts) {xv : Value} {x : List Int} (hx : IntsF F xv x) (hlt : ts.length ≤ 4000000) (htb : ∀ i, i < ts.length → (ts.getD i []).length ≤ 4000000) (hlx : x.length ≤ 4000000) :
    Does prog 147 [tsv, xv] F (L) (fun v F' L' => (.int .i64 (badG (fun y => !decide (y = x)) ts) : Value) = v ∧ F = F' ∧ L = L') := by
 refine Does.of_X func147 rfl rfl rfl ?_
 refine X.seq (X.region ?_)
 refine XL.as (.int .i64 (0)) rfl ?_
 refine XL.nil (X.seq (X.seq (X.region ?_)))
 refine XL.as (.int .i64 (0)) rfl ?_
 refine XL.nil (X.block ?_)
 refine X.loop (α := Nat) (fun k => [(0, tsv), (1, xv), (5, .int .i64 ((k : Int)))]) (fun k => L) (fun k F' => F = F' ∧ (k ≤ ts.length) ∧ (∀ i, i < k → (fun y => !decide (y = x)) (ts.getD i []) = true)) (fun k => ts.length - k) 0 ⟨rfl, rfl, rfl, trivial⟩ sR ⟨rfl, (by (try dsimp only) <;> omega), (fun i hi => absurd hi (by omega))⟩ ?_
 rintro k rE _ _ ⟨rfl, hk, hall⟩
 show X _ _ _ _ (envs [(0, tsv), (1, xv), (5, .int .i64 ((k : Int)))] rE) _ (L)
 have htbk := htb k
 refine X.seq (X.seq (X.region ?_))
 refine XL.mv (.int .i64 ((k : Int))) rfl ?_
 refine XL.mv (tsv) rfl ?_
 refine cX (XOp.lenS (v := tsv) (n := (ts).length) runUnderlying58 rfl hts.slv ?_)
 refine cX (XOp.lss (a := (k : Int)) (b := (ts.length : Int)) rfl rfl ?_)
 refine XL.nil ?_
 refine X.condD (p := (k : Int) < (ts.length : Int)) rfl (fun h1 => ?_) (fun h1 => ?_)
 ·refine X.skip (X.seq (X.block (X.seq (X.region ?_))))
  refine XL.mv (tsv) rfl ?_
  refine XL.mv (.int .i64 ((k : Int))) rfl ?_
  refine cX (XOp.indexS (v := tsv) (i := (k : Int)) (n := (ts).length) k runUnderlying58 sizeOf22 rfl rfl rfl hts.slv (by omega) (Nat.mul_one _) ?_)
  obtain ⟨a1, ha1, hr1⟩ := hts.rd (i := k) (by omega)
  refine cX (XOp.load1 (v := a1) isAgg22 rfl (hr1 _) ?_)
  refine XL.mv (xv) rfl ?_
  refine cX (XOp.call (args := [a1, xv]) call96 rfl (SameTerm_spec ha1 hx (hbd := (by first | assumption | rfl | omega | (left; simp; done) | (right; simp; done)))) ?_)
  rintro _ _ _ _ ⟨rfl, rfl, rfl⟩
  refine XL.nil ?_
  refine X.condD (p := ((ts.getD k [])) = x) rfl (fun h2 => ?_) (fun h2 => ?_)
  ·refine X.seq (X.region ?_)
   refine XL.mv (.int .i64 ((k : Int))) rfl ?_
   refine XL.as (.int .i64 ((k : Int))) rfl ?_
   refine XL.nil ?_
   refine X.ret (blockQ_ret (thenQ_ret (thenQ_ret (blockQ_ret (thenQ_ret (retEnd (L' := L) [.int .i64 ((k : Int))] (.int .i64 ((k : Int))) (.tmp rfl .nil) rfl rF rF sR ?_))))))
   exact ⟨(vI (badG_at [] (by omega) (by simp_all) hall)), rfl, rfl⟩
  refine X.skip (X.region ?_)
  refine XL.mv (.int .i64 ((k : Int))) rfl ?_
  refine cX (XOp.addR (a := (k : Int)) (b := 1) (((k + 1 : Nat) : Int)) rfl rfl (by omega) (by omega) ?_)
  refine XL.as (.int .i64 (((k + 1 : Nat) : Int))) rfl ?_
  refine XL.nil ?_
  exact ⟨k + 1, _, FLe.refl _, rF, ⟨rfl, rfl, rfl, trivial⟩, sR, ⟨rfl, (by (try dsimp only) <;> omega), (fun i hi => (Nat.lt_or_ge i k).elim (fun h => hall i h) (fun h => by obtain rfl : i = k := (by omega); simp_all))⟩, (by omega)⟩
 refine X.exit (thenQ_exit (thenQ_exit (blockQ_exit ?_)))
 refine X.seq (X.region ?_)
 refine XL.as (.int .i64 (-1)) rfl ?_
 refine XL.nil ?_
 refine X.ret (retEnd (L' := L) [.int .i64 (-1)] (.int .i64 (-1)) (.tmp rfl .nil) rfl rF rF sR ?_)
 exact ⟨(vI (badG_none [] (fun i hi => hall i (by omega)))), rfl, rfl⟩

/- spec.l9Right -/
theorem l9Right_spec {F : FH} {L : List HP} {arv : Value} {ar : List Int} (har : IntsF F arv ar) {rsv : Value} {rs : List (List Int × List Int)} (hrs : PairsF F rsv rs) {tv : Value} {t : List Int} (ht : IntsF F tv t) {n : Int} (hla : ar.length ≤ 4000000) (hlr : rs.length ≤ 4000000) (hrb : ∀ i, i < rs.length → (rs.getD i ([], [])).1.length ≤ 4000000 ∧ (rs.getD i ([], [])).2.length ≤ 4000000) (hlt : t.length ≤ 4000000) :
    Does prog 140 [.agg #[arv, rsv], tv, .int .i64 (n)] F (L) (fun v F' L' => (.bool (reachOkL ar rs n [t]) : Value) = v ∧ F = F' ∧ L = L') := by
 refine Does.of_X func140 rfl rfl rfl ?_
 refine X.seq (X.region ?_)
 refine cX (XOp.box [arv, rsv] rfl rfl ?_)
 intro b1
 refine XL.as (.bool (false)) rfl ?_
 refine XL.nil (X.seq (X.region ?_))
 refine cX (XOp.loadN [arv, rsv] isAgg37 sizeOf37 rfl rfl (Rd.ownN [] rfl rfl) ?_)
 refine XL.mv (tv) rfl ?_
 refine cX (XOp.call (args := [.agg #[arv, rsv], tv]) call143 rfl (l7Right_spec har hrs ht (hla := (by first | assumption | rfl | omega | simp)) (hlr := (by first | assumption | rfl | omega | simp)) (hrb := (by first | assumption | rfl | omega | simp)) (hlt := (by first | assumption | rfl | omega | simp))) ?_)
 rintro _ _ _ _ ⟨rfl, rfl, rfl⟩
 refine XL.mv (.bool (rightB ar rs t)) rfl ?_
 by_cases h1 : (rightB ar rs t) = true
 ·refine XL.yes (t := 10) rfl (vB h1) (XOp.move (.int .i64 (n)) rfl ?_)
  refine XL.yes (t := 10) rfl (vB h1) (XOp.call (args := [.int .i64 (n), .int .i64 (0), .int .i64 (20)]) call98 rfl (l1In_spec (n := n) (a := 0) (b := 20)) ?_)
  rintro _ _ _ _ ⟨rfl, rfl, rfl⟩
  refine cX (XOp.pickT (.bool (decide (0 ≤ n ∧ n ≤ 20))) (vB h1) rfl ?_)
  refine XL.as (.bool (decide (0 ≤ n ∧ n ≤ 20))) rfl ?_
  refine XL.nil ?_
  refine X.ret (retEnd (L' := L) [.bool (decide (0 ≤ n ∧ n ≤ 20))] (.bool (decide (0 ≤ n ∧ n ≤ 20))) (.tmp rfl .nil) rfl rF rF (sD sR) ?_)
  exact ⟨(vB (by rw [reachOk_right]; simp_all)), rfl, rfl⟩
 rw [Bool.not_eq_true] at h1
 refine XL.no (t := 10) rfl (vB h1) ?_
 refine XL.no (t := 10) rfl (vB h1) ?_
 refine cX (XOp.pickF (.bool (false)) (vB h1) rfl ?_)
 refine XL.as (.bool (false)) rfl ?_
 refine XL.nil ?_
 refine X.ret (retEnd (L' := L) [.bool (false)] (.bool (false)) (.tmp rfl .nil) rfl rF rF (sD sR) ?_)
 exact ⟨(vB (by rw [reachOk_right]; simp_all)), rfl, rfl⟩

/- spec.l9Find -/
set_option maxHeartbeats 1000000 in
set_option maxRecDepth 20000 in
theorem l9Find_spec {F : FH} {L : List HP} {arv : Value} {ar : List Int} (har : IntsF F arv ar) {rsv : Value} {rs : List (List Int × List Int)} (hrs : PairsF F rsv rs) {tv : Value} {t : List Int} (ht : IntsF F tv t) {n : Int} (hsys : sysOk ar rs = true) (ho : termOk ar t = true) (hn20 : 0 ≤ n ∧ n ≤ 20) :
    Does prog 141 [.agg #[arv, rsv], tv, .int .i64 (n)] F (L) (fun v F' L' => ∃ (x1 : Value), ∃ (x2 : Value), ∃ (x3 : Value), ∃ (x4 : Value), (.agg #[x1, x2, x3, x4, .bool ((reachL ar rs t n).2)] : Value) = v ∧ (RowsF F' x1 (terms (reachL ar rs t n).1)) ∧ (IntsF F' x2 (froms (reachL ar rs t n).1)) ∧ (StepsF F' x3 (bys (reachL ar rs t n).1)) ∧ (IntsF F' x4 (deeps (reachL ar rs t n).1)) ∧ L = L') := by
 refine Does.of_X func141 rfl rfl rfl ?_
 have hnn := notNil_of_pos ht (by have := termOk_len ho; omega)
 have htl := termOk_len ho
 have hrl := (sysOk_iff.1 hsys).2.1
 have hsig := (sysOk_iff.1 hsys).1
 have hsl := sigOk_spec hsig
 refine X.seq (X.region ?_)
 refine cX (XOp.box [arv, rsv] rfl rfl ?_)
 intro b1
 refine cX (XOp.alloc [(.slice none 0 0), (.slice none 0 0), (.slice none 0 0), (.slice none 0 0), .bool (false)] zeroValue169 rfl ?_)
 intro b2
 refine XL.nil (X.seq (X.region ?_))
 refine XL.mv (tv) rfl ?_
 refine cX (XOp.frzF <| XOp.call (args := [tv]) call99 rfl (l1Copy_spec ht (hlt := (by first | assumption | rfl | omega | simp))) ?_)
 rintro v1 _ _ _ ⟨rfl, hs1, rfl⟩
 refine ⟨_, _, rfl, fun F1 le1 hz1 => ?_⟩
 replace har := har.mono le1
 replace hrs := hrs.mono le1
 have hf1 : IntsF F1 v1 ((t)) := intsH.fz (xs := (t)) hz1.fz
 refine cX (XOp.buildSlice (s := 1) [v1] [(.slice none 0 0)] [(0, [v1])] runUnderlying58 sizeOf22 zeroValue22 rfl (by decide) rfl (.cons (cells_one (IntsF.isSl hf1)) CellsAre.nil) rfl ?_)
 intro v2 hv1
 refine cX (XOp.buildSlice (s := 1) [.int .i64 (-1)] [.int .i64 (0)] [(0, [.int .i64 (-1)])] runUnderlying22 sizeOf2 zeroValue2 rfl (by decide) rfl (.cons rfl CellsAre.nil) rfl ?_)
 intro v3 hv2
 refine cX (XOp.build [.int .i64 (0), .int .i64 (0), (.slice none 0 0)] [.int .i64 (0), .int .i64 (0), (.slice none 0 0)] [(0, 1), (1, 1), (2, 1)] [] runUnderlying116 zeroValue116 rfl (.cons rfl sizeOf2 (.cons rfl sizeOf2 (.cons rfl sizeOf22 PlacesAre.nil))) rfl CellsAre.nil ?_)
 refine cX (XOp.buildSlice (s := 3) [.int .i64 (0), .int .i64 (0), (.slice none 0 0)] [.int .i64 (0), .int .i64 (0), (.slice none 0 0)] [(0, [.int .i64 (0), .int .i64 (0), (.slice none 0 0)])] runUnderlying55 sizeOf116 zeroValue116 rfl (by decide) rfl (.cons rfl CellsAre.nil) rfl ?_)
 intro v4 hv3
 refine cX (XOp.buildSlice (s := 1) [.int .i64 (0)] [.int .i64 (0)] [(0, [.int .i64 (0)])] runUnderlying22 sizeOf2 zeroValue2 rfl (by decide) rfl (.cons rfl CellsAre.nil) rfl ?_)
 intro v5 hv4
 refine cX (XOp.build [v2, v3, v4, v5, .bool (true)] [(.slice none 0 0), (.slice none 0 0), (.slice none 0 0), (.slice none 0 0), .bool (false)] [(0, 1), (1, 1), (2, 1), (3, 1), (4, 1)] [(0, [v2]), (1, [v3]), (2, [v4]), (3, [v5]), (4, [.bool (true)])] runUnderlying169 zeroValue169 rfl (.cons rfl sizeOf58 (.cons rfl sizeOf22 (.cons rfl sizeOf55 (.cons rfl sizeOf22 (.cons rfl sizeOf4 PlacesAre.nil))))) rfl (.cons (cells_one (isSl_lit hv1)) (.cons (cells_one (isSl_lit hv2)) (.cons (cells_one (isSl_lit hv3)) (.cons (cells_one (isSl_lit hv4)) (.cons rfl CellsAre.nil))))) ?_)
 refine cX (XOp.alloc [(.slice none 0 0), (.slice none 0 0), (.slice none 0 0), (.slice none 0 0), .bool (false)] zeroValue169 rfl ?_)
 intro b3
 refine cX (XOp.storeN (vs := [v2, v3, v4, v5, .bool (true)]) [] _ [v2, v3, v4, v5, .bool (true)] sizeOf169 rfl rfl rfl (ones_cons (one_sl (isSl_lit hv1)) (ones_cons (one_sl (isSl_lit hv2)) (ones_cons (one_sl (isSl_lit hv3)) (ones_cons (one_sl (isSl_lit hv4)) (ones_cons rfl ones_nil))))) rfl rfl rfl ?_)
 refine XL.nil (X.seq (X.seq (X.region ?_)))
 refine XL.as (.int .i64 (0)) rfl ?_
 refine XL.nil (X.block ?_)
 have hc1 : RowsC F1 [v1] ([(t)] : List (List Int)) := (RowsC.snoc (CO.nil : RowsC F1 [] []) hf1)
 show X _ _ _ _ _ _ (cellsH b3 [v2, v3, v4, v5, .bool (true)] 169 :: slH 2 1 v5 1 [.int .i64 (0)] :: slH 116 3 v4 1 [.int .i64 (0), .int .i64 (0), (.slice none 0 0)] :: intsH 2 v3 ([-1] : List Int) :: slH 22 1 v2 1 ([v1]) :: cellsH b2 [(.slice none 0 0), (.slice none 0 0), (.slice none 0 0), (.slice none 0 0), .bool (false)] 169 :: cellsH b1 [arv, rsv] 37 :: L)
 have hc2 : StepsC F1 [.int .i64 (0), .int .i64 (0), (.slice none 0 0)] ([(0, 0, [])] : List StepT) := (StepsC.snoc (CO.nil : StepsC F1 [] []) (i := 0) (j := 0) IntsF.nilV)
 show X _ _ _ _ _ _ (cellsH b3 [v2, v3, v4, v5, .bool (true)] 169 :: intsH 2 v5 ([0] : List Int) :: slH 116 3 v4 1 ([.int .i64 (0), .int .i64 (0), (.slice none 0 0)]) :: intsH 2 v3 ([-1] : List Int) :: slH 22 1 v2 1 ([v1]) :: cellsH b2 [(.slice none 0 0), (.slice none 0 0), (.slice none 0 0), (.slice none 0 0), .bool (false)] 169 :: cellsH b1 [arv, rsv] 37 :: L)
 refine X.loop (α := Nat × List FoundT × Value × RowL × List Value × Nat × Value × List Int × Value × List StepT × List Value × Nat × Value × List Int × FH) (fun xQ => [(2, .int .i64 (n)), (3, ptr b1 0), (6, ptr b2 0), (7, ptr b3 0), (8, .int .i64 (((xQ.1 : Nat) : Int)))]) (fun xQ => slH 22 1 xQ.2.2.1 xQ.2.2.2.2.2.1 xQ.2.2.2.2.1 :: intsH 2 xQ.2.2.2.2.2.2.1 xQ.2.2.2.2.2.2.2.1 :: slH 116 3 xQ.2.2.2.2.2.2.2.2.1 xQ.2.2.2.2.2.2.2.2.2.2.2.1 xQ.2.2.2.2.2.2.2.2.2.2.1 :: intsH 2 xQ.2.2.2.2.2.2.2.2.2.2.2.2.1 xQ.2.2.2.2.2.2.2.2.2.2.2.2.2.1 :: cellsH b3 [xQ.2.2.1, xQ.2.2.2.2.2.2.1, xQ.2.2.2.2.2.2.2.2.1, xQ.2.2.2.2.2.2.2.2.2.2.2.2.1, .bool (true)] 169 :: cellsH b2 [(.slice none 0 0), (.slice none 0 0), (.slice none 0 0), (.slice none 0 0), .bool (false)] 169 :: cellsH b1 [arv, rsv] 37 :: L) (fun xQ F' => xQ.2.2.2.2.2.2.2.2.2.2.2.2.2.2 = F' ∧ F1 ≤ xQ.2.2.2.2.2.2.2.2.2.2.2.2.2.2 ∧ (IsSl xQ.2.2.1) ∧ (IsSl xQ.2.2.2.2.2.2.1) ∧ (IsSl xQ.2.2.2.2.2.2.2.2.1) ∧ (IsSl xQ.2.2.2.2.2.2.2.2.2.2.2.2.1) ∧ (RowsC xQ.2.2.2.2.2.2.2.2.2.2.2.2.2.2 xQ.2.2.2.2.1 xQ.2.2.2.1) ∧ (StepsC xQ.2.2.2.2.2.2.2.2.2.2.2.2.2.2 xQ.2.2.2.2.2.2.2.2.2.2.1 xQ.2.2.2.2.2.2.2.2.2.1) ∧ (xQ.2.2.2.2.2.1 = xQ.2.2.2.1.length) ∧ (xQ.2.2.2.2.2.2.2.2.2.2.2.1 = xQ.2.2.2.2.2.2.2.2.2.1.length) ∧ (xQ.2.2.2.1 = terms xQ.2.1) ∧ (xQ.2.2.2.2.2.2.2.1 = froms xQ.2.1) ∧ (xQ.2.2.2.2.2.2.2.2.2.1 = bys xQ.2.1) ∧ (xQ.2.2.2.2.2.2.2.2.2.2.2.2.2.1 = deeps xQ.2.1) ∧ (xQ.2.1.length ≤ 60) ∧ (AllOk ar xQ.2.1) ∧ (DeepOk n xQ.2.1) ∧ (xQ.1 ≤ xQ.2.1.length) ∧ (reachL ar rs t n = reachGo ar rs n (60 - xQ.1) xQ.1 xQ.2.1)) (fun xQ => 60 - xQ.1) (0, start0 t, v2, ([(t)] : List (List Int)), [v1], 1, v3, [-1], v4, ([(0, 0, [])] : List StepT), [.int .i64 (0), .int .i64 (0), (.slice none 0 0)], 1, v5, [0], F1) ⟨rfl, rfl, rfl, rfl, rfl, trivial⟩ (Sub.trans (Sub.front (A := [_, _, _, _, _, _])) (Sub.trans (Sub.front (A := [_, _, _, _, _, _])) (Sub.trans (Sub.front (A := [_, _])) (Sub.trans (Sub.front (A := [_, _, _])) (Sub.trans (Sub.front (A := [_, _, _, _])) (Sub.trans (Sub.front (A := [_, _, _, _, _])) (Sub.trans (Sub.front (A := [_, _, _, _, _, _])) (sC (sC (sC (sC (sC (sC (sC sR)))))))))))))) ⟨rfl, FLe.refl _, ((isSl_lit hv1)), ((isSl_lit hv2)), ((isSl_lit hv3)), ((isSl_lit hv4)), (hc1), (hc2), (rfl), (rfl), (rfl), (rfl), (rfl), (rfl), (by simp [start0]), (AllOk.start ho), (DeepOk.start hn20.1), (by simp), (rfl)⟩ ?_
 rintro ⟨k, os, av, ts, acs, an, bv, fs, cv, bs, ccs, cn, dv, ds, G1⟩ rE _ _ ⟨rfl, leG, hav, hbv, hcv, hdv, hA, hB, han, hcn, hts, hfs, hbs, hds, hl, hok, hdo, hk, hgo⟩
 show X _ _ _ _ (envs [(2, .int .i64 (n)), (3, ptr b1 0), (6, ptr b2 0), (7, ptr b3 0), (8, .int .i64 ((k : Int)))] rE) _ (slH 22 1 av an acs :: intsH 2 bv fs :: slH 116 3 cv cn ccs :: intsH 2 dv ds :: cellsH b3 [av, bv, cv, dv, .bool (true)] 169 :: cellsH b2 [(.slice none 0 0), (.slice none 0 0), (.slice none 0 0), (.slice none 0 0), .bool (false)] 169 :: cellsH b1 [arv, rsv] 37 :: L)
 replace leG : F1 ≤ G1 := leG
 dsimp only at hav hbv hcv hdv hA hB han hcn hts hfs hbs hds hl hok hdo hk hgo
 have htl9 : ts.length = os.length := by rw [hts]; exact terms_len
 have hfl9 : fs.length = os.length := by rw [hfs]; exact froms_len
 have hbl9 : bs.length = os.length := by rw [hbs]; exact bys_len
 have hdl9 : ds.length = os.length := by rw [hds]; exact deeps_len
 have hdk := fun (h : k < os.length) => hok k h
 have hdl := fun (h : k < os.length) => termOk_len (hok k h)
 have hEt : ts.getD k [] = (EL os k).1 := by rw [hts]; exact terms_get k
 have hEd := fun (h : k < os.length) => (show ds.getD k 0 = (EL os k).2.2.2 from by rw [hds]; exact deeps_get h)
 have leG1 := leG
 replace har := har.mono leG1
 replace hrs := hrs.mono leG1
 refine X.seq (X.seq (X.region ?_))
 refine XL.mv (.int .i64 ((k : Int))) rfl ?_
 refine cX (XOp.fieldP (b := b3) (0) runUnderlying169 rfl sizeOf58 (by decide) rfl rfl ?_)
 refine cX (XOp.load1 (v := av) isAgg58 rfl (Rd.own [_, _, _, _] rfl rfl) ?_)
 refine cX (XOp.lenS (v := av) (n := an) runUnderlying58 rfl (SlV.own [] rfl) ?_)
 refine cX (XOp.lss (a := (k : Int)) (b := ((an : Nat) : Int)) rfl rfl ?_)
 refine XL.nil ?_
 refine X.condD (p := (k : Int) < ((an : Nat) : Int)) rfl (fun h1 => ?_) (fun h1 => ?_)
 ·refine X.skip (X.seq (X.block (X.seq (X.seq (X.region ?_)))))
  refine cX (XOp.fieldP (b := b3) (3) runUnderlying169 rfl sizeOf22 (by decide) rfl rfl ?_)
  refine cX (XOp.load1 (v := dv) isAgg22 rfl (Rd.own [_, _, _, _] rfl rfl) ?_)
  refine XL.mv (.int .i64 ((k : Int))) rfl ?_
  refine cX (XOp.indexS (v := dv) (i := (k : Int)) (n := (ds).length) k runUnderlying22 sizeOf2 rfl rfl rfl (intsH.slv [_, _, _] rfl) (by omega) (Nat.mul_one _) ?_)
  refine cX (XOp.load1 (v := .int .i64 (ds.getD k 0)) isAgg2 rfl (intsH.rd [_, _, _] rfl (by omega)) ?_)
  refine XL.mv (.int .i64 (n)) rfl ?_
  refine cX (XOp.eql (a := ds.getD k 0) (b := n) rfl rfl ?_)
  refine XL.nil ?_
  refine X.condD (p := (ds.getD k 0 : Int) = n) rfl (fun h2 => ?_) (fun h2 => ?_)
  ·have hdeep : (EL os k).2.2.2 = n := by rw [← hEd (by omega)]; exact h2
   refine X.exit (thenQ_exit (blockQ_exit ?_))
   refine X.region ?_
   refine XL.mv (.int .i64 ((k : Int))) rfl ?_
   refine cX (XOp.addR (a := (k : Int)) (b := 1) (((k + 1 : Nat) : Int)) rfl rfl (by omega) (by omega) ?_)
   refine XL.as (.int .i64 (((k + 1 : Nat) : Int))) rfl ?_
   refine XL.nil ?_
   exact ⟨(k + 1, os, av, ts, acs, an, bv, fs, cv, bs, ccs, cn, dv, ds, G1), _, leG1, rF, ⟨rfl, rfl, rfl, rfl, rfl, trivial⟩, (sC (sC (sC (sC (sC (sC (sC sR))))))), ⟨rfl, leG1, (hav), (hbv), (hcv), (hdv), (hA), (hB), (han), (hcn), (hts), (hfs), (hbs), (hds), (hl), (hok), (hdo), (by (try dsimp only) <;> omega), (by (try dsimp only); exact hgo.trans (reach_same (f := 60 - k - 1) (by omega) (by omega) hdeep))⟩, (by (try dsimp only); omega)⟩
  have hdeep : (EL os k).2.2.2 ≠ n := by rw [← hEd (by omega)]; exact h2
  refine X.skip (X.seq ?_)
  obtain ⟨a1, ha1, he1⟩ := hA.get (i := k) (by omega)
  refine X.draw [slH 22 1 av an acs, intsH 2 bv fs, slH 116 3 cv cn ccs, intsH 2 dv ds, cellsH b3 [av, bv, cv, dv, .bool (true)] 169, cellsH b2 [(.slice none 0 0), (.slice none 0 0), (.slice none 0 0), (.slice none 0 0), .bool (false)] 169, cellsH b1 [arv, rsv] 37] L 6 [[], [], [], [], [], []] [[], [], [1], [], [2, 3], [4]] (phiL [fun us v => v = (.agg #[arv, rsv] : Value), fun us v => v = ptr b3 0, fun us v => v = av, fun us v => v = (.int .i64 ((k : Int)) : Value), fun us v => v = (.pointer (some (elemA av (k))) : Value), fun us v => v = a1]) (ownL [fun us v => [], fun us v => [], fun us v => [], fun us v => [], fun us v => [], fun us v => []]) mixed rfl rfl (by kernel_rfl) ?_ ?_
  ·refine pC (fun vals R hpZ => ?_) ?_
   ·refine XG.op (XOp.loadN [arv, rsv] isAgg37 sizeOf37 rfl rfl (Rd.ownN [_, _, _, _, _, _] rfl rfl) ?_)
    exact ⟨rfl, rfl, rfl⟩
   refine pC (fun vals R hpZ => ?_) ?_
   ·refine XG.op (XOp.fieldP (b := b3) (0) runUnderlying169 rfl sizeOf58 (by decide) rfl rfl ?_)
    exact ⟨rfl, rfl, rfl⟩
   refine pC (fun vals R hpZ => ?_) ?_
   ·rw [eS (l := [(1, ptr b3 0)]) ⟨hpZ 1 (by decide), trivial⟩]
    refine XG.op (XOp.load1 (v := av) isAgg58 rfl (Rd.own [_, _, _, _] rfl rfl) ?_)
    exact ⟨rfl, rfl, rfl⟩
   refine pC (fun vals R hpZ => ?_) ?_
   ·refine XG.op (XOp.move (.int .i64 ((k : Int))) rfl ?_)
    exact ⟨rfl, rfl, rfl⟩
   refine pC (fun vals R hpZ => ?_) ?_
   ·rw [eS (l := [(2, av), (3, (.int .i64 ((k : Int)) : Value))]) ⟨hpZ 2 (by decide), hpZ 3 (by decide), trivial⟩]
    refine XG.op (XOp.indexS (v := av) (i := (k : Int)) (n := an) k runUnderlying58 sizeOf22 rfl rfl rfl (SlV.own [] rfl) (by omega) (Nat.mul_one _) ?_)
    exact ⟨rfl, rfl, rfl⟩
   refine pC (fun vals R hpZ => ?_) ?_
   ·rw [eS (l := [(4, (.pointer (some (elemA av (k))) : Value))]) ⟨hpZ 4 (by decide), trivial⟩]
    refine XG.op (XOp.load1 (v := a1) isAgg22 rfl (Rd.sl [] rfl he1) ?_)
    exact ⟨rfl, rfl, rfl⟩
   exact stepsP.nil
  intro vals hphi
  rw [eS (l := [(0, (.agg #[arv, rsv] : Value)), (5, a1)]) ⟨(hphi 0 (by decide)), (hphi 5 (by decide)), trivial⟩]
  show XL _ _ _ _ _ _ _ (slH 22 1 av an acs :: intsH 2 bv fs :: slH 116 3 cv cn ccs :: intsH 2 dv ds :: cellsH b3 [av, bv, cv, dv, .bool (true)] 169 :: cellsH b2 [(.slice none 0 0), (.slice none 0 0), (.slice none 0 0), (.slice none 0 0), .bool (false)] 169 :: cellsH b1 [arv, rsv] 37 :: L)
  refine cX (XOp.call (args := [.agg #[arv, rsv], a1]) call144 rfl (l7Steps_spec har hrs ha1 (hsys := (hsys)) (ho := (by rw [hEt]; exact hdk (by omega)))) ?_)
  rintro _ F2 _ le2 ⟨x1, rfl, hr1, rfl⟩
  replace hA := hA.mono le2
  replace hB := hB.mono le2
  refine XL.as (x1) rfl ?_
  refine XL.nil (X.seq (X.region ?_))
  have hk7 : k < os.length := by omega
  obtain ⟨nx, hnx⟩ : ∃ nx, stepsL ar rs (ts.getD k []) = nx := ⟨_, rfl⟩
  rw [hnx] at hr1
  obtain ⟨os0, hos0⟩ : ∃ o, o = os := ⟨_, rfl⟩
  have hdeep0 := hdeep
  have hgo0 := hgo
  rw [← hos0] at hdeep0 hgo0
  have hnx0 : stepsL ar rs (EL os0 k).1 = nx := by rw [hos0, ← hEt]; exact hnx
  have hdk0 := hdk hk7
  have hdo0 := hdo k hk7
  have hl0 : os0.length ≤ 60 := by rw [hos0]; exact hl
  rw [← hos0] at hdk0 hdo0
  have hk70 := hk7
  rw [← hos0] at hk70
  have hnxo : ∀ i, i < nx.length → termOk ar (nx.getD i (0, 0, [])).2.2 = true := fun i hi => by rw [← hnx0] at hi ⊢; exact steps_ok hsys hdk0 hi
  have hnxl : nx.length ≤ 1000 := by have h9 := stepsTo_len (ar := ar) (t := (EL os0 k).1) (rs := rs) hrl (EL os0 k).1.length; have h8 := termOk_len hdk0; rw [← hnx0]; show (stepsTo ar rs (EL os0 k).1 (EL os0 k).1.length).length ≤ 1000; omega
  skip
  refine XL.as (.int .i64 (0)) rfl ?_
  refine XL.nil (X.block ?_)
  refine X.loop (α := Nat × List FoundT × Value × RowL × List Value × Nat × Value × List Int × Value × List StepT × List Value × Nat × Value × List Int × FH) (fun xQ => [(2, .int .i64 (n)), (3, ptr b1 0), (6, ptr b2 0), (7, ptr b3 0), (8, .int .i64 ((k : Int))), (9, x1), (10, .int .i64 (((xQ.1 : Nat) : Int)))]) (fun xQ => slH 22 1 xQ.2.2.1 xQ.2.2.2.2.2.1 xQ.2.2.2.2.1 :: intsH 2 xQ.2.2.2.2.2.2.1 xQ.2.2.2.2.2.2.2.1 :: slH 116 3 xQ.2.2.2.2.2.2.2.2.1 xQ.2.2.2.2.2.2.2.2.2.2.2.1 xQ.2.2.2.2.2.2.2.2.2.2.1 :: intsH 2 xQ.2.2.2.2.2.2.2.2.2.2.2.2.1 xQ.2.2.2.2.2.2.2.2.2.2.2.2.2.1 :: cellsH b3 [xQ.2.2.1, xQ.2.2.2.2.2.2.1, xQ.2.2.2.2.2.2.2.2.1, xQ.2.2.2.2.2.2.2.2.2.2.2.2.1, .bool (true)] 169 :: cellsH b2 [(.slice none 0 0), (.slice none 0 0), (.slice none 0 0), (.slice none 0 0), .bool (false)] 169 :: cellsH b1 [arv, rsv] 37 :: L) (fun xQ F' => xQ.2.2.2.2.2.2.2.2.2.2.2.2.2.2 = F' ∧ F2 ≤ xQ.2.2.2.2.2.2.2.2.2.2.2.2.2.2 ∧ (IsSl xQ.2.2.1) ∧ (IsSl xQ.2.2.2.2.2.2.1) ∧ (IsSl xQ.2.2.2.2.2.2.2.2.1) ∧ (IsSl xQ.2.2.2.2.2.2.2.2.2.2.2.2.1) ∧ (RowsC xQ.2.2.2.2.2.2.2.2.2.2.2.2.2.2 xQ.2.2.2.2.1 xQ.2.2.2.1) ∧ (StepsC xQ.2.2.2.2.2.2.2.2.2.2.2.2.2.2 xQ.2.2.2.2.2.2.2.2.2.2.1 xQ.2.2.2.2.2.2.2.2.2.1) ∧ (xQ.2.2.2.2.2.1 = xQ.2.2.2.1.length) ∧ (xQ.2.2.2.2.2.2.2.2.2.2.2.1 = xQ.2.2.2.2.2.2.2.2.2.1.length) ∧ (xQ.2.2.2.1 = terms xQ.2.1) ∧ (xQ.2.2.2.2.2.2.2.1 = froms xQ.2.1) ∧ (xQ.2.2.2.2.2.2.2.2.2.1 = bys xQ.2.1) ∧ (xQ.2.2.2.2.2.2.2.2.2.2.2.2.2.1 = deeps xQ.2.1) ∧ (xQ.2.1.length ≤ 60) ∧ (AllOk ar xQ.2.1) ∧ (DeepOk n xQ.2.1) ∧ (xQ.1 ≤ nx.length) ∧ (k < xQ.2.1.length) ∧ (EL xQ.2.1 k = EL os0 k) ∧ (addGo (k : Int) (EL os0 k).2.2.2 nx os0 = addGo (k : Int) (EL os0 k).2.2.2 (nx.drop xQ.1) xQ.2.1)) (fun xQ => nx.length - xQ.1) (0, os, av, ts, acs, an, bv, fs, cv, bs, ccs, cn, dv, ds, F2) ⟨rfl, rfl, rfl, rfl, rfl, rfl, rfl, trivial⟩ (sC (sC (sC (sC (sC (sC (sC sR))))))) ⟨rfl, FLe.refl _, (hav), (hbv), (hcv), (hdv), (hA), (hB), (han), (hcn), (hts), (hfs), (hbs), (hds), (hl), (hok), (hdo), (by (try dsimp only) <;> omega), (by (try dsimp only); omega), (by (try dsimp only); rw [hos0]), (by (try dsimp only); rw [hos0]; rfl)⟩ ?_
  rintro ⟨q, os, av, ts, acs, an, bv, fs, cv, bs, ccs, cn, dv, ds, G2⟩ rE _ _ ⟨rfl, leG, havi, hbvi, hcvi, hdvi, hAi, hBi, hani, hcni, htsi, hfsi, hbsi, hdsi, hli, hoki, hdoi, hq, hkp, hel, hgoi⟩
  show X _ _ _ _ (envs [(2, .int .i64 (n)), (3, ptr b1 0), (6, ptr b2 0), (7, ptr b3 0), (8, .int .i64 ((k : Int))), (9, x1), (10, .int .i64 ((q : Int)))] rE) _ (slH 22 1 av an acs :: intsH 2 bv fs :: slH 116 3 cv cn ccs :: intsH 2 dv ds :: cellsH b3 [av, bv, cv, dv, .bool (true)] 169 :: cellsH b2 [(.slice none 0 0), (.slice none 0 0), (.slice none 0 0), (.slice none 0 0), .bool (false)] 169 :: cellsH b1 [arv, rsv] 37 :: L)
  replace leG : F2 ≤ G2 := leG
  dsimp only at havi hbvi hcvi hdvi hAi hBi hani hcni htsi hfsi hbsi hdsi hli hoki hdoi hq hkp hel hgoi
  have htl9i : ts.length = os.length := by rw [htsi]; exact terms_len
  have hfl9i : fs.length = os.length := by rw [hfsi]; exact froms_len
  have hbl9i : bs.length = os.length := by rw [hbsi]; exact bys_len
  have hdl9i : ds.length = os.length := by rw [hdsi]; exact deeps_len
  have hsok := fun (h : q < nx.length) => termOk_len (hnxo q h)
  have hdk9 : ds.getD k 0 = (EL os0 k).2.2.2 := by rw [hdsi, deeps_get hkp, hel]
  have leG2 := leG
  replace hA := hA.mono leG2
  replace hB := hB.mono leG2
  replace hr1 := hr1.mono leG2
  refine X.seq (X.seq (X.region ?_))
  refine XL.mv (.int .i64 ((q : Int))) rfl ?_
  refine XL.mv (x1) rfl ?_
  refine cX (XOp.lenS (v := x1) (n := (nx).length) runUnderlying55 rfl hr1.slv ?_)
  refine cX (XOp.lss (a := (q : Int)) (b := (nx.length : Int)) rfl rfl ?_)
  refine XL.nil ?_
  refine X.condD (p := (q : Int) < (nx.length : Int)) rfl (fun h3 => ?_) (fun h3 => ?_)
  ·refine X.skip (X.seq (X.block (X.seq (X.seq ?_))))
   obtain ⟨a2, ha2, hr2, hr3, hr4⟩ := hr1.rd (i := q) (by omega)
   refine X.draw [slH 22 1 av an acs, intsH 2 bv fs, slH 116 3 cv cn ccs, intsH 2 dv ds, cellsH b3 [av, bv, cv, dv, .bool (true)] 169, cellsH b2 [(.slice none 0 0), (.slice none 0 0), (.slice none 0 0), (.slice none 0 0), .bool (false)] 169, cellsH b1 [arv, rsv] 37] L 7 [[], [], [], [], [], [], []] [[], [0], [], [], [2, 3], [4], [5]] (phiL [fun us v => v = ptr b3 0, fun us v => v = av, fun us v => v = x1, fun us v => v = (.int .i64 ((q : Int)) : Value), fun us v => v = (.pointer (some (elemA x1 (q * 3))) : Value), fun us v => v = (.pointer (some (elemA x1 (q * 3 + 2))) : Value), fun us v => v = a2]) (ownL [fun us v => [], fun us v => [], fun us v => [], fun us v => [], fun us v => [], fun us v => [], fun us v => []]) mixed rfl rfl (by kernel_rfl) ?_ ?_
   ·refine pC (fun vals R hpZ => ?_) ?_
    ·refine XG.op (XOp.fieldP (b := b3) (0) runUnderlying169 rfl sizeOf58 (by decide) rfl rfl ?_)
     exact ⟨rfl, rfl, rfl⟩
    refine pC (fun vals R hpZ => ?_) ?_
    ·rw [eS (l := [(0, ptr b3 0)]) ⟨hpZ 0 (by decide), trivial⟩]
     refine XG.op (XOp.load1 (v := av) isAgg58 rfl (Rd.own [_, _, _, _] rfl rfl) ?_)
     exact ⟨rfl, rfl, rfl⟩
    refine pC (fun vals R hpZ => ?_) ?_
    ·refine XG.op (XOp.move (x1) rfl ?_)
     exact ⟨rfl, rfl, rfl⟩
    refine pC (fun vals R hpZ => ?_) ?_
    ·refine XG.op (XOp.move (.int .i64 ((q : Int))) rfl ?_)
     exact ⟨rfl, rfl, rfl⟩
    refine pC (fun vals R hpZ => ?_) ?_
    ·rw [eS (l := [(2, x1), (3, (.int .i64 ((q : Int)) : Value))]) ⟨hpZ 2 (by decide), hpZ 3 (by decide), trivial⟩]
     refine XG.op (XOp.indexS (v := x1) (i := (q : Int)) (n := (nx).length) q runUnderlying55 sizeOf116 rfl rfl rfl hr1.slv (by omega) rfl ?_)
     exact ⟨rfl, rfl, rfl⟩
    refine pC (fun vals R hpZ => ?_) ?_
    ·rw [eS (l := [(4, (.pointer (some (elemA x1 (q * 3))) : Value))]) ⟨hpZ 4 (by decide), trivial⟩]
     refine XG.op (XOp.fieldE (v := x1) (q * 3 + 2) runUnderlying116 rfl sizeOf22 (by decide) rfl rfl ?_)
     exact ⟨rfl, rfl, rfl⟩
    refine pC (fun vals R hpZ => ?_) ?_
    ·rw [eS (l := [(5, (.pointer (some (elemA x1 (q * 3 + 2))) : Value))]) ⟨hpZ 5 (by decide), trivial⟩]
     refine XG.op (XOp.load1 (v := a2) isAgg22 rfl (hr4 _) ?_)
     exact ⟨rfl, rfl, rfl⟩
    exact stepsP.nil
   intro vals hphi
   rw [eS (l := [(1, av), (6, a2)]) ⟨(hphi 1 (by decide)), (hphi 6 (by decide)), trivial⟩]
   show XL _ _ _ _ _ _ _ (slH 22 1 av an acs :: intsH 2 bv fs :: slH 116 3 cv cn ccs :: intsH 2 dv ds :: cellsH b3 [av, bv, cv, dv, .bool (true)] 169 :: cellsH b2 [(.slice none 0 0), (.slice none 0 0), (.slice none 0 0), (.slice none 0 0), .bool (false)] 169 :: cellsH b1 [arv, rsv] 37 :: L)
   refine cX (XOp.lend [] _ _ rfl (fun F3 le3 hz2 => ?_))
   have hf2 : RowsF _ av ts := (CO.fz (RowsC.mono hAi (FLe.trans le3 rF)) (by first | rfl | assumption | omega | (rw [List.length_append]; simp only [List.length_singleton]; omega)) hz2 : RowsF _ av ts)
   refine id (XOp.call (args := [av, a2]) call147 rfl (l1TermPlace_spec hf2 ((ha2.mono le3)) (hlt := (by omega)) (htb := (fun i hi => by rw [htsi, terms_get]; have := termOk_len (hoki i (by omega)); omega)) (hlx := (by have := hsok (by omega); omega))) ?_)
   rintro _ _ _ _ ⟨rfl, rfl, rfl⟩
   show XL _ _ _ _ _ _ _ (slH 22 1 av an acs :: intsH 2 bv fs :: slH 116 3 cv cn ccs :: intsH 2 dv ds :: cellsH b3 [av, bv, cv, dv, .bool (true)] 169 :: cellsH b2 [(.slice none 0 0), (.slice none 0 0), (.slice none 0 0), (.slice none 0 0), .bool (false)] 169 :: cellsH b1 [arv, rsv] 37 :: L)
   refine cX (XOp.geq (a := badG (fun y => !decide (y = ((nx.getD q (0, 0, [])).2.2))) ts) (b := 0) rfl rfl ?_)
   refine XL.nil ?_
   refine X.condD (p := (badG (fun y => !decide (y = ((nx.getD q (0, 0, [])).2.2))) ts : Int) ≥ 0) rfl (fun h4 => ?_) (fun h4 => ?_)
   ·have hbg : badG (fun y => !decide (y = (nx.getD q (0, 0, [])).2.2)) ts = foundI os (nx.getD q (0, 0, [])).2.2 := by rw [htsi]; exact foundI_terms
    have hin : isIn os (nx.getD q (0, 0, [])).2.2 = true := foundI_iff.1 (by rw [← hbg]; exact h4)
    refine X.exit (thenQ_exit (blockQ_exit ?_))
    refine X.region ?_
    refine XL.mv (.int .i64 ((q : Int))) rfl ?_
    refine cX (XOp.addR (a := (q : Int)) (b := 1) (((q + 1 : Nat) : Int)) rfl rfl (by omega) (by omega) ?_)
    refine XL.as (.int .i64 (((q + 1 : Nat) : Int))) rfl ?_
    refine XL.nil ?_
    exact ⟨(q + 1, os, av, ts, acs, an, bv, fs, cv, bs, ccs, cn, dv, ds, G2), _, leG2, rF, ⟨rfl, rfl, rfl, rfl, rfl, rfl, rfl, trivial⟩, (sC (sC (sC (sC (sC (sC (sC sR))))))), ⟨rfl, leG2, (havi), (hbvi), (hcvi), (hdvi), (hAi), (hBi), (hani), (hcni), (htsi), (hfsi), (hbsi), (hdsi), (hli), (hoki), (hdoi), (by (try dsimp only) <;> omega), (hkp), (hel), (by (try dsimp only); exact hgoi.trans (add_in (by omega) hin))⟩, (by omega)⟩
   have hbg : badG (fun y => !decide (y = (nx.getD q (0, 0, [])).2.2)) ts = foundI os (nx.getD q (0, 0, [])).2.2 := by rw [htsi]; exact foundI_terms
   have hnin : isIn os (nx.getD q (0, 0, [])).2.2 = false := by rw [Bool.eq_false_iff]; intro h9; exact absurd (foundI_iff.2 h9) (by rw [← hbg]; exact h4)
   refine X.skip (X.seq (X.seq (X.region ?_)))
   refine cX (XOp.fieldP (b := b3) (0) runUnderlying169 rfl sizeOf58 (by decide) rfl rfl ?_)
   refine cX (XOp.load1 (v := av) isAgg58 rfl (Rd.own [_, _, _, _] rfl rfl) ?_)
   refine cX (XOp.lenS (v := av) (n := an) runUnderlying58 rfl (SlV.own [] rfl) ?_)
   refine cX (XOp.eql (a := ((an : Nat) : Int)) (b := 60) rfl rfl ?_)
   refine XL.nil ?_
   refine X.condD (p := (((an : Nat) : Int) : Int) = 60) rfl (fun h5 => ?_) (fun h5 => ?_)
   ·refine X.seq (X.region ?_)
    refine cX (XOp.fieldP (b := b3) (4) runUnderlying169 rfl sizeOf4 (by decide) rfl rfl ?_)
    refine cX (XOp.store1 (v := .bool (false)) [_, _, _, _] _ [av, bv, cv, dv, .bool (false)] sizeOf4 rfl rfl rfl rfl rfl rfl ?_)
    refine XL.nil (X.seq (X.region ?_))
    refine cX (XOp.loadN [av, bv, cv, dv, .bool (false)] isAgg169 sizeOf169 rfl rfl (Rd.ownN [_, _, _, _] rfl rfl) ?_)
    refine cX (XOp.storeN (vs := [av, bv, cv, dv, .bool (false)]) [_, _, _, _, _] _ [av, bv, cv, dv, .bool (false)] sizeOf169 rfl rfl rfl (ones_cons (one_sl havi) (ones_cons (one_sl hbvi) (ones_cons (one_sl hcvi) (ones_cons (one_sl hdvi) (ones_cons rfl ones_nil))))) rfl rfl rfl ?_)
    refine XL.nil ?_
    refine X.freezeF [] _ _ rfl (fun F4 le4 hz3 => ?_)
    replace hA := hA.mono le4
    replace hB := hB.mono le4
    replace hr1 := hr1.mono le4
    replace hAi := hAi.mono le4
    replace hBi := hBi.mono le4
    replace ha2 := ha2.mono le4
    replace hr2 := Rd.monoA hr2 le4
    replace hr3 := Rd.monoA hr3 le4
    replace hr4 := Rd.monoA hr4 le4
    have hf3 : RowsF F4 av ts := CO.fz hAi (by first | rfl | simp | omega) hz3.fz
    refine X.freezeF [] _ _ rfl (fun F5 le5 hz4 => ?_)
    replace hA := hA.mono le5
    replace hB := hB.mono le5
    replace hr1 := hr1.mono le5
    replace hAi := hAi.mono le5
    replace hBi := hBi.mono le5
    replace ha2 := ha2.mono le5
    replace hf3 := hf3.mono le5
    replace hr2 := Rd.monoA hr2 le5
    replace hr3 := Rd.monoA hr3 le5
    replace hr4 := Rd.monoA hr4 le5
    have hf4 : IntsF F5 bv fs := intsH.fz (xs := fs) hz4.fz
    refine X.freezeF [] _ _ rfl (fun F6 le6 hz5 => ?_)
    replace hA := hA.mono le6
    replace hB := hB.mono le6
    replace hr1 := hr1.mono le6
    replace hAi := hAi.mono le6
    replace hBi := hBi.mono le6
    replace ha2 := ha2.mono le6
    replace hf3 := hf3.mono le6
    replace hf4 := hf4.mono le6
    replace hr2 := Rd.monoA hr2 le6
    replace hr3 := Rd.monoA hr3 le6
    replace hr4 := Rd.monoA hr4 le6
    have hf5 : StepsF F6 cv bs := CO.fz hBi (by first | rfl | simp | omega) hz5.fz
    refine X.freezeF [] _ _ rfl (fun F7 le7 hz6 => ?_)
    replace hA := hA.mono le7
    replace hB := hB.mono le7
    replace hr1 := hr1.mono le7
    replace hAi := hAi.mono le7
    replace hBi := hBi.mono le7
    replace ha2 := ha2.mono le7
    replace hf3 := hf3.mono le7
    replace hf4 := hf4.mono le7
    replace hf5 := hf5.mono le7
    replace hr2 := Rd.monoA hr2 le7
    replace hr3 := Rd.monoA hr3 le7
    replace hr4 := Rd.monoA hr4 le7
    have hf6 : IntsF F7 dv ds := intsH.fz (xs := ds) hz6.fz
    refine X.ret (thenQ_ret (blockQ_ret (thenQ_ret (thenQ_ret (blockQ_ret (blockQ_ret (thenQ_ret (thenQ_ret (blockQ_ret (thenQ_ret (retEnd (L' := L) [.agg #[av, bv, cv, dv, .bool (false)]] (.agg #[av, bv, cv, dv, .bool (false)]) (.cell rfl (loadNV [av, bv, cv, dv, .bool (false)] isAgg169 sizeOf169 rfl (Rd.ownN [_] rfl rfl)) .nil) rfl (FLe.trans (FLe.trans (FLe.trans (FLe.trans (FLe.trans (FLe.trans (FLe.trans le1 leG1) le2) leG2) le4) le5) le6) le7) rF (sD (sD (sD sR))) ?_)))))))))))
    have h9 := hgoi.trans (add_full (by omega) hnin (by omega))
    have h8 := reach_stop (ar := ar) (rs := rs) (n := n) (f := 60 - k - 1) hk70 (by omega) hdeep0 (by rw [hnx0, h9])
    rw [hnx0, h9] at h8
    have e9 : reachL ar rs t n = (os, false) := hgo0.trans h8
    rw [e9]
    exact ⟨_, _, _, _, rfl, by rw [← htsi]; exact hf3, by rw [← hfsi]; exact hf4, by rw [← hbsi]; exact hf5, by rw [← hdsi]; exact hf6, rfl⟩
   refine X.skip (X.seq ?_)
   refine X.draw [slH 22 1 av an acs, intsH 2 bv fs, slH 116 3 cv cn ccs, intsH 2 dv ds, cellsH b3 [av, bv, cv, dv, .bool (true)] 169, cellsH b2 [(.slice none 0 0), (.slice none 0 0), (.slice none 0 0), (.slice none 0 0), .bool (false)] 169, cellsH b1 [arv, rsv] 37] L 8 [[], [], [], [], [], [], [], []] [[], [0], [], [], [2, 3], [4], [5], [6]] (phiL [fun us v => v = ptr b3 0, fun us v => v = av, fun us v => v = x1, fun us v => v = (.int .i64 ((q : Int)) : Value), fun us v => v = (.pointer (some (elemA x1 (q * 3))) : Value), fun us v => v = (.pointer (some (elemA x1 (q * 3 + 2))) : Value), fun us v => v = a2, fun us v => ∃ b, v = .slice (some ⟨b, 0, none⟩) 1 1]) (ownL [fun us v => [], fun us v => [], fun us v => [], fun us v => [], fun us v => [], fun us v => [], fun us v => [], fun us v => [slH 22 1 v 1 [a2]]]) mixed rfl rfl (by kernel_rfl) ?_ ?_
   ·refine pC (fun vals R hpZ => ?_) ?_
    ·refine XG.op (XOp.fieldP (b := b3) (0) runUnderlying169 rfl sizeOf58 (by decide) rfl rfl ?_)
     exact ⟨rfl, rfl, rfl⟩
    refine pC (fun vals R hpZ => ?_) ?_
    ·rw [eS (l := [(0, ptr b3 0)]) ⟨hpZ 0 (by decide), trivial⟩]
     refine XG.op (XOp.load1 (v := av) isAgg58 rfl (Rd.own [_, _, _, _] rfl rfl) ?_)
     exact ⟨rfl, rfl, rfl⟩
    refine pC (fun vals R hpZ => ?_) ?_
    ·refine XG.op (XOp.move (x1) rfl ?_)
     exact ⟨rfl, rfl, rfl⟩
    refine pC (fun vals R hpZ => ?_) ?_
    ·refine XG.op (XOp.move (.int .i64 ((q : Int))) rfl ?_)
     exact ⟨rfl, rfl, rfl⟩
    refine pC (fun vals R hpZ => ?_) ?_
    ·rw [eS (l := [(2, x1), (3, (.int .i64 ((q : Int)) : Value))]) ⟨hpZ 2 (by decide), hpZ 3 (by decide), trivial⟩]
     refine XG.op (XOp.indexS (v := x1) (i := (q : Int)) (n := (nx).length) q runUnderlying55 sizeOf116 rfl rfl rfl hr1.slv (by omega) rfl ?_)
     exact ⟨rfl, rfl, rfl⟩
    refine pC (fun vals R hpZ => ?_) ?_
    ·rw [eS (l := [(4, (.pointer (some (elemA x1 (q * 3))) : Value))]) ⟨hpZ 4 (by decide), trivial⟩]
     refine XG.op (XOp.fieldE (v := x1) (q * 3 + 2) runUnderlying116 rfl sizeOf22 (by decide) rfl rfl ?_)
     exact ⟨rfl, rfl, rfl⟩
    refine pC (fun vals R hpZ => ?_) ?_
    ·rw [eS (l := [(5, (.pointer (some (elemA x1 (q * 3 + 2))) : Value))]) ⟨hpZ 5 (by decide), trivial⟩]
     refine XG.op (XOp.load1 (v := a2) isAgg22 rfl (hr4 _) ?_)
     exact ⟨rfl, rfl, rfl⟩
    refine pC (fun vals R hpZ => ?_) ?_
    ·rw [eS (l := [(6, a2)]) ⟨hpZ 6 (by decide), trivial⟩]
     refine XG.op (XOp.buildSlice (s := 1) [a2] [(.slice none 0 0)] [(0, [a2])] runUnderlying58 sizeOf22 zeroValue22 rfl (by decide) rfl (.cons (cells_one (IntsF.isSl ha2)) CellsAre.nil) rfl ?_)
     intro v7 hv6
     exact ⟨rfl, hv6, rfl⟩
    exact stepsP.nil
   intro vals hphi
   have f7 : ∃ b, (vals 7) = .slice (some ⟨b, 0, none⟩) 1 1 := hphi 7 (by decide)
   generalize hu7 : vals 7 = u1 at f7
   rw [eS (l := [(1, av), (7, u1)]) ⟨(hphi 1 (by decide)), hu7, trivial⟩]
   show XL _ _ _ _ _ _ _ (slH 22 1 u1 1 [a2] :: slH 22 1 av an acs :: intsH 2 bv fs :: slH 116 3 cv cn ccs :: intsH 2 dv ds :: cellsH b3 [av, bv, cv, dv, .bool (true)] 169 :: cellsH b2 [(.slice none 0 0), (.slice none 0 0), (.slice none 0 0), (.slice none 0 0), .bool (false)] 169 :: cellsH b1 [arv, rsv] 37 :: L)
   refine cX (XOp.append (m := 1) (bytes := 24) (cs := acs) [_] _ [a2] runUnderlying58 typeInfo22 rfl rfl rfl rfl rfl rfl rfl (SlV.own [] rfl) rfl (Rd.lit [] rfl) (ones_cons (one_sl (IntsF.isSl ha2)) ones_nil) (by (try simp only [List.length_append, List.length_nil, List.length_cons, List.length_singleton]); omega) (by (try simp only [List.length_append, List.length_nil, List.length_cons, List.length_singleton]); omega) ?_)
   intro v8 hs2 hn1 hm1
   have hc3 := RowsC.snoc hAi ha2
   refine cX (XOp.fieldP (b := b3) (0) runUnderlying169 rfl sizeOf58 (by decide) rfl rfl ?_)
   refine cX (XOp.store1 (v := v8) [_, _, _, _, _] _ [v8, bv, cv, dv, .bool (true)] sizeOf58 rfl rfl (one_sl hs2) rfl rfl rfl ?_)
   refine XL.nil (X.seq (X.region ?_))
   refine cX (XOp.fieldP (b := b3) (1) runUnderlying169 rfl sizeOf22 (by decide) rfl rfl ?_)
   refine cX (XOp.load1 (v := bv) isAgg22 rfl (Rd.own [_, _, _, _, _] rfl rfl) ?_)
   refine XL.mv (.int .i64 ((k : Int))) rfl ?_
   refine cX (XOp.buildSlice (s := 1) [.int .i64 ((k : Int))] [.int .i64 (0)] [(0, [.int .i64 ((k : Int))])] runUnderlying22 sizeOf2 zeroValue2 rfl (by decide) rfl (.cons rfl CellsAre.nil) rfl ?_)
   intro v9 hv7
   refine cX (XOp.append1 (u := (k : Int)) [_, _, _] _ runUnderlying22 typeInfo2 rfl rfl rfl rfl rfl rfl (SlV.own [] rfl) (Rd.sl [] rfl rfl) (by (try simp only [List.length_append, List.length_nil, List.length_cons, List.length_singleton, List.length_take, List.length_drop]); omega) ?_)
   intro v10 hs3 hn2
   refine cX (XOp.fieldP (b := b3) (1) runUnderlying169 rfl sizeOf22 (by decide) rfl rfl ?_)
   refine cX (XOp.store1 (v := v10) [_, _, _, _, _, _] _ [v8, v10, cv, dv, .bool (true)] sizeOf22 rfl rfl (one_sl hs3) rfl rfl rfl ?_)
   refine XL.nil (X.seq ?_)
   refine X.draw [slH 2 1 v9 1 [.int .i64 ((k : Int))], slH 22 1 u1 1 [a2], slH 22 1 v8 ((an) + 1) (acs ++ [a2]), intsH 2 v10 (fs ++ [(k : Int)]), slH 116 3 cv cn ccs, intsH 2 dv ds, cellsH b3 [v8, v10, cv, dv, .bool (true)] 169, cellsH b2 [(.slice none 0 0), (.slice none 0 0), (.slice none 0 0), (.slice none 0 0), .bool (false)] 169, cellsH b1 [arv, rsv] 37] L 7 [[], [], [], [], [], [], []] [[], [0], [], [], [2, 3], [4], [5]] (phiL [fun us v => v = ptr b3 2, fun us v => v = cv, fun us v => v = x1, fun us v => v = (.int .i64 ((q : Int)) : Value), fun us v => v = (.pointer (some (elemA x1 (q * 3))) : Value), fun us v => v = (.agg #[.int .i64 ((nx.getD q (0, 0, [])).1), .int .i64 ((nx.getD q (0, 0, [])).2.1), a2] : Value), fun us v => ∃ b, v = .slice (some ⟨b, 0, none⟩) 1 1]) (ownL [fun us v => [], fun us v => [], fun us v => [], fun us v => [], fun us v => [], fun us v => [], fun us v => [slH 116 3 v 1 [.int .i64 ((nx.getD q (0, 0, [])).1), .int .i64 ((nx.getD q (0, 0, [])).2.1), a2]]]) mixed rfl rfl (by kernel_rfl) ?_ ?_
   ·refine pC (fun vals R hpZ => ?_) ?_
    ·refine XG.op (XOp.fieldP (b := b3) (2) runUnderlying169 rfl sizeOf55 (by decide) rfl rfl ?_)
     exact ⟨rfl, rfl, rfl⟩
    refine pC (fun vals R hpZ => ?_) ?_
    ·rw [eS (l := [(0, ptr b3 2)]) ⟨hpZ 0 (by decide), trivial⟩]
     refine XG.op (XOp.load1 (v := cv) isAgg55 rfl (Rd.own [_, _, _, _, _, _] rfl rfl) ?_)
     exact ⟨rfl, rfl, rfl⟩
    refine pC (fun vals R hpZ => ?_) ?_
    ·refine XG.op (XOp.move (x1) rfl ?_)
     exact ⟨rfl, rfl, rfl⟩
    refine pC (fun vals R hpZ => ?_) ?_
    ·refine XG.op (XOp.move (.int .i64 ((q : Int))) rfl ?_)
     exact ⟨rfl, rfl, rfl⟩
    refine pC (fun vals R hpZ => ?_) ?_
    ·rw [eS (l := [(2, x1), (3, (.int .i64 ((q : Int)) : Value))]) ⟨hpZ 2 (by decide), hpZ 3 (by decide), trivial⟩]
     refine XG.op (XOp.indexS (v := x1) (i := (q : Int)) (n := (nx).length) q runUnderlying55 sizeOf116 rfl rfl rfl hr1.slv (by omega) rfl ?_)
     exact ⟨rfl, rfl, rfl⟩
    refine pC (fun vals R hpZ => ?_) ?_
    ·rw [eS (l := [(4, (.pointer (some (elemA x1 (q * 3))) : Value))]) ⟨hpZ 4 (by decide), trivial⟩]
     refine XG.op (XOp.loadN [.int .i64 ((nx.getD q (0, 0, [])).1), .int .i64 ((nx.getD q (0, 0, [])).2.1), a2] isAgg116 sizeOf116 rfl rfl (Rd.three (hr2 _) (hr3 _) (hr4 _)) ?_)
     exact ⟨rfl, rfl, rfl⟩
    refine pC (fun vals R hpZ => ?_) ?_
    ·rw [eS (l := [(5, (.agg #[.int .i64 ((nx.getD q (0, 0, [])).1), .int .i64 ((nx.getD q (0, 0, [])).2.1), a2] : Value))]) ⟨hpZ 5 (by decide), trivial⟩]
     refine XG.op (XOp.buildSlice (s := 3) [.int .i64 ((nx.getD q (0, 0, [])).1), .int .i64 ((nx.getD q (0, 0, [])).2.1), a2] [.int .i64 (0), .int .i64 (0), (.slice none 0 0)] [(0, [.int .i64 ((nx.getD q (0, 0, [])).1), .int .i64 ((nx.getD q (0, 0, [])).2.1), a2])] runUnderlying55 sizeOf116 zeroValue116 rfl (by decide) rfl (.cons rfl CellsAre.nil) rfl ?_)
     intro v12 hv9
     exact ⟨rfl, hv9, rfl⟩
    exact stepsP.nil
   intro vals hphi
   have f6 : ∃ b, (vals 6) = .slice (some ⟨b, 0, none⟩) 1 1 := hphi 6 (by decide)
   generalize hu6 : vals 6 = u2 at f6
   rw [eS (l := [(1, cv), (6, u2)]) ⟨(hphi 1 (by decide)), hu6, trivial⟩]
   show XL _ _ _ _ _ _ _ (slH 116 3 u2 1 [.int .i64 ((nx.getD q (0, 0, [])).1), .int .i64 ((nx.getD q (0, 0, [])).2.1), a2] :: slH 2 1 v9 1 [.int .i64 ((k : Int))] :: slH 22 1 u1 1 [a2] :: slH 22 1 v8 ((an) + 1) (acs ++ [a2]) :: intsH 2 v10 (fs ++ [(k : Int)]) :: slH 116 3 cv cn ccs :: intsH 2 dv ds :: cellsH b3 [v8, v10, cv, dv, .bool (true)] 169 :: cellsH b2 [(.slice none 0 0), (.slice none 0 0), (.slice none 0 0), (.slice none 0 0), .bool (false)] 169 :: cellsH b1 [arv, rsv] 37 :: L)
   refine cX (XOp.append (m := 1) (bytes := 40) (cs := ccs) [_, _, _, _, _] _ [.int .i64 ((nx.getD q (0, 0, [])).1), .int .i64 ((nx.getD q (0, 0, [])).2.1), a2] runUnderlying55 typeInfo116 rfl rfl rfl rfl rfl rfl rfl (SlV.own [] rfl) rfl (Rd.lit [] rfl) (ones_cons rfl (ones_cons rfl (ones_cons (one_sl (IntsF.isSl ha2)) ones_nil))) (by (try simp only [List.length_append, List.length_nil, List.length_cons, List.length_singleton]); omega) (by (try simp only [List.length_append, List.length_nil, List.length_cons, List.length_singleton]); omega) ?_)
   intro v13 hs4 hn3 hm2
   have hc4 := StepsC.snoc hBi (i := (nx.getD q (0, 0, [])).1) (j := (nx.getD q (0, 0, [])).2.1) ha2
   refine cX (XOp.fieldP (b := b3) (2) runUnderlying169 rfl sizeOf55 (by decide) rfl rfl ?_)
   refine cX (XOp.store1 (v := v13) [_, _, _, _, _, _, _] _ [v8, v10, v13, dv, .bool (true)] sizeOf55 rfl rfl (one_sl hs4) rfl rfl rfl ?_)
   refine XL.nil ?_
   refine X.draw [slH 116 3 u2 1 [.int .i64 ((nx.getD q (0, 0, [])).1), .int .i64 ((nx.getD q (0, 0, [])).2.1), a2], slH 2 1 v9 1 [.int .i64 ((k : Int))], slH 22 1 u1 1 [a2], slH 22 1 v8 ((an) + 1) (acs ++ [a2]), intsH 2 v10 (fs ++ [(k : Int)]), slH 116 3 v13 ((cn) + 1) (ccs ++ [.int .i64 ((nx.getD q (0, 0, [])).1), .int .i64 ((nx.getD q (0, 0, [])).2.1), a2]), intsH 2 dv ds, cellsH b3 [v8, v10, v13, dv, .bool (true)] 169, cellsH b2 [(.slice none 0 0), (.slice none 0 0), (.slice none 0 0), (.slice none 0 0), .bool (false)] 169, cellsH b1 [arv, rsv] 37] L 9 [[], [], [], [], [], [], [], [], []] [[], [0], [], [2], [], [3, 4], [5], [6], [7]] (phiL [fun us v => v = ptr b3 3, fun us v => v = dv, fun us v => v = ptr b3 3, fun us v => v = dv, fun us v => v = (.int .i64 ((k : Int)) : Value), fun us v => v = (.pointer (some (elemA dv (k))) : Value), fun us v => v = (.int .i64 (ds.getD k 0) : Value), fun us v => v = (.int .i64 ((ds.getD k 0) + 1) : Value), fun us v => ∃ b, v = .slice (some ⟨b, 0, none⟩) 1 1]) (ownL [fun us v => [], fun us v => [], fun us v => [], fun us v => [], fun us v => [], fun us v => [], fun us v => [], fun us v => [], fun us v => [slH 2 1 v 1 [.int .i64 ((ds.getD k 0) + 1)]]]) mixed rfl rfl (by kernel_rfl) ?_ ?_
   ·refine pC (fun vals R hpZ => ?_) ?_
    ·refine XG.op (XOp.fieldP (b := b3) (3) runUnderlying169 rfl sizeOf22 (by decide) rfl rfl ?_)
     exact ⟨rfl, rfl, rfl⟩
    refine pC (fun vals R hpZ => ?_) ?_
    ·rw [eS (l := [(0, ptr b3 3)]) ⟨hpZ 0 (by decide), trivial⟩]
     refine XG.op (XOp.load1 (v := dv) isAgg22 rfl (Rd.own [_, _, _, _, _, _, _] rfl rfl) ?_)
     exact ⟨rfl, rfl, rfl⟩
    refine pC (fun vals R hpZ => ?_) ?_
    ·refine XG.op (XOp.fieldP (b := b3) (3) runUnderlying169 rfl sizeOf22 (by decide) rfl rfl ?_)
     exact ⟨rfl, rfl, rfl⟩
    refine pC (fun vals R hpZ => ?_) ?_
    ·rw [eS (l := [(2, ptr b3 3)]) ⟨hpZ 2 (by decide), trivial⟩]
     refine XG.op (XOp.load1 (v := dv) isAgg22 rfl (Rd.own [_, _, _, _, _, _, _] rfl rfl) ?_)
     exact ⟨rfl, rfl, rfl⟩
    refine pC (fun vals R hpZ => ?_) ?_
    ·refine XG.op (XOp.move (.int .i64 ((k : Int))) rfl ?_)
     exact ⟨rfl, rfl, rfl⟩
    refine pC (fun vals R hpZ => ?_) ?_
    ·rw [eS (l := [(3, dv), (4, (.int .i64 ((k : Int)) : Value))]) ⟨hpZ 3 (by decide), hpZ 4 (by decide), trivial⟩]
     refine XG.op (XOp.indexS (v := dv) (i := (k : Int)) (n := (ds).length) k runUnderlying22 sizeOf2 rfl rfl rfl (intsH.slv [_, _, _, _, _, _] rfl) (by omega) (Nat.mul_one _) ?_)
     exact ⟨rfl, rfl, rfl⟩
    refine pC (fun vals R hpZ => ?_) ?_
    ·rw [eS (l := [(5, (.pointer (some (elemA dv (k))) : Value))]) ⟨hpZ 5 (by decide), trivial⟩]
     refine XG.op (XOp.load1 (v := .int .i64 (ds.getD k 0)) isAgg2 rfl (intsH.rd [_, _, _, _, _, _] rfl (by omega)) ?_)
     exact ⟨rfl, rfl, rfl⟩
    refine pC (fun vals R hpZ => ?_) ?_
    ·rw [eS (l := [(6, (.int .i64 (ds.getD k 0) : Value))]) ⟨hpZ 6 (by decide), trivial⟩]
     refine XG.op (XOp.addR (a := ds.getD k 0) (b := 1) ((ds.getD k 0) + 1) rfl rfl (by omega) (by omega) ?_)
     exact ⟨rfl, rfl, rfl⟩
    refine pC (fun vals R hpZ => ?_) ?_
    ·rw [eS (l := [(7, (.int .i64 ((ds.getD k 0) + 1) : Value))]) ⟨hpZ 7 (by decide), trivial⟩]
     refine XG.op (XOp.buildSlice (s := 1) [.int .i64 ((ds.getD k 0) + 1)] [.int .i64 (0)] [(0, [.int .i64 ((ds.getD k 0) + 1)])] runUnderlying22 sizeOf2 zeroValue2 rfl (by decide) rfl (.cons rfl CellsAre.nil) rfl ?_)
     intro v15 hv11
     exact ⟨rfl, hv11, rfl⟩
    exact stepsP.nil
   intro vals hphi
   have f8 : ∃ b, (vals 8) = .slice (some ⟨b, 0, none⟩) 1 1 := hphi 8 (by decide)
   generalize hu8 : vals 8 = u3 at f8
   rw [eS (l := [(1, dv), (8, u3)]) ⟨(hphi 1 (by decide)), hu8, trivial⟩]
   show XL _ _ _ _ _ _ _ (slH 2 1 u3 1 [.int .i64 ((ds.getD k 0) + 1)] :: slH 116 3 u2 1 [.int .i64 ((nx.getD q (0, 0, [])).1), .int .i64 ((nx.getD q (0, 0, [])).2.1), a2] :: slH 2 1 v9 1 [.int .i64 ((k : Int))] :: slH 22 1 u1 1 [a2] :: slH 22 1 v8 ((an) + 1) (acs ++ [a2]) :: intsH 2 v10 (fs ++ [(k : Int)]) :: slH 116 3 v13 ((cn) + 1) (ccs ++ [.int .i64 ((nx.getD q (0, 0, [])).1), .int .i64 ((nx.getD q (0, 0, [])).2.1), a2]) :: intsH 2 dv ds :: cellsH b3 [v8, v10, v13, dv, .bool (true)] 169 :: cellsH b2 [(.slice none 0 0), (.slice none 0 0), (.slice none 0 0), (.slice none 0 0), .bool (false)] 169 :: cellsH b1 [arv, rsv] 37 :: L)
   refine cX (XOp.append1 (u := (ds.getD k 0) + 1) [_, _, _, _, _, _, _] _ runUnderlying22 typeInfo2 rfl rfl rfl rfl rfl rfl (SlV.own [] rfl) (Rd.sl [] rfl rfl) (by (try simp only [List.length_append, List.length_nil, List.length_cons, List.length_singleton, List.length_take, List.length_drop]); omega) ?_)
   intro v16 hs5 hn4
   refine cX (XOp.fieldP (b := b3) (3) runUnderlying169 rfl sizeOf22 (by decide) rfl rfl ?_)
   refine cX (XOp.store1 (v := v16) [_, _, _, _, _, _, _, _] _ [v8, v10, v13, v16, .bool (true)] sizeOf22 rfl rfl (one_sl hs5) rfl rfl rfl ?_)
   refine XL.nil (X.region ?_)
   refine XL.mv (.int .i64 ((q : Int))) rfl ?_
   refine cX (XOp.addR (a := (q : Int)) (b := 1) (((q + 1 : Nat) : Int)) rfl rfl (by omega) (by omega) ?_)
   refine XL.as (.int .i64 (((q + 1 : Nat) : Int))) rfl ?_
   refine XL.nil ?_
   exact ⟨(q + 1, os ++ [((nx.getD q (0, 0, [])).2.2, (k : Int), nx.getD q (0, 0, []), (EL os0 k).2.2.2 + 1)], v8, ts ++ [(nx.getD q (0, 0, [])).2.2], acs ++ [a2], (an) + 1, v10, fs ++ [(k : Int)], v13, bs ++ [((nx.getD q (0, 0, [])).1, (nx.getD q (0, 0, [])).2.1, (nx.getD q (0, 0, [])).2.2)], ccs ++ [.int .i64 ((nx.getD q (0, 0, [])).1), .int .i64 ((nx.getD q (0, 0, [])).2.1), a2], (cn) + 1, v16, ds ++ [(ds.getD k 0) + 1], G2), _, leG2, rF, ⟨rfl, rfl, rfl, rfl, rfl, rfl, rfl, trivial⟩, (sD (sD (sD (sD (sC (sC (sC (sC (sC (sC (sC sR))))))))))), ⟨rfl, leG2, (hs2), (hs3), (hs4), (hs5), (hc3), (hc4), (by (try dsimp only); rw [List.length_append, List.length_singleton]; omega), (by (try dsimp only); rw [List.length_append, List.length_singleton]; omega), (by (try dsimp only); rw [terms_snoc, htsi]), (by (try dsimp only); rw [froms_snoc, hfsi]), (by (try dsimp only); rw [bys_snoc, hbsi]), (by (try dsimp only); rw [deeps_snoc, ← hdsi, hdk9]), (by (try dsimp only); rw [List.length_append, List.length_singleton]; omega), (hoki.snoc (hnxo q (by omega))), (hdoi.snoc (by dsimp only; omega)), (by (try dsimp only) <;> omega), (by (try dsimp only); rw [List.length_append, List.length_singleton]; omega), (by (try dsimp only); rw [EL_snoc hkp]; exact hel), (by (try dsimp only); exact hgoi.trans (add_new (by omega) hnin (by omega)))⟩, (by omega)⟩
  refine X.exit (thenQ_exit (thenQ_exit (blockQ_exit ?_)))
  refine X.region ?_
  refine XL.mv (.int .i64 ((k : Int))) rfl ?_
  refine cX (XOp.addR (a := (k : Int)) (b := 1) (((k + 1 : Nat) : Int)) rfl rfl (by omega) (by omega) ?_)
  refine XL.as (.int .i64 (((k + 1 : Nat) : Int))) rfl ?_
  refine XL.nil ?_
  exact ⟨(k + 1, os, av, ts, acs, an, bv, fs, cv, bs, ccs, cn, dv, ds, G2), _, (FLe.trans (FLe.trans leG1 le2) leG2), rF, ⟨rfl, rfl, rfl, rfl, rfl, trivial⟩, (sC (sC (sC (sC (sC (sC (sC sR))))))), ⟨rfl, (FLe.trans (FLe.trans leG1 le2) leG2), (havi), (hbvi), (hcvi), (hdvi), (hAi), (hBi), (hani), (hcni), (htsi), (hfsi), (hbsi), (hdsi), (hli), (hoki), (hdoi), (by (try dsimp only); omega), (by (try dsimp only); have h9 := hgoi.trans (add_end (by omega)); have h8 := reach_more (ar := ar) (rs := rs) (n := n) (f := 60 - k - 1) hk70 (by omega) hdeep0 (by rw [hnx0, h9]); rw [hnx0, h9] at h8; exact hgo0.trans h8)⟩, (by (try dsimp only); omega)⟩
 refine X.exit (thenQ_exit (thenQ_exit (blockQ_exit ?_)))
 refine X.seq (X.region ?_)
 refine cX (XOp.loadN [av, bv, cv, dv, .bool (true)] isAgg169 sizeOf169 rfl rfl (Rd.ownN [_, _, _, _] rfl rfl) ?_)
 refine cX (XOp.storeN (vs := [av, bv, cv, dv, .bool (true)]) [_, _, _, _, _] _ [av, bv, cv, dv, .bool (true)] sizeOf169 rfl rfl rfl (ones_cons (one_sl hav) (ones_cons (one_sl hbv) (ones_cons (one_sl hcv) (ones_cons (one_sl hdv) (ones_cons rfl ones_nil))))) rfl rfl rfl ?_)
 refine XL.nil ?_
 refine X.freezeF [] _ _ rfl (fun F8 le8 hz7 => ?_)
 replace hA := hA.mono le8
 replace hB := hB.mono le8
 have hf7 : RowsF F8 av ts := CO.fz hA (by first | rfl | simp | omega) hz7.fz
 refine X.freezeF [] _ _ rfl (fun F9 le9 hz8 => ?_)
 replace hB := hB.mono le9
 replace hf7 := hf7.mono le9
 have hf8 : IntsF F9 bv fs := intsH.fz (xs := fs) hz8.fz
 refine X.freezeF [] _ _ rfl (fun F10 le10 hz9 => ?_)
 replace hB := hB.mono le10
 replace hf7 := hf7.mono le10
 replace hf8 := hf8.mono le10
 have hf9 : StepsF F10 cv bs := CO.fz hB (by first | rfl | simp | omega) hz9.fz
 refine X.freezeF [] _ _ rfl (fun F11 le11 hz10 => ?_)
 replace hf7 := hf7.mono le11
 replace hf8 := hf8.mono le11
 replace hf9 := hf9.mono le11
 have hf10 : IntsF F11 dv ds := intsH.fz (xs := ds) hz10.fz
 refine X.ret (retEnd (L' := L) [.agg #[av, bv, cv, dv, .bool (true)]] (.agg #[av, bv, cv, dv, .bool (true)]) (.cell rfl (loadNV [av, bv, cv, dv, .bool (true)] isAgg169 sizeOf169 rfl (Rd.ownN [_] rfl rfl)) .nil) rfl (FLe.trans (FLe.trans (FLe.trans (FLe.trans (FLe.trans le1 leG1) le8) le9) le10) le11) rF (sD (sD (sD sR))) ?_)
 have e9 : reachL ar rs t n = (os, true) := hgo.trans (reach_done (by omega) hl)
 rw [e9]
 exact ⟨_, _, _, _, rfl, by rw [← hts]; exact hf7, by rw [← hfs]; exact hf8, by rw [← hbs]; exact hf9, by rw [← hds]; exact hf10, rfl⟩
end Go.Proofs.YtiaanelimbmniaaGreat
set_option linter.unusedSimpArgs false
set_option linter.unusedVariables false
namespace Go.Proofs.YtiaanelimbmniaaGreat
open Go X M Tryz

/- impl.redexSteps -/
theorem redexSteps_spec {F : FH} {L : List HP} {arv : Value} {ar : List Int} (har : IntsF F arv ar) {rsv : Value} {rs : List (List Int × List Int)} (hrs : PairsF F rsv rs) {tv : Value} {t : List Int} (ht : IntsF F tv t) :
    Does prog 203 [.agg #[arv, rsv], tv] F (L) (fun v F' L' => ∃ (bt bs : Nat), (.func (.func 224) #[] #[ptr bt 0, ptr bs 0] : Value) = v ∧ FzC F' bt [tv] ∧ FzC F' bs [arv, rsv] ∧ L = L') := by
 refine Does.of_X func203 rfl rfl rfl ?_
 refine X.seq (X.region ?_)
 refine cX (XOp.box [arv, rsv] rfl rfl ?_)
 intro b1
 refine cX (XOp.box [tv] rfl (cells_one (IntsF.isSl ht)) ?_)
 intro b2
 refine XL.as (.nilFunc) rfl ?_
 refine XL.nil (X.seq (X.region ?_))
 refine cX (XOp.makeFuncL [] [ptr b2 0, ptr b1 0] rfl rfl ?_)
 refine XL.as (.func (.func 224) #[] #[ptr b2 0, ptr b1 0]) rfl ?_
 refine XL.nil ?_
 refine X.freeze [] _ _ rfl (fun F1 le1 hz1 => ?_)
 have hf1 : FzC F1 b2 [tv] := Fz.cells hz1
 refine X.freeze [] _ _ rfl (fun F2 le2 hz2 => ?_)
 replace hf1 := hf1.mono le2
 have hf2 : FzC F2 b1 [arv, rsv] := Fz.cells hz2
 refine X.ret (retEnd (L' := L) [.func (.func 224) #[] #[ptr b2 0, ptr b1 0]] (.func (.func 224) #[] #[ptr b2 0, ptr b1 0]) (.tmp rfl .nil) rfl (FLe.trans le1 le2) rF sR ?_)
 exact ⟨_, _, rfl, hf1, hf2, rfl⟩

/- impl.redexSteps$1 -/
theorem redexIt_spec {F : FH} {L : List HP} {l bo bl bt bs : Nat} {R : Loop} {arv : Value} {ar : List Int} (har : IntsF F arv ar) {rsv : Value} {rs : List (List Int × List Int)} (hrs : PairsF F rsv rs) {tv : Value} {t : List Int} (ht : IntsF F tv t) (hbt : FzC F bt [tv]) (hbs : FzC F bs [arv, rsv]) (hsys : sysOk ar rs = true) (ho : termOk ar t = true) (hyes : ∀ (Fy : FH) (sv : Value) (ss : List StepT) (cs : List Value) (m : Nat) (lb : Bool) (i j : Int) (tov : Value) (to : List Int), F ≤ Fy → IsSl sv → StepsC Fy cs ss → m = ss.length → ss.length ≤ 4000000 → IntsF Fy tov to → Yld prog l [.agg #[.int .i64 i, .int .i64 j, tov], .bool true] Fy (objH l (.loop R) :: cellsH bo [sv] 55 :: slH 116 3 sv m cs :: cellsH bl [.bool (lb)] 4 :: L) (fun v F' L' => .bool true = v ∧ Fy = F' ∧ ∃ sw, IsSl sw ∧ objH l (.loop R) :: cellsH bo [sw] 55 :: slH 116 3 sw (m + 1) (cs ++ [.int .i64 i, .int .i64 j, tov]) :: cellsH bl [.bool (lb)] 4 :: L = L')) (hno : ∀ (Fy : FH) (sv : Value) (cs : List Value) (m : Nat) (lb : Bool) (i j : Int) (tov : Value), F ≤ Fy → IsSl sv → IsSl tov → Yld prog l [.agg #[.int .i64 i, .int .i64 j, tov], .bool false] Fy (objH l (.loop R) :: cellsH bo [sv] 55 :: slH 116 3 sv m cs :: cellsH bl [.bool (lb)] 4 :: L) (fun v F' L' => .bool true = v ∧ Fy = F' ∧ objH l (.loop R) :: cellsH bo [sv] 55 :: slH 116 3 sv m cs :: cellsH bl [.bool (true)] 4 :: L = L')) :
    Does prog 224 [(.func (.yield l) #[] #[]), ptr bt 0, ptr bs 0] F (objH l (.loop R) :: cellsH bo [(.slice none 0 0)] 55 :: cellsH bl [.bool (false)] 4 :: L) (fun v F' L' => ∃ (sv : Value) (cs : List Value) (Ls : List HP), IsSl sv ∧ StepsC F' cs (stepsL ar rs t) ∧ DeepL 3 (StepO 2) cs (stepsL ar rs t) Ls ∧ Fresh F F' (star Ls) ∧ objH l (.loop R) :: cellsH bo [sv] 55 :: slH 116 3 sv ((stepsL ar rs t).length) cs :: cellsH bl [.bool (longL ar rs t)] 4 :: L = L') := by
 refine Does.of_X func224 rfl rfl rfl ?_
 have hnn := notNil_of_pos ht (by have := termOk_len ho; omega)
 have htl := termOk_len ho
 have hrl := (sysOk_iff.1 hsys).2.1
 have hsig := (sysOk_iff.1 hsys).1
 have hsl := sigOk_spec hsig
 refine X.seq (X.region ?_)
 refine cX (XOp.load1 (v := tv) isAgg22 rfl (FzC.rd1 hbt rfl) ?_)
 refine cX (XOp.lenS (v := tv) (n := (t).length) runUnderlying22 rfl ht.slv ?_)
 refine XL.mv (.int .i64 (0)) rfl ?_
 refine XL.nil (X.block ?_)
 refine X.loop (α := Nat × Value × List StepT × List Value × List HP × Nat × Bool × FH) (fun xQ => [(0, (.func (.yield l) #[] #[])), (1, ptr bt 0), (2, ptr bs 0), (9, tv), (10, .int .i64 ((t.length : Int))), (11, .int .i64 (((xQ.1 : Nat) : Int)))]) (fun xQ => slH 116 3 xQ.2.1 xQ.2.2.2.2.2.1 xQ.2.2.2.1 :: objH l (.loop R) :: cellsH bo [xQ.2.1] 55 :: cellsH bl [.bool (xQ.2.2.2.2.2.2.1)] 4 :: L) (fun xQ F' => xQ.2.2.2.2.2.2.2 = F' ∧ F ≤ xQ.2.2.2.2.2.2.2 ∧ (xQ.1 ≤ t.length) ∧ (IsSl xQ.2.1) ∧ (StepsC xQ.2.2.2.2.2.2.2 xQ.2.2.2.1 xQ.2.2.1) ∧ (xQ.2.2.2.2.2.1 = xQ.2.2.1.length) ∧ (DeepL 3 (StepO 2) xQ.2.2.2.1 xQ.2.2.1 xQ.2.2.2.2.1) ∧ (Fresh F xQ.2.2.2.2.2.2.2 (star xQ.2.2.2.2.1)) ∧ (xQ.2.2.1 = stepsTo ar rs t xQ.1) ∧ (xQ.2.2.2.2.2.2.1 = longTo ar rs t xQ.1)) (fun xQ => t.length - xQ.1) (0, (.slice none 0 0), [], [], [], 0, false, F) ⟨rfl, rfl, rfl, rfl, rfl, rfl, trivial⟩ (Sub.trans (Sub.addNil 116 3 _ _) (sC (sC (sC (sC sR))))) ⟨rfl, FLe.refl _, (by (try dsimp only) <;> omega), (⟨_, _, _, rfl⟩), (CO.nil), (rfl), (DeepL.nil), (Fresh.nilL), (rfl), (rfl)⟩ ?_
 rintro ⟨k, sv, ss, cs, Ls, m, lb, G1⟩ rE _ _ ⟨rfl, leG, hk, hsv, hC, hm, hD, hZ, hss, hlb⟩
 show X _ _ _ _ (envs [(0, (.func (.yield l) #[] #[])), (1, ptr bt 0), (2, ptr bs 0), (9, tv), (10, .int .i64 ((t.length : Int))), (11, .int .i64 ((k : Int)))] rE) _ (slH 116 3 sv m cs :: objH l (.loop R) :: cellsH bo [sv] 55 :: cellsH bl [.bool (lb)] 4 :: L)
 replace leG : F ≤ G1 := leG
 dsimp only at hk hsv hC hm hD hZ hss hlb
 have hsl1 := stepsTo_len (ar := ar) (t := t) (rs := rs) hrl k
 have hZo := hZ
 have hss0 := hss
 have hlb0 := hlb
 have leG1 := leG
 replace har := har.mono leG1
 replace hrs := hrs.mono leG1
 replace ht := ht.mono leG1
 replace hbt := hbt.mono leG1
 replace hbs := hbs.mono leG1
 refine X.seq (X.region ?_)
 refine cX (XOp.lss (a := (k : Int)) (b := (t.length : Int)) rfl rfl ?_)
 refine XL.nil (X.seq ?_)
 refine X.condD (p := (k : Int) < (t.length : Int)) rfl (fun h1 => ?_) (fun h1 => ?_)
 ·refine X.skip (X.seq (X.block (X.seq (X.region ?_))))
  refine XL.mv (.int .i64 ((k : Int))) rfl ?_
  refine cX (XOp.indexS (v := tv) (i := (k : Int)) (n := (t).length) k runUnderlying22 sizeOf2 rfl rfl rfl ht.slv (by omega) (Nat.mul_one _) ?_)
  refine cX (XOp.load1 (v := .int .i64 (t.getD k 0)) isAgg2 rfl (ht.rd (by omega)) ?_)
  refine XL.as (.int .i64 ((k : Int))) rfl ?_
  refine XL.as (.int .i64 (t.getD k 0)) rfl ?_
  refine XL.nil (X.seq (X.region ?_))
  refine cX (XOp.fieldP (b := bs) (1) runUnderlying37 rfl sizeOf35 (by decide) rfl rfl ?_)
  refine cX (XOp.load1 (v := rsv) isAgg35 rfl (FzC.rd1 hbs rfl) ?_)
  refine cX (XOp.lenS (v := rsv) (n := (rs).length) runUnderlying35 rfl hrs.slv ?_)
  refine XL.mv (.int .i64 (0)) rfl ?_
  refine XL.nil (X.block ?_)
  refine X.loop (α := Nat × Value × List StepT × List Value × List HP × Nat × Bool × FH) (fun xQ => [(0, (.func (.yield l) #[] #[])), (1, ptr bt 0), (2, ptr bs 0), (4, .int .i64 ((k : Int))), (5, .int .i64 (t.getD k 0)), (9, tv), (10, .int .i64 ((t.length : Int))), (11, .int .i64 ((k : Int))), (18, .int .i64 ((rs.length : Int))), (19, .int .i64 (((xQ.1 : Nat) : Int)))]) (fun xQ => slH 116 3 xQ.2.1 xQ.2.2.2.2.2.1 xQ.2.2.2.1 :: objH l (.loop R) :: cellsH bo [xQ.2.1] 55 :: cellsH bl [.bool (xQ.2.2.2.2.2.2.1)] 4 :: L) (fun xQ F' => xQ.2.2.2.2.2.2.2 = F' ∧ G1 ≤ xQ.2.2.2.2.2.2.2 ∧ (xQ.1 ≤ rs.length) ∧ (IsSl xQ.2.1) ∧ (StepsC xQ.2.2.2.2.2.2.2 xQ.2.2.2.1 xQ.2.2.1) ∧ (xQ.2.2.2.2.2.1 = xQ.2.2.1.length) ∧ (DeepL 3 (StepO 2) xQ.2.2.2.1 xQ.2.2.1 xQ.2.2.2.2.1) ∧ (Fresh F xQ.2.2.2.2.2.2.2 (star xQ.2.2.2.2.1)) ∧ (xQ.2.2.1 = stepsTo ar rs t k ++ stepsRow ar rs t k xQ.1) ∧ (xQ.2.2.2.2.2.2.1 = (longTo ar rs t k || longRow ar rs t k xQ.1))) (fun xQ => rs.length - xQ.1) (0, sv, ss, cs, Ls, m, lb, G1) ⟨rfl, rfl, rfl, rfl, rfl, rfl, rfl, rfl, rfl, rfl, trivial⟩ (sC (sC (sC (sC sR)))) ⟨rfl, FLe.refl _, (by (try dsimp only) <;> omega), (hsv), (hC), (hm), (hD), (hZ), (by (try dsimp only); rw [hss0]; simp [stepsRow]), (by (try dsimp only); rw [hlb0]; simp [longRow])⟩ ?_
  rintro ⟨r, sv, ss, cs, Ls, m, lb, G2⟩ rE _ _ ⟨rfl, leG, hr, hsvi, hCi, hmi, hDi, hZi, hssi, hlbi⟩
  show X _ _ _ _ (envs [(0, (.func (.yield l) #[] #[])), (1, ptr bt 0), (2, ptr bs 0), (4, .int .i64 ((k : Int))), (5, .int .i64 (t.getD k 0)), (9, tv), (10, .int .i64 ((t.length : Int))), (11, .int .i64 ((k : Int))), (18, .int .i64 ((rs.length : Int))), (19, .int .i64 ((r : Int)))] rE) _ (slH 116 3 sv m cs :: objH l (.loop R) :: cellsH bo [sv] 55 :: cellsH bl [.bool (lb)] 4 :: L)
  replace leG : G1 ≤ G2 := leG
  dsimp only at hr hsvi hCi hmi hDi hZi hssi hlbi
  have hsl2 := stepsRow_len (ar := ar) (rs := rs) (t := t) (p := k) r
  have hssl : ss.length ≤ 1000 := by rw [hssi, List.length_append]; omega
  have leG2 := leG
  replace har := har.mono leG2
  replace hrs := hrs.mono leG2
  replace ht := ht.mono leG2
  replace hbt := hbt.mono leG2
  replace hbs := hbs.mono leG2
  replace hC := hC.mono leG2
  refine X.seq (X.region ?_)
  refine cX (XOp.lss (a := (r : Int)) (b := (rs.length : Int)) rfl rfl ?_)
  refine XL.nil (X.seq ?_)
  refine X.condD (p := (r : Int) < (rs.length : Int)) rfl (fun h2 => ?_) (fun h2 => ?_)
  ·refine X.skip (X.seq (X.block (X.seq (X.region ?_))))
   refine XL.mv (.int .i64 ((r : Int))) rfl ?_
   refine XL.as (.int .i64 ((r : Int))) rfl ?_
   refine XL.nil (X.seq (X.seq (X.region ?_)))
   refine XL.mv (.int .i64 (t.getD k 0)) rfl ?_
   refine cX (XOp.lss (a := t.getD k 0) (b := 0) rfl rfl ?_)
   refine XL.mv (.bool (decide ((t.getD k 0 : Int) < 0))) rfl ?_
   by_cases h3 : (t.getD k 0 : Int) < 0
   ·have hone := one_none (isRedex_var (p := k) (r := r) hsys ho (by omega) (by omega) (show r < rs.length by omega))
    refine XL.no (t := 24) rfl (vT h3) ?_
    refine XL.no (t := 24) rfl (vT h3) ?_
    refine XL.no (t := 24) rfl (vT h3) ?_
    refine XL.no (t := 24) rfl (vT h3) ?_
    refine XL.no (t := 24) rfl (vT h3) ?_
    refine XL.no (t := 24) rfl (vT h3) ?_
    refine cX (XOp.pickT (.bool (true)) (vT h3) rfl ?_)
    refine XL.nil ?_
    refine X.condT rfl ?_
    refine X.exit (thenQ_exit (blockQ_exit ?_))
    refine X.region ?_
    refine cX (XOp.addR (a := (r : Int)) (b := 1) (((r + 1 : Nat) : Int)) rfl rfl (by omega) (by omega) ?_)
    refine XL.mv (.int .i64 (((r + 1 : Nat) : Int))) rfl ?_
    refine XL.nil ?_
    exact ⟨(r + 1, sv, ss, cs, Ls, m, lb, G2), _, leG2, rF, ⟨rfl, rfl, rfl, rfl, rfl, rfl, rfl, rfl, rfl, rfl, trivial⟩, (sC (sC (sC (sC sR)))), ⟨rfl, leG2, (by (try dsimp only) <;> omega), (hsvi), (hCi), (by (try dsimp only); (try rw [List.length_append, List.length_singleton]); omega), (hDi), (hZi), (by (try dsimp only); rw [hssi, stepsRow_succ, hone.1]; simp), (by (try dsimp only); rw [longRow_succ, hone.2]; (try rw [hlbi]); simp)⟩, (by omega)⟩
   refine XL.yes (t := 24) rfl (vF h3) (XOp.loadN [arv, rsv] isAgg37 sizeOf37 rfl rfl (FzC.rd hbs rfl) ?_)
   refine XL.yes (t := 24) rfl (vF h3) (XOp.load1 (v := tv) isAgg22 rfl (FzC.rd1 hbt rfl) ?_)
   refine XL.yes (t := 24) rfl (vF h3) (XOp.move (.int .i64 ((k : Int))) rfl ?_)
   refine XL.yes (t := 24) rfl (vF h3) (XOp.move (.int .i64 ((r : Int))) rfl ?_)
   refine XL.yes (t := 24) rfl (vF h3) (XOp.call (args := [.agg #[arv, rsv], tv, .int .i64 (k : Int), .int .i64 (r : Int)]) call187 rfl (redex_spec (p := k) (r := r) har hrs ht (hsys := (by first | assumption | rfl | omega | simp)) (ho := (by first | assumption | rfl | omega | simp)) (hp := (by first | assumption | rfl | omega | simp)) (hr := (by first | assumption | rfl | omega | simp))) ?_)
   rintro _ _ _ _ ⟨rfl, rfl, rfl⟩
   refine XL.yes (t := 24) rfl (vF h3) (XOp.notB (b := isRedex ar rs t k r) rfl ?_)
   refine cX (XOp.pickF (.bool (!(isRedex ar rs t k r))) (vF h3) rfl ?_)
   refine XL.nil ?_
   refine X.cond (t := !(isRedex ar rs t k r)) rfl (fun h4 => ?_) (fun h4 => ?_)
   ·have hone := one_none (show isRedex ar rs t k r = false by simpa using h4)
    refine X.exit (thenQ_exit (blockQ_exit ?_))
    refine X.region ?_
    refine cX (XOp.addR (a := (r : Int)) (b := 1) (((r + 1 : Nat) : Int)) rfl rfl (by omega) (by omega) ?_)
    refine XL.mv (.int .i64 (((r + 1 : Nat) : Int))) rfl ?_
    refine XL.nil ?_
    exact ⟨(r + 1, sv, ss, cs, Ls, m, lb, G2), _, leG2, rF, ⟨rfl, rfl, rfl, rfl, rfl, rfl, rfl, rfl, rfl, rfl, trivial⟩, (sC (sC (sC (sC sR)))), ⟨rfl, leG2, (by (try dsimp only) <;> omega), (hsvi), (hCi), (by (try dsimp only); (try rw [List.length_append, List.length_singleton]); omega), (hDi), (hZi), (by (try dsimp only); rw [hssi, stepsRow_succ, hone.1]; simp), (by (try dsimp only); rw [longRow_succ, hone.2]; (try rw [hlbi]); simp)⟩, (by omega)⟩
   have hrx : isRedex ar rs t k r = true := by simpa using h4
   refine X.skip (X.seq (X.region ?_))
   refine cX (XOp.loadN [arv, rsv] isAgg37 sizeOf37 rfl rfl (FzC.rd hbs rfl) ?_)
   refine cX (XOp.load1 (v := tv) isAgg22 rfl (FzC.rd1 hbt rfl) ?_)
   refine XL.mv (.int .i64 ((k : Int))) rfl ?_
   refine XL.mv (.int .i64 ((r : Int))) rfl ?_
   refine cX (XOp.call (args := [.agg #[arv, rsv], tv, .int .i64 (k : Int), .int .i64 (r : Int)]) call114 rfl (step_spec (p := k) (r := r) har hrs ht (hsys := (by first | assumption | rfl | omega | simp)) (ho := (by first | assumption | rfl | omega | simp)) (hp := (by first | assumption | rfl | omega | simp)) (hr := (by first | assumption | rfl | omega | simp))) ?_)
   rintro _ F1 _ le1 ⟨x1, rfl, hr1, hr2, hr3, rfl⟩
   replace hC := hC.mono le1
   replace hCi := hCi.mono le1
   refine XL.mv (.tuple #[x1, .bool ((stepL ar rs t k r).isSome)]) rfl ?_
   refine cX (XOp.extract (x1) rfl rfl ?_)
   refine cX (XOp.extract (.bool ((stepL ar rs t k r).isSome)) rfl rfl ?_)
   refine XL.as (x1) rfl ?_
   refine XL.as (.bool ((stepL ar rs t k r).isSome)) rfl ?_
   refine XL.nil (X.seq ?_)
   refine X.ofI (by kernel_rfl) ?_
   refine XI.region ?_
   refine XIL.cons (XOp.move ((.func (.yield l) #[] #[])) rfl ?_)
   refine XIL.cons (XOp.move (.int .i64 ((k : Int))) rfl ?_)
   refine XIL.cons (XOp.move (.int .i64 ((r : Int))) rfl ?_)
   refine XIL.cons (XOp.move (x1) rfl ?_)
   refine XIL.cons (XOp.build [.int .i64 ((k : Int)), .int .i64 ((r : Int)), x1] [.int .i64 (0), .int .i64 (0), (.slice none 0 0)] [(0, 1), (1, 1), (2, 1)] [(0, [.int .i64 ((k : Int))]), (1, [.int .i64 ((r : Int))]), (2, [x1])] runUnderlying116 zeroValue116 rfl (.cons rfl sizeOf2 (.cons rfl sizeOf2 (.cons rfl sizeOf22 PlacesAre.nil))) rfl (.cons rfl (.cons rfl (.cons (cells_one (IntsF.isSl hr1)) CellsAre.nil))) ?_)
   refine XIL.cons (XOp.move (.bool ((stepL ar rs t k r).isSome)) rfl ?_)
   by_cases h5 : ((stepL ar rs t k r).isSome) = true
   ·refine XIL.yield (k := l) (args := [.agg #[.int .i64 ((k : Int)), .int .i64 ((r : Int)), x1], .bool true]) rfl (by rw [← h5]; rfl) ?_
    refine Yld.weaken (Sub.trans (Sub.front (A := [_, _, _])) (Sub.trans (Sub.front (A := [_])) (Sub.trans (Sub.front (A := [_, _, _])) (Sub.trans (Sub.front (A := [_, _, _])) (sC (sC (sC (sC sR)))))))) ?_
    have hone := one_some h5
    refine (hyes _ _ _ _ _ _ _ _ _ _ (FLe.trans (FLe.trans leG1 leG2) le1) hsvi hCi hmi (by omega) hr1).mono ?_
    rintro _ _ _ _ ⟨rfl, rfl, sw1, hs1, rfl⟩
    have hc1 := StepsC.snoc hCi (i := (k : Int)) (j := (r : Int)) hr1
    show XIL _ _ _ _ _ _ _ _ _ (objH l (.loop R) :: cellsH bo [sw1] 55 :: slH 116 3 sw1 (m + 1) ((cs ++ [.int .i64 ((k : Int)), .int .i64 ((r : Int)), x1])) :: cellsH bl [.bool (lb)] 4 :: L)
    refine XIL.cons (XOp.notB (b := true) rfl ?_)
    refine XIL.nil ?_
    refine X.condF rfl ?_
    refine X.skip (X.region ?_)
    refine cX (XOp.addR (a := (r : Int)) (b := 1) (((r + 1 : Nat) : Int)) rfl rfl (by omega) (by omega) ?_)
    refine XL.mv (.int .i64 (((r + 1 : Nat) : Int))) rfl ?_
    refine XL.nil ?_
    exact ⟨(r + 1, sw1, (ss ++ [((k : Int), (r : Int), (stepL ar rs t k r).getD [])]), (cs ++ [.int .i64 ((k : Int)), .int .i64 ((r : Int)), x1]), Ls ++ [intsH 2 x1 ((stepL ar rs t k r).getD [])], m + 1, lb, F1), _, (FLe.trans leG2 le1), rF, ⟨rfl, rfl, rfl, rfl, rfl, rfl, rfl, rfl, rfl, rfl, trivial⟩, (Sub.trans (Sub.front (A := [_, _, _])) (Sub.trans (Sub.front (A := [_, _])) (Sub.trans (Sub.front (A := [_, _])) (Sub.trans (Sub.front (A := [_, _, _])) (sC (sC (sC (sC sR)))))))), ⟨rfl, (FLe.trans leG2 le1), (by (try dsimp only) <;> omega), (hs1), (hc1), (by (try dsimp only); (try rw [List.length_append, List.length_singleton]); omega), (DeepL.snoc hDi rfl ⟨_, rfl, rfl⟩), ((Fresh.app hZi (FLe.trans leG1 leG2) (Fresh.one hr3) le1)), (by (try dsimp only); rw [hssi, stepsRow_succ, hone.1]; simp), (by (try dsimp only); rw [longRow_succ, hone.2]; (try rw [hlbi]); simp)⟩, (by omega)⟩
   rw [Bool.not_eq_true] at h5
   refine XIL.yield (k := l) (args := [.agg #[.int .i64 ((k : Int)), .int .i64 ((r : Int)), x1], .bool false]) rfl (by rw [← h5]; rfl) ?_
   refine Yld.weaken (Sub.trans (Sub.front (A := [_, _, _])) (Sub.trans (Sub.front (A := [_])) (Sub.trans (Sub.front (A := [_, _, _])) (Sub.trans (Sub.front (A := [_, _, _])) (sC (sC (sC (sC sR)))))))) ?_
   have hone := one_long hrx h5
   refine (hno _ _ _ _ _ _ _ _ (FLe.trans (FLe.trans leG1 leG2) le1) hsvi (IntsF.isSl hr1)).mono ?_
   rintro _ _ _ _ ⟨rfl, rfl, rfl⟩
   show XIL _ _ _ _ _ _ _ _ _ (objH l (.loop R) :: cellsH bo [sv] 55 :: slH 116 3 sv m cs :: cellsH bl [.bool (true)] 4 :: L)
   refine XIL.cons (XOp.notB (b := true) rfl ?_)
   refine XIL.nil ?_
   refine X.condF rfl ?_
   refine X.skip (X.region ?_)
   refine cX (XOp.addR (a := (r : Int)) (b := 1) (((r + 1 : Nat) : Int)) rfl rfl (by omega) (by omega) ?_)
   refine XL.mv (.int .i64 (((r + 1 : Nat) : Int))) rfl ?_
   refine XL.nil ?_
   exact ⟨(r + 1, sv, ss, cs, Ls, m, true, F1), _, (FLe.trans leG2 le1), rF, ⟨rfl, rfl, rfl, rfl, rfl, rfl, rfl, rfl, rfl, rfl, trivial⟩, (Sub.trans (Sub.front (A := [_, _, _])) (Sub.trans (Sub.front (A := [_, _])) (Sub.trans (Sub.front (A := [_, _])) (Sub.trans (Sub.front (A := [_, _, _])) (sC (sC (sC (sC sR)))))))), ⟨rfl, (FLe.trans leG2 le1), (by (try dsimp only) <;> omega), (hsvi), (hCi), (by (try dsimp only); (try rw [List.length_append, List.length_singleton]); omega), (hDi), ((hZi.mono le1)), (by (try dsimp only); rw [hssi, stepsRow_succ, hone.1]; simp), (by (try dsimp only); rw [longRow_succ, hone.2]; (try rw [hlbi]); simp)⟩, (by omega)⟩
  refine X.exit (thenQ_exit (thenQ_exit (blockQ_exit ?_)))
  refine X.region ?_
  refine cX (XOp.addR (a := (k : Int)) (b := 1) (((k + 1 : Nat) : Int)) rfl rfl (by omega) (by omega) ?_)
  refine XL.mv (.int .i64 (((k + 1 : Nat) : Int))) rfl ?_
  refine XL.nil ?_
  exact ⟨(k + 1, sv, ss, cs, Ls, m, lb, G2), _, (FLe.trans leG1 leG2), rF, ⟨rfl, rfl, rfl, rfl, rfl, rfl, trivial⟩, (sC (sC (sC (sC sR)))), ⟨rfl, (FLe.trans leG1 leG2), (by (try dsimp only) <;> omega), (hsvi), (hCi), (hmi), (hDi), (hZi), (by dsimp only; rw [hssi, stepsTo_succ, show r = rs.length from by omega]), (by dsimp only; rw [hlbi, longTo_succ, show r = rs.length from by omega])⟩, (by omega)⟩
 refine X.exit (thenQ_exit (thenQ_exit (blockQ_exit ?_)))
 refine id (retEndN (L' := objH l (.loop R) :: cellsH bo [sv] 55 :: slH 116 3 sv m cs :: cellsH bl [.bool (lb)] 4 :: L) [] (.tuple #[]) (by exact .nil) rfl leG1 rF (Sub.trans (Sub.front (A := [_, _, _])) (Sub.trans (Sub.front (A := [_])) (Sub.trans (Sub.front (A := [_, _, _])) (Sub.trans (Sub.front (A := [_, _, _])) (sC (sC (sC (sC sR)))))))) ?_)
 have hkl : k = t.length := by omega
 have e1 : stepsL ar rs t = ss := by rw [hss, hkl]; rfl
 have e2 : longL ar rs t = lb := by rw [hlb, hkl]; rfl
 rw [e1, e2]
 subst hm
 exact ⟨sv, cs, Ls, hsv, hC, hD, hZ, rfl⟩

/- impl.stepsFrom -/
set_option maxRecDepth 20000 in
theorem stepsFrom_spec {F : FH} {L : List HP} {arv : Value} {ar : List Int} (har : IntsF F arv ar) {rsv : Value} {rs : List (List Int × List Int)} (hrs : PairsF F rsv rs) {tv : Value} {t : List Int} (ht : IntsF F tv t) (hsys : sysOk ar rs = true) (ho : termOk ar t = true) :
    Does prog 154 [.agg #[arv, rsv], tv] F (L) (fun v F' L' => ∃ (a : Value), (.tuple #[a, .bool (longL ar rs t)] : Value) = v ∧ FrStepsF F F' 2 a (stepsL ar rs t) ∧ L = L') := by
 refine Does.of_XF func154 rfl (by kernel_rfl) rfl ?_
 have hnn := notNil_of_pos ht (by have := termOk_len ho; omega)
 have htl := termOk_len ho
 have hrl := (sysOk_iff.1 hsys).2.1
 have hsig := (sysOk_iff.1 hsys).1
 have hsl := sigOk_spec hsig
 refine XF.seq ?_
 refine X.region ?_
 refine cX (XOp.box [arv, rsv] rfl rfl ?_)
 intro b1
 refine XL.as ((.slice none 0 0)) rfl ?_
 refine XL.as (.bool (false)) rfl ?_
 refine XL.nil ?_
 refine XF.seq ?_
 refine X.region ?_
 refine cX (XOp.alloc [(.slice none 0 0)] zeroValue55 rfl ?_)
 intro b2
 refine XL.nil ?_
 refine XF.seq ?_
 refine X.region ?_
 refine cX (XOp.alloc [.bool (false)] zeroValue4 rfl ?_)
 intro b3
 refine cX (XOp.store1 (v := .bool (false)) [] _ [.bool (false)] sizeOf4 rfl rfl rfl rfl rfl rfl ?_)
 refine XL.nil ?_
 refine XF.ofR ?_
 refine XR.seq ?_
 refine X.region ?_
 refine cX (XOp.loadN [arv, rsv] isAgg37 sizeOf37 rfl rfl (Rd.ownN [_, _] rfl rfl) ?_)
 refine XL.mv (tv) rfl ?_
 refine cX (XOp.call (args := [.agg #[arv, rsv], tv]) call203 rfl (redexSteps_spec har hrs ht) ?_)
 rintro _ F1 _ le1 ⟨x1, x2, rfl, hb1, hb2, rfl⟩
 replace har := har.mono le1
 replace hrs := hrs.mono le1
 replace ht := ht.mono le1
 refine XL.nil ?_
 refine XR.rangeB (gf := 224) (lb := [ptr x1 0, ptr x2 0]) rfl call224 (fun l D R hRs hRp hRps hRa hRb hRz hRg => ?_)
 have hR0 : ({ R with state := .ready, pending := none } : Loop) = R := by
  cases R
  simp only at hRs hRp
  subst hRs hRp
  rfl
 have hyes : ∀ (Fy : FH) (sv : Value) (ss : List StepT) (cs : List Value) (m : Nat) (lb : Bool) (i j : Int) (tov : Value) (to : List Int), F1 ≤ Fy → IsSl sv → StepsC Fy cs ss → m = ss.length → ss.length ≤ 4000000 → IntsF Fy tov to → Yld prog l [.agg #[.int .i64 i, .int .i64 j, tov], .bool true] Fy (objH l (.loop R) :: cellsH b2 [sv] 55 :: slH 116 3 sv m cs :: cellsH b3 [.bool (lb)] 4 :: objH D (.deferred (some [])) :: L) (fun v F' L' => .bool true = v ∧ Fy = F' ∧ ∃ sw, IsSl sw ∧ objH l (.loop R) :: cellsH b2 [sw] 55 :: slH 116 3 sw (m + 1) (cs ++ [.int .i64 i, .int .i64 j, tov]) :: cellsH b3 [.bool (lb)] 4 :: objH D (.deferred (some [])) :: L = L') := by
  intro Fy sv ss cs m lb i j tov to leF hsv hC hm hsb hto
  refine Yld.of_round hRs hRp hRps hRa hRb hRz hRg rfl (by kernel_rfl) (by kernel_rfl) (by kernel_rfl) ?_
  refine XI.slots [(13, .agg #[.int .i64 (i), .int .i64 (j), tov]), (14, .bool (true)), (6, ptr b2 0), (7, ptr b3 0)] ⟨rfl, rfl, rfl, rfl, trivial⟩ (fun rE => ?_)
  refine XI.seq ?_
  refine XI.region ?_
  refine XIL.cons (XOp.alloc [.int .i64 (0), .int .i64 (0), (.slice none 0 0)] zeroValue116 rfl ?_)
  intro b4
  refine XIL.cons (XOp.storeN (vs := [.int .i64 (i), .int .i64 (j), tov]) [] _ [.int .i64 (i), .int .i64 (j), tov] sizeOf116 rfl rfl rfl (ones_cons rfl (ones_cons rfl (ones_cons (one_sl (IntsF.isSl hto)) ones_nil))) rfl rfl rfl ?_)
  refine XIL.nil ?_
  refine XI.region ?_
  refine XIL.cons (XOp.assign (.bool (true)) rfl ?_)
  refine XIL.nil ?_
  refine ⟨cellsH b4 [.int .i64 (i), .int .i64 (j), tov] 116 :: cellsH b2 [sv] 55 :: slH 116 3 sv m cs :: cellsH b3 [.bool (lb)] 4 :: objH D (.deferred (some [])) :: L, (Sub.trans (Sub.front (A := [_, _, _, _])) (Sub.trans (Sub.front (A := [_, _, _, _])) (Sub.trans (Sub.front (A := [_, _, _, _])) (Sub.trans (Sub.front (A := [_, _, _])) (Sub.trans (Sub.front (A := [_, _, _, _])) (sC (sC (sC (sC (sC sR)))))))))), ?_⟩
  refine XI.block ?_
  refine XI.seq ?_
  refine XI.region ?_
  refine XIL.cons (XOp.move (.bool (true)) rfl ?_)
  refine XIL.nil ?_
  refine XI.condT rfl ?_
  refine XI.region ?_
  refine XIL.cons (XOp.load1 (v := sv) isAgg55 rfl (Rd.own [_, _] rfl rfl) ?_)
  refine XIL.cons (XOp.loadN [.int .i64 (i), .int .i64 (j), tov] isAgg116 sizeOf116 rfl rfl (Rd.ownN [_] rfl rfl) ?_)
  refine XIL.cons (XOp.buildSlice (s := 3) [.int .i64 (i), .int .i64 (j), tov] [.int .i64 (0), .int .i64 (0), (.slice none 0 0)] [(0, [.int .i64 (i), .int .i64 (j), tov])] runUnderlying55 sizeOf116 zeroValue116 rfl (by decide) rfl (.cons rfl CellsAre.nil) rfl ?_)
  intro v1 hv1
  refine XIL.cons (XOp.append (m := 1) (bytes := 40) (cs := cs) [_, _, _, _] _ [.int .i64 (i), .int .i64 (j), tov] runUnderlying55 typeInfo116 rfl rfl rfl rfl rfl rfl rfl (SlV.own [] rfl) rfl (Rd.lit [] rfl) (ones_cons rfl (ones_cons rfl (ones_cons (one_sl (IntsF.isSl hto)) ones_nil))) (by (try simp only [List.length_append, List.length_nil, List.length_cons, List.length_singleton]); omega) (by (try simp only [List.length_append, List.length_nil, List.length_cons, List.length_singleton]); omega) ?_)
  intro v2 hs1 hn1 hm1
  have hc1 := StepsC.snoc hC (i := i) (j := j) hto
  refine XIL.cons (XOp.store1 (v := v2) [_, _, _] _ [v2] sizeOf55 rfl rfl (one_sl hs1) rfl rfl rfl ?_)
  refine XIL.nil ?_
  refine ⟨rfl, ?_⟩
  refine ⟨cellsH b2 [v2] 55 :: slH 116 3 v2 ((m) + 1) (cs ++ [.int .i64 (i), .int .i64 (j), tov]) :: cellsH b3 [.bool (lb)] 4 :: objH D (.deferred (some [])) :: L, (sD (sC (sD (sC (sC (sC sR)))))), ?_⟩
  rw [hR0]
  exact ⟨rfl, rfl, _, hs1, rfl⟩
 have hno : ∀ (Fy : FH) (sv : Value) (cs : List Value) (m : Nat) (lb : Bool) (i j : Int) (tov : Value), F1 ≤ Fy → IsSl sv → IsSl tov → Yld prog l [.agg #[.int .i64 i, .int .i64 j, tov], .bool false] Fy (objH l (.loop R) :: cellsH b2 [sv] 55 :: slH 116 3 sv m cs :: cellsH b3 [.bool (lb)] 4 :: objH D (.deferred (some [])) :: L) (fun v F' L' => .bool true = v ∧ Fy = F' ∧ objH l (.loop R) :: cellsH b2 [sv] 55 :: slH 116 3 sv m cs :: cellsH b3 [.bool (true)] 4 :: objH D (.deferred (some [])) :: L = L') := by
  intro Fy sv cs m lb i j tov leF hsv htv
  refine Yld.of_round hRs hRp hRps hRa hRb hRz hRg rfl (by kernel_rfl) (by kernel_rfl) (by kernel_rfl) ?_
  refine XI.slots [(13, .agg #[.int .i64 (i), .int .i64 (j), tov]), (14, .bool (false)), (6, ptr b2 0), (7, ptr b3 0)] ⟨rfl, rfl, rfl, rfl, trivial⟩ (fun rE => ?_)
  refine XI.seq ?_
  refine XI.region ?_
  refine XIL.cons (XOp.alloc [.int .i64 (0), .int .i64 (0), (.slice none 0 0)] zeroValue116 rfl ?_)
  intro b5
  refine XIL.cons (XOp.storeN (vs := [.int .i64 (i), .int .i64 (j), tov]) [] _ [.int .i64 (i), .int .i64 (j), tov] sizeOf116 rfl rfl rfl (ones_cons rfl (ones_cons rfl (ones_cons (one_sl htv) ones_nil))) rfl rfl rfl ?_)
  refine XIL.nil ?_
  refine XI.region ?_
  refine XIL.cons (XOp.assign (.bool (false)) rfl ?_)
  refine XIL.nil ?_
  refine ⟨cellsH b5 [.int .i64 (i), .int .i64 (j), tov] 116 :: cellsH b2 [sv] 55 :: slH 116 3 sv m cs :: cellsH b3 [.bool (lb)] 4 :: objH D (.deferred (some [])) :: L, (Sub.trans (Sub.front (A := [_, _, _, _])) (Sub.trans (Sub.front (A := [_, _, _, _])) (Sub.trans (Sub.front (A := [_, _, _, _])) (Sub.trans (Sub.front (A := [_, _, _])) (Sub.trans (Sub.front (A := [_, _, _, _])) (sC (sC (sC (sC (sC sR)))))))))), ?_⟩
  refine XI.block ?_
  refine XI.seq ?_
  refine XI.region ?_
  refine XIL.cons (XOp.move (.bool (false)) rfl ?_)
  refine XIL.nil ?_
  refine XI.condF rfl ?_
  refine XI.region ?_
  refine XIL.cons (XOp.store1 (v := .bool (true)) [_, _, _, _] _ [.bool (true)] sizeOf4 rfl rfl rfl rfl rfl rfl ?_)
  refine XIL.nil ?_
  refine ⟨rfl, ?_⟩
  refine ⟨cellsH b2 [sv] 55 :: slH 116 3 sv m cs :: cellsH b3 [.bool (true)] 4 :: objH D (.deferred (some [])) :: L, (sC (sD (sC (sC (sC sR))))), ?_⟩
  rw [hR0]
  exact ⟨rfl, rfl, rfl⟩
 refine (Does.weaken (Sub.trans (Sub.front (A := [_])) (Sub.trans (Sub.front (A := [_, _])) (Sub.trans (Sub.front (A := [_, _, _])) (Sub.trans (Sub.front (A := [_, _, _])) (sC (sC (sC (sC (sD sR))))))))) (redexIt_spec har hrs ht hb1 hb2 hsys ho hyes hno)).mono ?_
 rintro _ F9 _ le9 ⟨sv, cs, Ls, hsv, hC, hD, hZ, rfl⟩
 refine ⟨R, cellsH b2 [sv] 55 :: slH 116 3 sv ((stepsL ar rs t).length) cs :: cellsH b3 [.bool (longL ar rs t)] 4 :: L, by rw [hRs]; simp, hRp, (Sub.trans (Sub.front (A := [_, _, _])) (Sub.trans (Sub.front (A := [_, _, _])) (Sub.trans (Sub.front (A := [_, _, _])) (Sub.trans (Sub.front (A := [_, _, _, _])) (Sub.trans (Sub.front (A := [_, _, _, _])) (sC (sC (sC (sC (sC sR)))))))))), ?_⟩
 refine XI.seq ?_
 refine XI.draw [objH D (.deferred (some [])), cellsH b2 [sv] 55, slH 116 3 sv ((stepsL ar rs t).length) cs, cellsH b3 [.bool (longL ar rs t)] 4] L 3 [[], [], []] [[], [], [0]] (phiL [fun us v => v = sv, fun us v => v = (.bool (longL ar rs t) : Value), fun us v => v = sv]) (ownL [fun us v => [], fun us v => [], fun us v => []]) mixed rfl rfl (by kernel_rfl) ?_ ?_
 ·refine pC (fun vals R hpZ => ?_) ?_
  ·refine XG.op (XOp.load1 (v := sv) isAgg55 rfl (Rd.own [_] rfl rfl) ?_)
   exact ⟨rfl, rfl, rfl⟩
  refine pC (fun vals R hpZ => ?_) ?_
  ·refine XG.op (XOp.load1 (v := .bool (longL ar rs t)) isAgg4 rfl (Rd.own [_, _, _] rfl rfl) ?_)
   exact ⟨rfl, rfl, rfl⟩
  refine pC (fun vals R hpZ => ?_) ?_
  ·rw [eS (l := [(0, sv)]) ⟨hpZ 0 (by decide), trivial⟩]
   refine XG.op (XOp.assign (sv) rfl ?_)
   exact ⟨rfl, rfl, rfl⟩
  exact stepsP.nil
 intro vals hphi
 rw [eS (l := [(1, (.bool (longL ar rs t) : Value)), (2, sv)]) ⟨(hphi 1 (by decide)), (hphi 2 (by decide)), trivial⟩]
 show XIL _ _ _ _ _ _ _ _ _ (objH D (.deferred (some [])) :: cellsH b2 [sv] 55 :: slH 116 3 sv ((stepsL ar rs t).length) cs :: cellsH b3 [.bool (longL ar rs t)] 4 :: L)
 refine XIL.cons (XOp.assign (.bool (longL ar rs t)) rfl ?_)
 refine XIL.nil ?_
 refine XI.freezeF [_, _] _ _ rfl (fun F2 le2 hz1 => ?_)
 replace hC := hC.mono le2
 have hf1 : StepsF F2 sv ((stepsL ar rs t)) := CO.fz hC (by first | rfl | simp | omega) hz1.fz
 refine XI.ret (retEndD (L' := L) [sv, .bool (longL ar rs t)] (.tuple #[sv, .bool (longL ar rs t)]) (fun _ _ => (.tmp rfl (.tmp rfl .nil))) rfl (FLe.trans (FLe.trans le1 le9) le2) rF (sC (sD (sD sR))) ?_)
 exact ⟨_, rfl, ⟨cs, Ls, StepsC.fzx hC rfl hz1.fz, hD, ((hZ.mono le2).base le1)⟩, rfl⟩
end Go.Proofs.YtiaanelimbmniaaGreat
set_option linter.unusedSimpArgs false
set_option linter.unusedVariables false
namespace Go.Proofs.YtiaanelimbmniaaGreat
open Go X M Tryz

/- impl.found$1 -/
theorem found1_spec {F : FH} {L : List HP} {xv : Value} {x : List Int} (hx : IntsF F xv x) {i1 : Int} {i2 : Int} {i3 : Int} {yv : Value} {y : List Int} (hy : IntsF F yv y) {i4 : Int} {uv : Value} {u : List Int} (hu : IntsF F uv u) {bt : Nat} (hzbt : FzC F bt [uv]) (hlu : u.length ≤ 4000000) :
    Does prog 215 [.agg #[xv, .int .i64 (i1), .int .i64 (i2), .int .i64 (i3), yv, .int .i64 (i4)], ptr bt 0] F (L) (fun v F' L' => (.bool (decide (x = u)) : Value) = v ∧ F = F' ∧ L = L') := by
 refine Does.of_X func215 rfl rfl rfl ?_
 refine X.seq (X.region ?_)
 refine cX (XOp.box [xv, .int .i64 (i1), .int .i64 (i2), .int .i64 (i3), yv, .int .i64 (i4)] rfl rfl ?_)
 intro b1
 refine XL.as (.bool (false)) rfl ?_
 refine XL.nil (X.seq (X.region ?_))
 refine cX (XOp.fieldP (b := b1) (0) runUnderlying183 rfl sizeOf22 (by decide) rfl rfl ?_)
 refine cX (XOp.load1 (v := xv) isAgg22 rfl (Rd.own [] rfl rfl) ?_)
 refine cX (XOp.load1 (v := uv) isAgg22 rfl (FzC.rd1 hzbt rfl) ?_)
 refine cX (XOp.call (args := [xv, uv]) call115 rfl (Equal_spec hx hu (hbd := (by first | assumption | rfl | omega | (left; simp; done) | (right; simp; done)))) ?_)
 rintro _ _ _ _ ⟨rfl, rfl, rfl⟩
 refine XL.as (.bool (decide (x = u))) rfl ?_
 refine XL.nil ?_
 refine X.ret (retEnd (L' := L) [.bool (decide (x = u))] (.bool (decide (x = u))) (.tmp rfl .nil) rfl rF rF (sD sR) ?_)
 exact ⟨rfl, rfl, rfl⟩

/- slices.IndexFunc[[]impl.reached,impl.reached] -/
theorem IndexFuncFound_spec {F : FH} {L : List HP} {alv : Value} {al : List FoundT} {alcs : List Value} (hal : FoundsF F alv al alcs) {uv : Value} {u : List Int} (hu : IntsF F uv u) {bt : Nat} (hzbt : FzC F bt [uv]) (hlt : al.length ≤ 4000000) (hlu : u.length ≤ 4000000) :
    Does prog 214 [alv, .func (.func 215) #[] #[ptr bt 0]] F (L) (fun v F' L' => (.int .i64 (foundI al u) : Value) = v ∧ F = F' ∧ L = L') := by
 refine Does.of_X func214 rfl rfl rfl ?_
 refine X.seq (X.region ?_)
 refine XL.as (.int .i64 (0)) rfl ?_
 refine XL.nil (X.seq (X.seq (X.region ?_)))
 refine XL.mv (alv) rfl ?_
 refine cX (XOp.lenS (v := alv) (n := (al).length) runUnderlying179 rfl hal.slv ?_)
 refine XL.mv (.int .i64 (0)) rfl ?_
 refine XL.nil (X.block ?_)
 refine X.loop (α := Nat) (fun k => [(0, alv), (1, .func (.func 215) #[] #[ptr bt 0]), (7, .int .i64 ((al.length : Int))), (8, .int .i64 ((k : Int)))]) (fun k => L) (fun k F' => F = F' ∧ (k ≤ al.length) ∧ (∀ i, i < k → (EL al i).1 ≠ u)) (fun k => al.length - k) 0 ⟨rfl, rfl, rfl, rfl, trivial⟩ sR ⟨rfl, (by (try dsimp only) <;> omega), (fun i hi => absurd hi (by omega))⟩ ?_
 rintro k rE _ _ ⟨rfl, hk, hall⟩
 show X _ _ _ _ (envs [(0, alv), (1, .func (.func 215) #[] #[ptr bt 0]), (7, .int .i64 ((al.length : Int))), (8, .int .i64 ((k : Int)))] rE) _ (L)
 refine X.seq (X.region ?_)
 refine cX (XOp.lss (a := (k : Int)) (b := (al.length : Int)) rfl rfl ?_)
 refine XL.nil (X.seq ?_)
 refine X.condD (p := (k : Int) < (al.length : Int)) rfl (fun h1 => ?_) (fun h1 => ?_)
 ·refine X.skip (X.seq (X.block (X.seq (X.region ?_))))
  refine XL.mv (.int .i64 ((k : Int))) rfl ?_
  refine XL.as (.int .i64 ((k : Int))) rfl ?_
  refine XL.nil (X.seq (X.region ?_))
  refine XL.mv (.func (.func 215) #[] #[ptr bt 0]) rfl ?_
  refine XL.mv (alv) rfl ?_
  refine XL.mv (.int .i64 ((k : Int))) rfl ?_
  refine cX (XOp.indexS (v := alv) (i := (k : Int)) (n := (al).length) k runUnderlying179 sizeOf183 rfl rfl rfl hal.slv (by omega) rfl ?_)
  obtain ⟨a1, a2, ha1, ha2, hrg1, hq1⟩ := hal.rd (i := k) (by omega)
  refine cX (XOp.loadN [a1, .int .i64 ((al.getD k ([], 0, (0, 0, []), 0)).2.1), .int .i64 ((al.getD k ([], 0, (0, 0, []), 0)).2.2.1.1), .int .i64 ((al.getD k ([], 0, (0, 0, []), 0)).2.2.1.2.1), a2, .int .i64 ((al.getD k ([], 0, (0, 0, []), 0)).2.2.2)] isAgg183 sizeOf183 rfl rfl (Rd.all (hrg1 _)) ?_)
  refine cX (XOp.callV (first := []) (captured := [ptr bt 0]) (args := [.agg #[a1, .int .i64 ((al.getD k ([], 0, (0, 0, []), 0)).2.1), .int .i64 ((al.getD k ([], 0, (0, 0, []), 0)).2.2.1.1), .int .i64 ((al.getD k ([], 0, (0, 0, []), 0)).2.2.1.2.1), a2, .int .i64 ((al.getD k ([], 0, (0, 0, []), 0)).2.2.2)], ptr bt 0]) call215 rfl rfl (found1_spec ha1 ha2 hu hzbt (hlu := (by first | assumption | rfl | omega | simp))) ?_)
  rintro _ _ _ _ ⟨rfl, rfl, rfl⟩
  refine XL.nil ?_
  refine X.cond (t := decide (((al.getD k ([], 0, (0, 0, []), 0)).1) = u)) rfl (fun h2 => ?_) (fun h2 => ?_)
  ·refine X.seq (X.region ?_)
   refine XL.mv (.int .i64 ((k : Int))) rfl ?_
   refine XL.as (.int .i64 ((k : Int))) rfl ?_
   refine XL.nil ?_
   refine X.ret (blockQ_ret (thenQ_ret (thenQ_ret (blockQ_ret (thenQ_ret (retEnd (L' := L) [.int .i64 ((k : Int))] (.int .i64 ((k : Int))) (.tmp rfl .nil) rfl rF rF sR ?_))))))
   exact ⟨(vI (foundI_at (k := k) (by omega) (by unfold EL; simp_all) hall)), rfl, rfl⟩
  refine X.skip (X.region ?_)
  refine cX (XOp.addR (a := (k : Int)) (b := 1) (((k + 1 : Nat) : Int)) rfl rfl (by omega) (by omega) ?_)
  refine XL.mv (.int .i64 (((k + 1 : Nat) : Int))) rfl ?_
  refine XL.nil ?_
  exact ⟨k + 1, _, FLe.refl _, rF, ⟨rfl, rfl, rfl, rfl, trivial⟩, sR, ⟨rfl, (by (try dsimp only) <;> omega), (fun i hi => (Nat.lt_or_ge i k).elim (fun h => hall i h) (fun h => by obtain rfl : i = k := (by omega); unfold EL; simp_all))⟩, (by omega)⟩
 refine X.exit (thenQ_exit (thenQ_exit (blockQ_exit ?_)))
 refine X.seq (X.region ?_)
 refine XL.as (.int .i64 (-1)) rfl ?_
 refine XL.nil ?_
 refine X.ret (retEnd (L' := L) [.int .i64 (-1)] (.int .i64 (-1)) (.tmp rfl .nil) rfl rF rF sR ?_)
 exact ⟨(vI (foundI_none (fun i hi => hall i (by omega)))), rfl, rfl⟩

/- impl.found -/
theorem found_spec {F : FH} {L : List HP} {alv : Value} {al : List FoundT} {alcs : List Value} (hal : FoundsF F alv al alcs) {uv : Value} {u : List Int} (hu : IntsF F uv u) (hlt : al.length ≤ 4000000) (hlu : u.length ≤ 4000000) :
    Does prog 167 [alv, uv] F (L) (fun v F' L' => (.int .i64 (foundI al u) : Value) = v ∧ F = F' ∧ L = L') := by
 refine Does.of_X func167 rfl rfl rfl ?_
 refine X.seq (X.region ?_)
 refine cX (XOp.box [uv] rfl (cells_one (IntsF.isSl hu)) ?_)
 intro b1
 refine XL.as (.int .i64 (0)) rfl ?_
 refine XL.nil (X.seq (X.region ?_))
 refine XL.mv (alv) rfl ?_
 refine cX (XOp.makeFuncL [] [ptr b1 0] rfl rfl ?_)
 refine XL.freeze [] _ _ rfl (fun F1 le1 hz1 => ?_)
 replace hal := hal.mono le1
 replace hu := hu.mono le1
 have hf1 : FzC F1 b1 [uv] := Fz.cells hz1
 refine cX (XOp.call (args := [alv, .func (.func 215) #[] #[ptr b1 0]]) call214 rfl (IndexFuncFound_spec hal hu hf1 (hlt := (by first | assumption | rfl | omega | simp)) (hlu := (by first | assumption | rfl | omega | simp))) ?_)
 rintro _ _ _ _ ⟨rfl, rfl, rfl⟩
 refine XL.as (.int .i64 (foundI al u)) rfl ?_
 refine XL.nil ?_
 refine X.ret (retEnd (L' := L) [.int .i64 (foundI al u)] (.int .i64 (foundI al u)) (.tmp rfl .nil) rfl rF le1 sR ?_)
 exact ⟨rfl, rfl, rfl⟩

/- impl.reach -/
set_option maxRecDepth 20000 in
theorem reach_spec {F : FH} {L : List HP} {arv : Value} {ar : List Int} (har : IntsF F arv ar) {rsv : Value} {rs : List (List Int × List Int)} (hrs : PairsF F rsv rs) {tv : Value} {t : List Int} (ht : IntsF F tv t) {n : Int} (hsys : sysOk ar rs = true) (ho : termOk ar t = true) (hn20 : 0 ≤ n ∧ n ≤ 20) :
    Does prog 153 [.agg #[arv, rsv], tv, .int .i64 (n)] F (L) (fun v F' L' => ∃ (a : Value) (acs : List Value) (Ls : List HP), (.tuple #[a, .bool (reachL ar rs t n).2] : Value) = v ∧ FoundsF F' a (reachL ar rs t n).1 acs ∧ DeepL 6 (FoundO 2) acs (reachL ar rs t n).1 Ls ∧ Fresh F F' (star Ls) ∧ L = L') := by
 refine Does.of_X func153 rfl rfl rfl ?_
 have hnn := notNil_of_pos ht (by have := termOk_len ho; omega)
 have htl := termOk_len ho
 have hrl := (sysOk_iff.1 hsys).2.1
 have hsig := (sysOk_iff.1 hsys).1
 have hsl := sigOk_spec hsig
 refine X.seq (X.region ?_)
 refine cX (XOp.box [arv, rsv] rfl rfl ?_)
 intro b1
 refine XL.as ((.slice none 0 0)) rfl ?_
 refine XL.as (.bool (false)) rfl ?_
 refine XL.nil (X.seq (X.region ?_))
 refine XL.mv (tv) rfl ?_
 refine cX (XOp.frzF <| XOp.call (args := [tv]) call111 rfl (Clone_spec ht (hlt := (by first | assumption | rfl | omega | simp))) ?_)
 rintro v1 _ _ _ ⟨rfl, hs1, rfl⟩
 refine ⟨_, _, rfl, fun F1 le1 hz1 => ?_⟩
 replace har := har.mono le1
 replace hrs := hrs.mono le1
 have hf1 : IntsF F1 v1 ((t)) := intsH.fz (xs := (t)) hz1.fz
 skip
 refine cX (XOp.build [v1, .int .i64 (-1), .int .i64 (0), .int .i64 (0), (.slice none 0 0), .int .i64 (0)] [(.slice none 0 0), .int .i64 (0), .int .i64 (0), .int .i64 (0), (.slice none 0 0), .int .i64 (0)] [(0, 1), (1, 1), (2, 3), (5, 1)] [(0, [v1]), (1, [.int .i64 (-1)])] runUnderlying183 zeroValue183 rfl (.cons rfl sizeOf22 (.cons rfl sizeOf3 (.cons rfl sizeOf116 (.cons rfl sizeOf2 PlacesAre.nil)))) rfl (.cons (cells_one (IntsF.isSl hf1)) (.cons rfl CellsAre.nil)) ?_)
 refine cX (XOp.buildSlice (s := 6) [v1, .int .i64 (-1), .int .i64 (0), .int .i64 (0), (.slice none 0 0), .int .i64 (0)] [(.slice none 0 0), .int .i64 (0), .int .i64 (0), .int .i64 (0), (.slice none 0 0), .int .i64 (0)] [(0, [v1, .int .i64 (-1), .int .i64 (0), .int .i64 (0), (.slice none 0 0), .int .i64 (0)])] runUnderlying179 sizeOf183 zeroValue183 rfl (by decide) rfl (.cons rfl CellsAre.nil) rfl ?_)
 intro v2 hv1
 refine XL.as (v2) rfl ?_
 refine XL.nil (X.seq (X.seq (X.region ?_)))
 refine XL.as (.int .i64 (0)) rfl ?_
 refine XL.nil (X.block ?_)
 have hc1 : FoundsC F1 [v1, .int .i64 (-1), .int .i64 (0), .int .i64 (0), (.slice none 0 0), .int .i64 (0)] ([((t), -1, (0, 0, []), 0)] : List FoundT) := (FoundsC.snoc (CO.nil : FoundsC F1 [] []) (y0 := (t)) (y1 := -1) (y2 := 0) (y3 := 0) (y4 := []) (y5 := 0) hf1 IntsF.nilV)
 refine X.loop (α := Nat × Value × List FoundT × List Value × List HP × Nat × FH) (fun xQ => [(2, .int .i64 (n)), (3, ptr b1 0), (8, xQ.2.1), (9, .int .i64 (((xQ.1 : Nat) : Int)))]) (fun xQ => slH 183 6 xQ.2.1 xQ.2.2.2.2.2.1 xQ.2.2.2.1 :: cellsH b1 [arv, rsv] 37 :: L) (fun xQ F' => xQ.2.2.2.2.2.2 = F' ∧ F1 ≤ xQ.2.2.2.2.2.2 ∧ (IsSl xQ.2.1) ∧ (FoundsC xQ.2.2.2.2.2.2 xQ.2.2.2.1 xQ.2.2.1) ∧ (xQ.2.2.2.2.2.1 = xQ.2.2.1.length) ∧ (DeepL 6 (FoundO 2) xQ.2.2.2.1 xQ.2.2.1 xQ.2.2.2.2.1) ∧ (Fresh F xQ.2.2.2.2.2.2 (star xQ.2.2.2.2.1)) ∧ (xQ.1 ≤ xQ.2.2.1.length) ∧ (xQ.2.2.1.length ≤ 60) ∧ (AllOk ar xQ.2.2.1) ∧ (DeepOk n xQ.2.2.1) ∧ (reachL ar rs t n = reachGo ar rs n (60 - xQ.1) xQ.1 xQ.2.2.1)) (fun xQ => 60 - xQ.1) (0, v2, ([((t), -1, (0, 0, []), 0)] : List FoundT), [v1, .int .i64 (-1), .int .i64 (0), .int .i64 (0), (.slice none 0 0), .int .i64 (0)], [intsH 2 v1 t], 1, F1) ⟨rfl, rfl, rfl, rfl, trivial⟩ (sC (sC sR)) ⟨rfl, FLe.refl _, ((isSl_lit hv1)), (hc1), (rfl), ((DeepL.snoc .nil rfl ⟨_, _, rfl, rfl⟩ : DeepL 6 (FoundO 2) ([] ++ _) ([] ++ _) ([] ++ _))), ((Fresh.one hz1)), (by simp), (by simp), (AllOk.start ho), (DeepOk.start hn20.1), (rfl)⟩ ?_
 rintro ⟨k, ov, os, ocs, Ts, on, G1⟩ rE _ _ ⟨rfl, leG, hov, hC, hn, hD, hZ, hk, hl, hok, hdo, hgo⟩
 show X _ _ _ _ (envs [(2, .int .i64 (n)), (3, ptr b1 0), (8, ov), (9, .int .i64 ((k : Int)))] rE) _ (slH 183 6 ov on ocs :: cellsH b1 [arv, rsv] 37 :: L)
 replace leG : F1 ≤ G1 := leG
 dsimp only at hov hC hn hD hZ hk hl hok hdo hgo
 have hdk : k < os.length → termOk ar (os.getD k ([], 0, (0, 0, []), 0)).1 = true := fun h => hok k h
 have hdl : k < os.length → 1 ≤ (os.getD k ([], 0, (0, 0, []), 0)).1.length ∧ (os.getD k ([], 0, (0, 0, []), 0)).1.length ≤ 60 := fun h => termOk_len (hok k h)
 have leG1 := leG
 replace har := har.mono leG1
 replace hrs := hrs.mono leG1
 refine X.seq (X.seq (X.region ?_))
 refine XL.mv (.int .i64 ((k : Int))) rfl ?_
 refine XL.mv (ov) rfl ?_
 refine cX (XOp.lenS (v := ov) (n := on) runUnderlying179 rfl (SlV.own [] rfl) ?_)
 refine cX (XOp.lss (a := (k : Int)) (b := ((on : Nat) : Int)) rfl rfl ?_)
 refine XL.nil ?_
 refine X.condD (p := (k : Int) < ((on : Nat) : Int)) rfl (fun h1 => ?_) (fun h1 => ?_)
 ·refine X.skip (X.seq (X.block (X.seq (X.seq (X.region ?_)))))
  refine XL.mv (ov) rfl ?_
  refine XL.mv (.int .i64 ((k : Int))) rfl ?_
  refine cX (XOp.indexS (v := ov) (i := (k : Int)) (n := on) k runUnderlying179 sizeOf183 rfl rfl rfl (SlV.own [] rfl) (by omega) rfl ?_)
  refine cX (XOp.fieldE (v := ov) (k * 6 + 5) runUnderlying183 rfl sizeOf2 (by decide) rfl rfl ?_)
  obtain ⟨a1, a2, ha1, ha2, hq1⟩ := hC.get (i := k) (by omega)
  refine cX (XOp.load1 (v := .int .i64 ((os.getD k ([], 0, (0, 0, []), 0)).2.2.2)) isAgg2 rfl (Rd.sl [] rfl (hq1 5 _ rfl)) ?_)
  refine XL.mv (.int .i64 (n)) rfl ?_
  refine cX (XOp.eql (a := (os.getD k ([], 0, (0, 0, []), 0)).2.2.2) (b := n) rfl rfl ?_)
  refine XL.nil ?_
  refine X.condD (p := ((os.getD k ([], 0, (0, 0, []), 0)).2.2.2 : Int) = n) rfl (fun h2 => ?_) (fun h2 => ?_)
  ·have hdeep : (EL os k).2.2.2 = n := h2
   refine X.exit (thenQ_exit (blockQ_exit ?_))
   refine X.region ?_
   refine XL.mv (.int .i64 ((k : Int))) rfl ?_
   refine cX (XOp.addR (a := (k : Int)) (b := 1) (((k + 1 : Nat) : Int)) rfl rfl (by omega) (by omega) ?_)
   refine XL.as (.int .i64 (((k + 1 : Nat) : Int))) rfl ?_
   refine XL.nil ?_
   exact ⟨(k + 1, ov, os, ocs, Ts, on, G1), _, leG1, rF, ⟨rfl, rfl, rfl, rfl, trivial⟩, (sC (sC sR)), ⟨rfl, leG1, (hov), (hC), (hn), (hD), (hZ), (by (try dsimp only) <;> omega), (by (try dsimp only) <;> omega), (hok), (hdo), (by (try dsimp only); exact hgo.trans (reach_same (f := 60 - k - 1) (by omega) (by omega) hdeep))⟩, (by (try dsimp only); omega)⟩
  have hdeep : (EL os k).2.2.2 ≠ n := h2
  refine X.skip (X.seq ?_)
  refine X.drawG [slH 183 6 ov on ocs, cellsH b1 [arv, rsv] 37] L 11 [[], [], [], [], [], [], [], [6], [6], [], [6]] [[], [], [], [1, 2], [3], [4], [0, 5], [6], [6, 7], [6, 7], [6, 8]] [[], [], [], [], [], [], [], [], [], [], []] (phiG [fun FF us v => v = (.agg #[arv, rsv] : Value), fun FF us v => v = ov, fun FF us v => v = (.int .i64 ((k : Int)) : Value), fun FF us v => v = (.pointer (some (elemA ov (k * 6))) : Value), fun FF us v => v = (.pointer (some (elemA ov (k * 6))) : Value), fun FF us v => v = a1, fun FF us v => (.tuple #[((tupAt v 0)), .bool (longL ar rs ((os.getD k ([], 0, (0, 0, []), 0)).1))] : Value) = v ∧ (FrStepsF G1 FF 2 ((tupAt v 0)) (stepsL ar rs ((os.getD k ([], 0, (0, 0, []), 0)).1))), fun FF us v => v = (.tuple #[((tupAt (us.getD 0 undef) 0)), .bool (longL ar rs ((os.getD k ([], 0, (0, 0, []), 0)).1))] : Value), fun FF us v => v = ((tupAt (us.getD 0 undef) 0)), fun FF us v => v = (.bool (longL ar rs ((os.getD k ([], 0, (0, 0, []), 0)).1)) : Value), fun FF us v => v = ((tupAt (us.getD 0 undef) 0))]) (ownL [fun us v => [], fun us v => [], fun us v => [], fun us v => [], fun us v => [], fun us v => [], fun us v => [], fun us v => [], fun us v => [], fun us v => [], fun us v => []]) mixed rfl rfl (by kernel_rfl) (by kernel_rfl) (MonoG.get (mC (fun le h => h) (mC (fun le h => h) (mC (fun le h => h) (mC (fun le h => h) (mC (fun le h => h) (mC (fun le h => h) (mC (fun le h => ⟨h.1, h.2.mono le⟩) (mC (fun le h => h) (mC (fun le h => h) (mC (fun le h => h) (mC (fun le h => h) MonoG.nil)))))))))))) ?_ ?_
  ·refine gC (fun vals Fs R leFs hpZ => ?_) ?_
   ·replace har := har.mono leFs
    replace hrs := hrs.mono leFs
    replace hC := hC.mono leFs
    replace ha1 := ha1.mono leFs
    refine XG.op (XOp.loadN [arv, rsv] isAgg37 sizeOf37 rfl rfl (Rd.ownN [_] rfl rfl) ?_)
    exact ⟨rfl, rfl⟩
   refine gC (fun vals Fs R leFs hpZ => ?_) ?_
   ·refine XG.op (XOp.move (ov) rfl ?_)
    exact ⟨rfl, rfl⟩
   refine gC (fun vals Fs R leFs hpZ => ?_) ?_
   ·refine XG.op (XOp.move (.int .i64 ((k : Int))) rfl ?_)
    exact ⟨rfl, rfl⟩
   refine gC (fun vals Fs R leFs hpZ => ?_) ?_
   ·replace har := har.mono leFs
    replace hrs := hrs.mono leFs
    replace hC := hC.mono leFs
    replace ha1 := ha1.mono leFs
    rw [eS (l := [(1, ov), (2, (.int .i64 ((k : Int)) : Value))]) ⟨(hpZ 1 (by decide)), (hpZ 2 (by decide)), trivial⟩]
    refine XG.op (XOp.indexS (v := ov) (i := (k : Int)) (n := on) k runUnderlying179 sizeOf183 rfl rfl rfl (SlV.own [] rfl) (by omega) rfl ?_)
    exact ⟨rfl, rfl⟩
   refine gC (fun vals Fs R leFs hpZ => ?_) ?_
   ·rw [eS (l := [(3, (.pointer (some (elemA ov (k * 6))) : Value))]) ⟨(hpZ 3 (by decide)), trivial⟩]
    refine XG.op (XOp.fieldE (v := ov) (k * 6) runUnderlying183 rfl sizeOf22 (by decide) rfl rfl ?_)
    exact ⟨rfl, rfl⟩
   refine gC (fun vals Fs R leFs hpZ => ?_) ?_
   ·replace har := har.mono leFs
    replace hrs := hrs.mono leFs
    replace hC := hC.mono leFs
    replace ha1 := ha1.mono leFs
    rw [eS (l := [(4, (.pointer (some (elemA ov (k * 6))) : Value))]) ⟨(hpZ 4 (by decide)), trivial⟩]
    refine XG.op (XOp.load1 (v := a1) isAgg22 rfl (Rd.sl [] rfl (hq1 0 _ rfl)) ?_)
    exact ⟨rfl, rfl⟩
   refine gC (fun vals Fs R leFs hpZ => ?_) ?_
   ·replace har := har.mono leFs
    replace hrs := hrs.mono leFs
    replace hC := hC.mono leFs
    replace ha1 := ha1.mono leFs
    rw [eS (l := [(0, (.agg #[arv, rsv] : Value)), (5, a1)]) ⟨(hpZ 0 (by decide)), (hpZ 5 (by decide)), trivial⟩]
    refine XG.op (XOp.call (args := [.agg #[arv, rsv], a1]) call154 rfl (stepsFrom_spec har hrs ha1 (hsys := (hsys)) (ho := (hdk (by omega)))) ?_)
    rintro _ F3 _ le3 ⟨x2, rfl, hx2, rfl⟩
    replace hC := hC.mono le3
    exact ⟨⟨rfl, (hx2.base leFs)⟩, rfl⟩
   refine gC (fun vals Fs R leFs hpZ => ?_) ?_
   ·obtain ⟨e6, f6_1hx⟩ := hpZ 6 (by decide)
    rw [eS (l := [(6, (.tuple #[((tupAt (vals 6) 0)), .bool (longL ar rs ((os.getD k ([], 0, (0, 0, []), 0)).1))] : Value))]) ⟨(e6).symm, trivial⟩]
    refine XG.op (XOp.move (.tuple #[((tupAt (vals 6) 0)), .bool (longL ar rs ((os.getD k ([], 0, (0, 0, []), 0)).1))]) rfl ?_)
    exact ⟨rfl, rfl⟩
   refine gC (fun vals Fs R leFs hpZ => ?_) ?_
   ·obtain ⟨e6, f6_1hx⟩ := hpZ 6 (by decide)
    have e7 : vals 7 = (.tuple #[((tupAt (vals 6) 0)), .bool (longL ar rs ((os.getD k ([], 0, (0, 0, []), 0)).1))] : Value) := hpZ 7 (by decide)
    rw [eS (l := [(6, (.tuple #[((tupAt (vals 6) 0)), .bool (longL ar rs ((os.getD k ([], 0, (0, 0, []), 0)).1))] : Value)), (7, (.tuple #[((tupAt (vals 6) 0)), .bool (longL ar rs ((os.getD k ([], 0, (0, 0, []), 0)).1))] : Value))]) ⟨(e6).symm, e7, trivial⟩]
    refine XG.op (XOp.extract (((tupAt (vals 6) 0))) rfl rfl ?_)
    exact ⟨rfl, rfl⟩
   refine gC (fun vals Fs R leFs hpZ => ?_) ?_
   ·obtain ⟨e6, f6_1hx⟩ := hpZ 6 (by decide)
    have e7 : vals 7 = (.tuple #[((tupAt (vals 6) 0)), .bool (longL ar rs ((os.getD k ([], 0, (0, 0, []), 0)).1))] : Value) := hpZ 7 (by decide)
    rw [eS (l := [(6, (.tuple #[((tupAt (vals 6) 0)), .bool (longL ar rs ((os.getD k ([], 0, (0, 0, []), 0)).1))] : Value)), (7, (.tuple #[((tupAt (vals 6) 0)), .bool (longL ar rs ((os.getD k ([], 0, (0, 0, []), 0)).1))] : Value))]) ⟨(e6).symm, e7, trivial⟩]
    refine XG.op (XOp.extract (.bool (longL ar rs ((os.getD k ([], 0, (0, 0, []), 0)).1))) rfl rfl ?_)
    exact ⟨rfl, rfl⟩
   refine gC (fun vals Fs R leFs hpZ => ?_) ?_
   ·obtain ⟨e6, f6_1hx⟩ := hpZ 6 (by decide)
    have e8 : vals 8 = ((tupAt (vals 6) 0)) := hpZ 8 (by decide)
    rw [eS (l := [(6, (.tuple #[((tupAt (vals 6) 0)), .bool (longL ar rs ((os.getD k ([], 0, (0, 0, []), 0)).1))] : Value)), (8, ((tupAt (vals 6) 0)))]) ⟨(e6).symm, e8, trivial⟩]
    refine XG.op (XOp.assign (((tupAt (vals 6) 0))) rfl ?_)
    exact ⟨rfl, rfl⟩
   exact stepsG.nil
  intro vals F4 le4 hphi
  obtain ⟨e6, f6_1hx⟩ := hphi 6 (by decide)
  have e7 : vals 7 = (.tuple #[((tupAt (vals 6) 0)), .bool (longL ar rs ((os.getD k ([], 0, (0, 0, []), 0)).1))] : Value) := hphi 7 (by decide)
  have e8 : vals 8 = ((tupAt (vals 6) 0)) := hphi 8 (by decide)
  have e10 : vals 10 = ((tupAt (vals 6) 0)) := hphi 10 (by decide)
  generalize hu1 : ((tupAt (vals 6) 0)) = u1 at e6 f6_1hx e7 e8 e10
  rw [eS (l := [(6, (.tuple #[u1, .bool (longL ar rs ((os.getD k ([], 0, (0, 0, []), 0)).1))] : Value)), (9, (.bool (longL ar rs ((os.getD k ([], 0, (0, 0, []), 0)).1)) : Value)), (10, u1)]) ⟨(e6).symm, (hphi 9 (by decide)), e10, trivial⟩]
  replace hC := hC.mono le4
  show XL _ _ _ _ _ _ _ (slH 183 6 ov on ocs :: cellsH b1 [arv, rsv] 37 :: L)
  refine XL.as (.bool (longL ar rs ((os.getD k ([], 0, (0, 0, []), 0)).1))) rfl ?_
  refine XL.nil (X.seq (X.region ?_))
  obtain ⟨cso1, Lso1, hXo1, hDo1, hZo1⟩ := f6_1hx
  skip
  refine XL.mv (u1) rfl ?_
  refine cX (XOp.lenS (v := u1) (n := ((stepsL ar rs ((os.getD k ([], 0, (0, 0, []), 0)).1))).length) runUnderlying55 rfl hXo1.slv ?_)
  refine XL.mv (.int .i64 (0)) rfl ?_
  refine XL.nil (X.block ?_)
  refine X.loop (α := Nat × Value × List FoundT × List Value × List HP × Nat × FH) (fun xQ => [(2, .int .i64 (n)), (3, ptr b1 0), (8, xQ.2.1), (9, .int .i64 ((k : Int))), (41, u1), (42, .int .i64 (((((stepsL ar rs ((os.getD k ([], 0, (0, 0, []), 0)).1))).length : Nat) : Int))), (43, .int .i64 (((xQ.1 : Nat) : Int)))]) (fun xQ => slH 183 6 xQ.2.1 xQ.2.2.2.2.2.1 xQ.2.2.2.1 :: cellsH b1 [arv, rsv] 37 :: L) (fun xQ F' => xQ.2.2.2.2.2.2 = F' ∧ F4 ≤ xQ.2.2.2.2.2.2 ∧ (IsSl xQ.2.1) ∧ (FoundsC xQ.2.2.2.2.2.2 xQ.2.2.2.1 xQ.2.2.1) ∧ (xQ.2.2.2.2.2.1 = xQ.2.2.1.length) ∧ (DeepL 6 (FoundO 2) xQ.2.2.2.1 xQ.2.2.1 xQ.2.2.2.2.1) ∧ (Fresh F xQ.2.2.2.2.2.2 (star (xQ.2.2.2.2.1 ++ Lso1.drop xQ.1))) ∧ (xQ.1 ≤ (stepsL ar rs (os.getD k ([], 0, (0, 0, []), 0)).1).length) ∧ (xQ.2.2.1.length ≤ 60) ∧ (AllOk ar xQ.2.2.1) ∧ (DeepOk n xQ.2.2.1) ∧ (k < xQ.2.2.1.length) ∧ (EL xQ.2.2.1 k = EL os k) ∧ (addGo (k : Int) (EL os k).2.2.2 (stepsL ar rs (os.getD k ([], 0, (0, 0, []), 0)).1) os = addGo (k : Int) (EL os k).2.2.2 ((stepsL ar rs (os.getD k ([], 0, (0, 0, []), 0)).1).drop xQ.1) xQ.2.2.1)) (fun xQ => (stepsL ar rs (os.getD k ([], 0, (0, 0, []), 0)).1).length - xQ.1) (0, ov, os, ocs, Ts, on, F4) ⟨rfl, rfl, rfl, rfl, rfl, rfl, rfl, trivial⟩ (sC (sC sR)) ⟨rfl, FLe.refl _, (hov), (hC), (hn), (hD), ((Fresh.app hZ (FLe.trans le1 leG1) hZo1 le4)), (by (try dsimp only) <;> omega), (hl), (hok), (hdo), (by dsimp only; omega), (rfl), (rfl)⟩ ?_
  rintro ⟨q, pv, ps, pcs, Us, pn, G2⟩ rE _ _ ⟨rfl, leG, hpv, hCi, hni, hDi, hZi, hq, hli, hoki, hdi, hkp, hel, hgoi⟩
  show X _ _ _ _ (envs [(2, .int .i64 (n)), (3, ptr b1 0), (8, pv), (9, .int .i64 ((k : Int))), (41, u1), (42, .int .i64 (((((stepsL ar rs ((os.getD k ([], 0, (0, 0, []), 0)).1))).length : Nat) : Int))), (43, .int .i64 ((q : Int)))] rE) _ (slH 183 6 pv pn pcs :: cellsH b1 [arv, rsv] 37 :: L)
  replace leG : F4 ≤ G2 := leG
  dsimp only at hpv hCi hni hDi hZi hq hli hoki hdi hkp hel hgoi
  have hnl : (stepsL ar rs (os.getD k ([], 0, (0, 0, []), 0)).1).length ≤ 1000 := by have h9 := stepsTo_len (ar := ar) (t := (os.getD k ([], 0, (0, 0, []), 0)).1) (rs := rs) hrl (os.getD k ([], 0, (0, 0, []), 0)).1.length; have h8 := hdl (by omega); show (stepsTo ar rs (os.getD k ([], 0, (0, 0, []), 0)).1 (os.getD k ([], 0, (0, 0, []), 0)).1.length).length ≤ 1000; omega
  have hsok : q < (stepsL ar rs (os.getD k ([], 0, (0, 0, []), 0)).1).length → 1 ≤ ((stepsL ar rs (os.getD k ([], 0, (0, 0, []), 0)).1).getD q (0, 0, [])).2.2.length ∧ ((stepsL ar rs (os.getD k ([], 0, (0, 0, []), 0)).1).getD q (0, 0, [])).2.2.length ≤ 60 := fun h => termOk_len (steps_ok hsys (hdk (by omega)) h)
  have hdn : 0 ≤ (ps.getD k ([], 0, (0, 0, []), 0)).2.2.2 ∧ (ps.getD k ([], 0, (0, 0, []), 0)).2.2.2 ≤ 1000 := by have h8 : (EL ps k).2.2.2 = (EL os k).2.2.2 := (by rw [hel]); have h9 := hdo k (by omega); have h7 : (ps.getD k ([], 0, (0, 0, []), 0)).2.2.2 = (EL ps k).2.2.2 := rfl; omega
  have leG2 := leG
  replace hC := hC.mono leG2
  replace hXo1 := hXo1.mono leG2
  refine X.seq (X.region ?_)
  refine cX (XOp.lss (a := (q : Int)) (b := ((((stepsL ar rs ((os.getD k ([], 0, (0, 0, []), 0)).1))).length : Nat) : Int)) rfl rfl ?_)
  refine XL.nil (X.seq ?_)
  refine X.condD (p := (q : Int) < ((((stepsL ar rs ((os.getD k ([], 0, (0, 0, []), 0)).1))).length : Nat) : Int)) rfl (fun h3 => ?_) (fun h3 => ?_)
  ·refine X.skip (X.seq (X.block (X.seq (X.region ?_))))
   refine cX (XOp.indexS (v := u1) (i := (q : Int)) (n := ((stepsL ar rs ((os.getD k ([], 0, (0, 0, []), 0)).1))).length) q runUnderlying55 sizeOf116 rfl rfl rfl hXo1.slv (by omega) rfl ?_)
   obtain ⟨a3, ha3, hr1, hr2, hr3, hq2⟩ := hXo1.rd (i := q) (by omega)
   refine cX (XOp.loadN [.int .i64 ((((stepsL ar rs ((os.getD k ([], 0, (0, 0, []), 0)).1))).getD q (0, 0, [])).1), .int .i64 ((((stepsL ar rs ((os.getD k ([], 0, (0, 0, []), 0)).1))).getD q (0, 0, [])).2.1), a3] isAgg116 sizeOf116 rfl rfl (Rd.three (hr1 _) (hr2 _) (hr3 _)) ?_)
   refine cX (XOp.alloc [.int .i64 (0), .int .i64 (0), (.slice none 0 0)] zeroValue116 rfl ?_)
   intro b2
   refine cX (XOp.storeN (vs := [.int .i64 ((((stepsL ar rs ((os.getD k ([], 0, (0, 0, []), 0)).1))).getD q (0, 0, [])).1), .int .i64 ((((stepsL ar rs ((os.getD k ([], 0, (0, 0, []), 0)).1))).getD q (0, 0, [])).2.1), a3]) [] _ [.int .i64 ((((stepsL ar rs ((os.getD k ([], 0, (0, 0, []), 0)).1))).getD q (0, 0, [])).1), .int .i64 ((((stepsL ar rs ((os.getD k ([], 0, (0, 0, []), 0)).1))).getD q (0, 0, [])).2.1), a3] sizeOf116 rfl rfl rfl (ones_cons rfl (ones_cons rfl (ones_cons (one_sl (IntsF.isSl ha3)) ones_nil))) rfl rfl rfl ?_)
   refine XL.nil (X.seq (X.seq (X.region ?_)))
   refine XL.mv (pv) rfl ?_
   refine cX (XOp.fieldP (b := b2) (2) runUnderlying116 rfl sizeOf22 (by decide) rfl rfl ?_)
   refine cX (XOp.load1 (v := a3) isAgg22 rfl (Rd.own [] rfl rfl) ?_)
   refine cX (XOp.lend [_] _ _ rfl (fun F5 le5 hz2 => ?_))
   have hf2 : FoundsF _ pv ps pcs := (FoundsC.fz (FoundsC.mono hCi (FLe.trans le5 rF)) (by first | rfl | assumption | omega | (rw [List.length_append]; simp only [List.length_singleton]; omega)) hz2 : FoundsF _ pv ps pcs)
   refine id (XOp.call (args := [pv, a3]) call167 rfl (found_spec hf2 ((ha3.mono le5)) (hlt := (by omega)) (hlu := (by have := hsok (by omega); omega))) ?_)
   rintro _ _ _ _ ⟨rfl, rfl, rfl⟩
   show XL _ _ _ _ _ _ _ (slH 183 6 pv pn pcs :: cellsH b2 [.int .i64 ((((stepsL ar rs ((os.getD k ([], 0, (0, 0, []), 0)).1))).getD q (0, 0, [])).1), .int .i64 ((((stepsL ar rs ((os.getD k ([], 0, (0, 0, []), 0)).1))).getD q (0, 0, [])).2.1), a3] 116 :: cellsH b1 [arv, rsv] 37 :: L)
   refine cX (XOp.geq (a := foundI ps ((((stepsL ar rs ((os.getD k ([], 0, (0, 0, []), 0)).1))).getD q (0, 0, [])).2.2)) (b := 0) rfl rfl ?_)
   refine XL.nil ?_
   refine X.condD (p := (foundI ps ((((stepsL ar rs ((os.getD k ([], 0, (0, 0, []), 0)).1))).getD q (0, 0, [])).2.2) : Int) ≥ 0) rfl (fun h4 => ?_) (fun h4 => ?_)
   ·have hin : isIn ps ((stepsL ar rs (os.getD k ([], 0, (0, 0, []), 0)).1).getD q (0, 0, [])).2.2 = true := foundI_iff.1 h4
    refine X.exit (thenQ_exit (blockQ_exit ?_))
    refine X.region ?_
    refine cX (XOp.addR (a := (q : Int)) (b := 1) (((q + 1 : Nat) : Int)) rfl rfl (by omega) (by omega) ?_)
    refine XL.mv (.int .i64 (((q + 1 : Nat) : Int))) rfl ?_
    refine XL.nil ?_
    exact ⟨(q + 1, pv, ps, pcs, Us, pn, G2), _, leG2, rF, ⟨rfl, rfl, rfl, rfl, rfl, rfl, rfl, trivial⟩, (sC (sD (sC sR))), ⟨rfl, leG2, (hpv), (hCi), (hni), (hDi), ((Fresh.skipLeaf hZi ((hDo1.leaves).2 q a3 (by omega) hq2))), (by (try dsimp only) <;> omega), (by (try dsimp only) <;> omega), (hoki), (hdi), (by (try dsimp only) <;> omega), (hel), (by (try dsimp only); exact hgoi.trans (add_in (by omega) hin))⟩, (by omega)⟩
   have hnin : isIn ps ((stepsL ar rs (os.getD k ([], 0, (0, 0, []), 0)).1).getD q (0, 0, [])).2.2 = false := by rw [Bool.eq_false_iff]; exact fun h9 => h4 (foundI_iff.2 h9)
   refine X.skip (X.seq (X.seq (X.region ?_)))
   refine XL.mv (pv) rfl ?_
   refine cX (XOp.lenS (v := pv) (n := pn) runUnderlying179 rfl (SlV.own [] rfl) ?_)
   refine cX (XOp.eql (a := ((pn : Nat) : Int)) (b := 60) rfl rfl ?_)
   refine XL.nil ?_
   refine X.condD (p := (((pn : Nat) : Int) : Int) = 60) rfl (fun h5 => ?_) (fun h5 => ?_)
   ·refine X.seq (X.region ?_)
    refine XL.mv (pv) rfl ?_
    refine XL.as (pv) rfl ?_
    refine XL.as (.bool (false)) rfl ?_
    refine XL.nil ?_
    refine X.freezeF [] _ _ rfl (fun F6 le6 hz3 => ?_)
    replace hC := hC.mono le6
    replace hCi := hCi.mono le6
    replace ha3 := ha3.mono le6
    have hf3 : FoundsF F6 pv ps pcs := FoundsC.fz hCi (by first | rfl | simp | omega) hz3.fz
    refine X.ret (thenQ_ret (blockQ_ret (thenQ_ret (thenQ_ret (blockQ_ret (blockQ_ret (thenQ_ret (thenQ_ret (blockQ_ret (thenQ_ret (retEnd (L' := L) [pv, .bool (false)] (.tuple #[pv, .bool (false)]) (.tmp rfl (.tmp rfl .nil)) rfl (FLe.trans (FLe.trans (FLe.trans (FLe.trans le1 leG1) le4) leG2) le6) rF (sD (sD sR)) ?_)))))))))))
    have h9 := hgoi.trans (add_full (by omega) hnin (by omega))
    have h8 := reach_stop (ar := ar) (rs := rs) (n := n) (f := 60 - k - 1) (show k < os.length by omega) (by omega) hdeep (by rw [h9])
    have e9 : reachL ar rs t n = (ps, false) := (hgo.trans h8).trans h9
    rw [e9]
    exact ⟨_, _, _, rfl, hf3, hDi, ((Fresh.noMore hZi).mono le6), rfl⟩
   refine X.skip ?_
   obtain ⟨a4, a5, ha4, ha5, hq3⟩ := hCi.get (i := k) (by omega)
   refine X.draw [slH 183 6 pv pn pcs, cellsH b2 [.int .i64 ((((stepsL ar rs ((os.getD k ([], 0, (0, 0, []), 0)).1))).getD q (0, 0, [])).1), .int .i64 ((((stepsL ar rs ((os.getD k ([], 0, (0, 0, []), 0)).1))).getD q (0, 0, [])).2.1), a3] 116, cellsH b1 [arv, rsv] 37] L 13 [[], [], [], [], [], [], [], [], [], [], [], [], []] [[], [], [1], [], [], [], [], [5, 6], [7], [8], [9], [2, 3, 4, 10], [11]] (phiL [fun us v => v = pv, fun us v => v = ptr b2 2, fun us v => v = a3, fun us v => v = (.int .i64 ((k : Int)) : Value), fun us v => v = (.agg #[.int .i64 ((((stepsL ar rs ((os.getD k ([], 0, (0, 0, []), 0)).1))).getD q (0, 0, [])).1), .int .i64 ((((stepsL ar rs ((os.getD k ([], 0, (0, 0, []), 0)).1))).getD q (0, 0, [])).2.1), a3] : Value), fun us v => v = pv, fun us v => v = (.int .i64 ((k : Int)) : Value), fun us v => v = (.pointer (some (elemA pv (k * 6))) : Value), fun us v => v = (.pointer (some (elemA pv (k * 6 + 5))) : Value), fun us v => v = (.int .i64 ((ps.getD k ([], 0, (0, 0, []), 0)).2.2.2) : Value), fun us v => v = (.int .i64 (((ps.getD k ([], 0, (0, 0, []), 0)).2.2.2) + 1) : Value), fun us v => v = (.agg #[a3, .int .i64 ((k : Int)), .int .i64 ((((stepsL ar rs ((os.getD k ([], 0, (0, 0, []), 0)).1))).getD q (0, 0, [])).1), .int .i64 ((((stepsL ar rs ((os.getD k ([], 0, (0, 0, []), 0)).1))).getD q (0, 0, [])).2.1), a3, .int .i64 (((ps.getD k ([], 0, (0, 0, []), 0)).2.2.2) + 1)] : Value), fun us v => ∃ b, v = .slice (some ⟨b, 0, none⟩) 1 1]) (ownL [fun us v => [], fun us v => [], fun us v => [], fun us v => [], fun us v => [], fun us v => [], fun us v => [], fun us v => [], fun us v => [], fun us v => [], fun us v => [], fun us v => [], fun us v => [slH 183 6 v 1 [a3, .int .i64 ((k : Int)), .int .i64 ((((stepsL ar rs ((os.getD k ([], 0, (0, 0, []), 0)).1))).getD q (0, 0, [])).1), .int .i64 ((((stepsL ar rs ((os.getD k ([], 0, (0, 0, []), 0)).1))).getD q (0, 0, [])).2.1), a3, .int .i64 (((ps.getD k ([], 0, (0, 0, []), 0)).2.2.2) + 1)]]]) mixed rfl rfl (by kernel_rfl) ?_ ?_
   ·refine pC (fun vals R hpZ => ?_) ?_
    ·refine XG.op (XOp.move (pv) rfl ?_)
     exact ⟨rfl, rfl, rfl⟩
    refine pC (fun vals R hpZ => ?_) ?_
    ·refine XG.op (XOp.fieldP (b := b2) (2) runUnderlying116 rfl sizeOf22 (by decide) rfl rfl ?_)
     exact ⟨rfl, rfl, rfl⟩
    refine pC (fun vals R hpZ => ?_) ?_
    ·rw [eS (l := [(1, ptr b2 2)]) ⟨hpZ 1 (by decide), trivial⟩]
     refine XG.op (XOp.load1 (v := a3) isAgg22 rfl (Rd.own [_] rfl rfl) ?_)
     exact ⟨rfl, rfl, rfl⟩
    refine pC (fun vals R hpZ => ?_) ?_
    ·refine XG.op (XOp.move (.int .i64 ((k : Int))) rfl ?_)
     exact ⟨rfl, rfl, rfl⟩
    refine pC (fun vals R hpZ => ?_) ?_
    ·refine XG.op (XOp.loadN [.int .i64 ((((stepsL ar rs ((os.getD k ([], 0, (0, 0, []), 0)).1))).getD q (0, 0, [])).1), .int .i64 ((((stepsL ar rs ((os.getD k ([], 0, (0, 0, []), 0)).1))).getD q (0, 0, [])).2.1), a3] isAgg116 sizeOf116 rfl rfl (Rd.ownN [_] rfl rfl) ?_)
     exact ⟨rfl, rfl, rfl⟩
    refine pC (fun vals R hpZ => ?_) ?_
    ·refine XG.op (XOp.move (pv) rfl ?_)
     exact ⟨rfl, rfl, rfl⟩
    refine pC (fun vals R hpZ => ?_) ?_
    ·refine XG.op (XOp.move (.int .i64 ((k : Int))) rfl ?_)
     exact ⟨rfl, rfl, rfl⟩
    refine pC (fun vals R hpZ => ?_) ?_
    ·rw [eS (l := [(5, pv), (6, (.int .i64 ((k : Int)) : Value))]) ⟨hpZ 5 (by decide), hpZ 6 (by decide), trivial⟩]
     refine XG.op (XOp.indexS (v := pv) (i := (k : Int)) (n := pn) k runUnderlying179 sizeOf183 rfl rfl rfl (SlV.own [] rfl) (by omega) rfl ?_)
     exact ⟨rfl, rfl, rfl⟩
    refine pC (fun vals R hpZ => ?_) ?_
    ·rw [eS (l := [(7, (.pointer (some (elemA pv (k * 6))) : Value))]) ⟨hpZ 7 (by decide), trivial⟩]
     refine XG.op (XOp.fieldE (v := pv) (k * 6 + 5) runUnderlying183 rfl sizeOf2 (by decide) rfl rfl ?_)
     exact ⟨rfl, rfl, rfl⟩
    refine pC (fun vals R hpZ => ?_) ?_
    ·rw [eS (l := [(8, (.pointer (some (elemA pv (k * 6 + 5))) : Value))]) ⟨hpZ 8 (by decide), trivial⟩]
     refine XG.op (XOp.load1 (v := .int .i64 ((ps.getD k ([], 0, (0, 0, []), 0)).2.2.2)) isAgg2 rfl (Rd.sl [] rfl (hq3 5 _ rfl)) ?_)
     exact ⟨rfl, rfl, rfl⟩
    refine pC (fun vals R hpZ => ?_) ?_
    ·rw [eS (l := [(9, (.int .i64 ((ps.getD k ([], 0, (0, 0, []), 0)).2.2.2) : Value))]) ⟨hpZ 9 (by decide), trivial⟩]
     refine XG.op (XOp.addR (a := (ps.getD k ([], 0, (0, 0, []), 0)).2.2.2) (b := 1) (((ps.getD k ([], 0, (0, 0, []), 0)).2.2.2) + 1) rfl rfl (by omega) (by omega) ?_)
     exact ⟨rfl, rfl, rfl⟩
    refine pC (fun vals R hpZ => ?_) ?_
    ·rw [eS (l := [(2, a3), (3, (.int .i64 ((k : Int)) : Value)), (4, (.agg #[.int .i64 ((((stepsL ar rs ((os.getD k ([], 0, (0, 0, []), 0)).1))).getD q (0, 0, [])).1), .int .i64 ((((stepsL ar rs ((os.getD k ([], 0, (0, 0, []), 0)).1))).getD q (0, 0, [])).2.1), a3] : Value)), (10, (.int .i64 (((ps.getD k ([], 0, (0, 0, []), 0)).2.2.2) + 1) : Value))]) ⟨hpZ 2 (by decide), hpZ 3 (by decide), hpZ 4 (by decide), hpZ 10 (by decide), trivial⟩]
     refine XG.op (XOp.build [a3, .int .i64 ((k : Int)), .int .i64 ((((stepsL ar rs ((os.getD k ([], 0, (0, 0, []), 0)).1))).getD q (0, 0, [])).1), .int .i64 ((((stepsL ar rs ((os.getD k ([], 0, (0, 0, []), 0)).1))).getD q (0, 0, [])).2.1), a3, .int .i64 (((ps.getD k ([], 0, (0, 0, []), 0)).2.2.2) + 1)] [(.slice none 0 0), .int .i64 (0), .int .i64 (0), .int .i64 (0), (.slice none 0 0), .int .i64 (0)] [(0, 1), (1, 1), (2, 3), (5, 1)] [(0, [a3]), (1, [.int .i64 ((k : Int))]), (2, [.int .i64 ((((stepsL ar rs ((os.getD k ([], 0, (0, 0, []), 0)).1))).getD q (0, 0, [])).1), .int .i64 ((((stepsL ar rs ((os.getD k ([], 0, (0, 0, []), 0)).1))).getD q (0, 0, [])).2.1), a3]), (3, [.int .i64 (((ps.getD k ([], 0, (0, 0, []), 0)).2.2.2) + 1)])] runUnderlying183 zeroValue183 rfl (.cons rfl sizeOf22 (.cons rfl sizeOf3 (.cons rfl sizeOf116 (.cons rfl sizeOf2 PlacesAre.nil)))) rfl (.cons (cells_one (IntsF.isSl ha3)) (.cons rfl (.cons rfl (.cons rfl CellsAre.nil)))) ?_)
     exact ⟨rfl, rfl, rfl⟩
    refine pC (fun vals R hpZ => ?_) ?_
    ·rw [eS (l := [(11, (.agg #[a3, .int .i64 ((k : Int)), .int .i64 ((((stepsL ar rs ((os.getD k ([], 0, (0, 0, []), 0)).1))).getD q (0, 0, [])).1), .int .i64 ((((stepsL ar rs ((os.getD k ([], 0, (0, 0, []), 0)).1))).getD q (0, 0, [])).2.1), a3, .int .i64 (((ps.getD k ([], 0, (0, 0, []), 0)).2.2.2) + 1)] : Value))]) ⟨hpZ 11 (by decide), trivial⟩]
     refine XG.op (XOp.buildSlice (s := 6) [a3, .int .i64 ((k : Int)), .int .i64 ((((stepsL ar rs ((os.getD k ([], 0, (0, 0, []), 0)).1))).getD q (0, 0, [])).1), .int .i64 ((((stepsL ar rs ((os.getD k ([], 0, (0, 0, []), 0)).1))).getD q (0, 0, [])).2.1), a3, .int .i64 (((ps.getD k ([], 0, (0, 0, []), 0)).2.2.2) + 1)] [(.slice none 0 0), .int .i64 (0), .int .i64 (0), .int .i64 (0), (.slice none 0 0), .int .i64 (0)] [(0, [a3, .int .i64 ((k : Int)), .int .i64 ((((stepsL ar rs ((os.getD k ([], 0, (0, 0, []), 0)).1))).getD q (0, 0, [])).1), .int .i64 ((((stepsL ar rs ((os.getD k ([], 0, (0, 0, []), 0)).1))).getD q (0, 0, [])).2.1), a3, .int .i64 (((ps.getD k ([], 0, (0, 0, []), 0)).2.2.2) + 1)])] runUnderlying179 sizeOf183 zeroValue183 rfl (by decide) rfl (.cons rfl CellsAre.nil) rfl ?_)
     intro v4 hv3
     exact ⟨rfl, hv3, rfl⟩
    exact stepsP.nil
   intro vals hphi
   have f12 : ∃ b, (vals 12) = .slice (some ⟨b, 0, none⟩) 1 1 := hphi 12 (by decide)
   generalize hu12 : vals 12 = u2 at f12
   rw [eS (l := [(0, pv), (12, u2)]) ⟨(hphi 0 (by decide)), hu12, trivial⟩]
   show XL _ _ _ _ _ _ _ (slH 183 6 u2 1 [a3, .int .i64 ((k : Int)), .int .i64 ((((stepsL ar rs ((os.getD k ([], 0, (0, 0, []), 0)).1))).getD q (0, 0, [])).1), .int .i64 ((((stepsL ar rs ((os.getD k ([], 0, (0, 0, []), 0)).1))).getD q (0, 0, [])).2.1), a3, .int .i64 (((ps.getD k ([], 0, (0, 0, []), 0)).2.2.2) + 1)] :: slH 183 6 pv pn pcs :: cellsH b2 [.int .i64 ((((stepsL ar rs ((os.getD k ([], 0, (0, 0, []), 0)).1))).getD q (0, 0, [])).1), .int .i64 ((((stepsL ar rs ((os.getD k ([], 0, (0, 0, []), 0)).1))).getD q (0, 0, [])).2.1), a3] 116 :: cellsH b1 [arv, rsv] 37 :: L)
   refine cX (XOp.append (m := 1) (bytes := 80) (cs := pcs) [_] _ [a3, .int .i64 ((k : Int)), .int .i64 ((((stepsL ar rs ((os.getD k ([], 0, (0, 0, []), 0)).1))).getD q (0, 0, [])).1), .int .i64 ((((stepsL ar rs ((os.getD k ([], 0, (0, 0, []), 0)).1))).getD q (0, 0, [])).2.1), a3, .int .i64 (((ps.getD k ([], 0, (0, 0, []), 0)).2.2.2) + 1)] runUnderlying179 typeInfo183 rfl rfl rfl rfl rfl rfl rfl (SlV.own [] rfl) rfl (Rd.lit [] rfl) (ones_cons (one_sl (IntsF.isSl ha3)) (ones_cons rfl (ones_cons rfl (ones_cons rfl (ones_cons (one_sl (IntsF.isSl ha3)) (ones_cons rfl ones_nil)))))) (by (try simp only [List.length_append, List.length_nil, List.length_cons, List.length_singleton]); omega) (by (try simp only [List.length_append, List.length_nil, List.length_cons, List.length_singleton]); omega) ?_)
   intro v5 hs2 hn1 hm1
   have hc2 := FoundsC.snoc hCi (y0 := (((stepsL ar rs ((os.getD k ([], 0, (0, 0, []), 0)).1))).getD q (0, 0, [])).2.2) (y1 := (k : Int)) (y2 := (((stepsL ar rs ((os.getD k ([], 0, (0, 0, []), 0)).1))).getD q (0, 0, [])).1) (y3 := (((stepsL ar rs ((os.getD k ([], 0, (0, 0, []), 0)).1))).getD q (0, 0, [])).2.1) (y4 := (((stepsL ar rs ((os.getD k ([], 0, (0, 0, []), 0)).1))).getD q (0, 0, [])).2.2) (y5 := ((ps.getD k ([], 0, (0, 0, []), 0)).2.2.2) + 1) ha3 ha3
   refine XL.as (v5) rfl ?_
   refine XL.nil (X.region ?_)
   refine cX (XOp.addR (a := (q : Int)) (b := 1) (((q + 1 : Nat) : Int)) rfl rfl (by omega) (by omega) ?_)
   refine XL.mv (.int .i64 (((q + 1 : Nat) : Int))) rfl ?_
   refine XL.nil ?_
   exact ⟨(q + 1, v5, ps ++ [((((stepsL ar rs ((os.getD k ([], 0, (0, 0, []), 0)).1))).getD q (0, 0, [])).2.2, (k : Int), ((((stepsL ar rs ((os.getD k ([], 0, (0, 0, []), 0)).1))).getD q (0, 0, [])).1, (((stepsL ar rs ((os.getD k ([], 0, (0, 0, []), 0)).1))).getD q (0, 0, [])).2.1, (((stepsL ar rs ((os.getD k ([], 0, (0, 0, []), 0)).1))).getD q (0, 0, [])).2.2), ((ps.getD k ([], 0, (0, 0, []), 0)).2.2.2) + 1)], pcs ++ [a3, .int .i64 ((k : Int)), .int .i64 ((((stepsL ar rs ((os.getD k ([], 0, (0, 0, []), 0)).1))).getD q (0, 0, [])).1), .int .i64 ((((stepsL ar rs ((os.getD k ([], 0, (0, 0, []), 0)).1))).getD q (0, 0, [])).2.1), a3, .int .i64 (((ps.getD k ([], 0, (0, 0, []), 0)).2.2.2) + 1)], Us ++ [intsH 2 a3 ((stepsL ar rs (os.getD k ([], 0, (0, 0, []), 0)).1).getD q (0, 0, [])).2.2], (pn) + 1, G2), _, leG2, rF, ⟨rfl, rfl, rfl, rfl, rfl, rfl, rfl, trivial⟩, (sD (sC (sD (sC sR)))), ⟨rfl, leG2, (hs2), (hc2), (by (try dsimp only); rw [List.length_append, List.length_singleton]; omega), (DeepL.snoc hDi rfl ⟨_, _, rfl, rfl⟩), ((Fresh.keepLeaf hZi ((hDo1.leaves).2 q a3 (by omega) hq2))), (by (try dsimp only) <;> omega), (by (try dsimp only); rw [List.length_append, List.length_singleton]; omega), (hoki.snoc (steps_ok hsys (hdk (by omega)) (by omega))), (hdi.snoc (by have h9 := hdo k (by omega); have h8 : (EL ps k).2.2.2 = (EL os k).2.2.2 := (by rw [hel]); have h7 : (EL ps k).2.2.2 = (ps.getD k ([], 0, (0, 0, []), 0)).2.2.2 := rfl; have h6 : (EL os k).2.2.2 = (os.getD k ([], 0, (0, 0, []), 0)).2.2.2 := rfl; dsimp only; omega)), (by (try dsimp only); rw [List.length_append, List.length_singleton]; omega), (by (try dsimp only); rw [EL_snoc (by omega)]; exact hel), (by (try dsimp only); rw [show (ps.getD k ([], 0, (0, 0, []), 0)) = EL os k from hel]; exact hgoi.trans (add_new (by omega) hnin (by omega)))⟩, (by omega)⟩
  refine X.exit (thenQ_exit (thenQ_exit (blockQ_exit ?_)))
  refine X.region ?_
  refine XL.mv (.int .i64 ((k : Int))) rfl ?_
  refine cX (XOp.addR (a := (k : Int)) (b := 1) (((k + 1 : Nat) : Int)) rfl rfl (by omega) (by omega) ?_)
  refine XL.as (.int .i64 (((k + 1 : Nat) : Int))) rfl ?_
  refine XL.nil ?_
  exact ⟨(k + 1, pv, ps, pcs, Us, pn, G2), _, (FLe.trans (FLe.trans leG1 le4) leG2), rF, ⟨rfl, rfl, rfl, rfl, trivial⟩, (sC (sC sR)), ⟨rfl, (FLe.trans (FLe.trans leG1 le4) leG2), (hpv), (hCi), (hni), (hDi), ((Fresh.noMore hZi)), (by (try dsimp only); omega), (by (try dsimp only) <;> omega), (hoki), (hdi), (by (try dsimp only); have h9 := hgoi.trans (add_end (by omega)); have h8 := reach_more (ar := ar) (rs := rs) (n := n) (f := 60 - k - 1) (show k < os.length by omega) (by omega) hdeep (by rw [h9]); rw [h9] at h8; exact hgo.trans h8)⟩, (by (try dsimp only); omega)⟩
 refine X.exit (thenQ_exit (thenQ_exit (blockQ_exit ?_)))
 refine X.seq (X.region ?_)
 refine XL.mv (ov) rfl ?_
 refine XL.as (ov) rfl ?_
 refine XL.as (.bool (true)) rfl ?_
 refine XL.nil ?_
 refine X.freezeF [] _ _ rfl (fun F7 le7 hz4 => ?_)
 replace hC := hC.mono le7
 have hf4 : FoundsF F7 ov os ocs := FoundsC.fz hC (by first | rfl | simp | omega) hz4.fz
 refine X.ret (retEnd (L' := L) [ov, .bool (true)] (.tuple #[ov, .bool (true)]) (.tmp rfl (.tmp rfl .nil)) rfl (FLe.trans (FLe.trans le1 leG1) le7) rF (sD sR) ?_)
 have e9 : reachL ar rs t n = (os, true) := hgo.trans (reach_done (by omega) hl)
 rw [e9]
 exact ⟨_, _, _, rfl, hf4, hD, (hZ.mono le7), rfl⟩
end Go.Proofs.YtiaanelimbmniaaGreat
set_option linter.unusedSimpArgs false
set_option linter.unusedVariables false
namespace Go.Proofs.YtiaanelimbmniaaGreat
open Go X M Tryz

/- (*impl.Walk).add -/
theorem walkAdd_spec {F : FH} {L : List HP} {b m : Nat} {fv sv tov : Value} {ss : List StepT} {cs : List Value} {i j : Int} {to : List Int} (hto : IntsF F tov to) (hsv : IsSl sv) (hC : StepsC F cs ss) (hm : m = ss.length) (hsb : ss.length ≤ 4000000) (hlt : to.length ≤ 4000000) :
    Does prog 160 [ptr b 0, .agg #[.int .i64 (i), .int .i64 (j), tov]] F (cellsH b [fv, sv] 57 :: slH 116 3 sv m cs :: L) (fun v F' L' => ∃ (sw cw : Value), IsSl sw ∧ IntsF F' cw to ∧ Fresh F F' (intsH 2 cw to) ∧ cellsH b [fv, sw] 57 :: slH 116 3 sw (m + 1) (cs ++ [.int .i64 i, .int .i64 j, cw]) :: L = L') := by
 refine Does.of_X func160 rfl rfl rfl ?_
 refine X.seq (X.region ?_)
 refine cX (XOp.box [.int .i64 (i), .int .i64 (j), tov] rfl rfl ?_)
 intro b1
 refine XL.nil ?_
 refine X.weaken (Sub.front (A := [_, _])) ?_
 show X _ _ _ _ _ _ (slH 116 3 sv m cs :: cellsH b1 [.int .i64 (i), .int .i64 (j), tov] 116 :: cellsH b [fv, sv] 57 :: L)
 refine X.drawH [cellsH b1 [.int .i64 (i), .int .i64 (j), tov] 116, cellsH b [fv, sv] 57] L 15 [[], [], [], [], [], [], [], [], [], [], [], [], [11], [11], [11, 13]] [[], [], [1], [2], [3], [], [5], [], [7], [], [9], [10], [6, 8, 11], [11, 12], [4, 11, 13]] [[], [], [], [], [], [], [], [], [], [], [], [], [], [], [13]] (phiG [fun FF us v => v = ptr b 0, fun FF us v => v = ptr b 0, fun FF us v => v = ptr b 0, fun FF us v => v = ptr b 1, fun FF us v => v = sv, fun FF us v => v = ptr b1 0, fun FF us v => v = (.int .i64 (i) : Value), fun FF us v => v = ptr b1 1, fun FF us v => v = (.int .i64 (j) : Value), fun FF us v => v = ptr b1 2, fun FF us v => v = tov, fun FF us v => ((v) : Value) = v ∧ (IntsF FF (v) (to)) ∧ (FrIntsF F FF 2 (v) (to)), fun FF us v => v = (.agg #[.int .i64 (i), .int .i64 (j), ((us.getD 0 undef))] : Value), fun FF us v => ∃ b, v = .slice (some ⟨b, 0, none⟩) 1 1, fun FF us v => IsSl v]) (ownL [fun us v => [], fun us v => [], fun us v => [], fun us v => [], fun us v => [], fun us v => [], fun us v => [], fun us v => [], fun us v => [], fun us v => [], fun us v => [], fun us v => [], fun us v => [], fun us v => [slH 116 3 v 1 [.int .i64 (i), .int .i64 (j), ((us.getD 0 undef))]], fun us v => [slH 116 3 (us.getD 1 undef) 1 [.int .i64 (i), .int .i64 (j), ((us.getD 0 undef))], slH 116 3 (v) ((m) + 1) (cs ++ [.int .i64 (i), .int .i64 (j), ((us.getD 0 undef))])]]) (fun i => ([[], [], [], [], [], [], [], [], [], [], [], [], [], [], [slH 116 3 sv m cs]] : List (List HP)).getD i []) mixed rfl rfl (by kernel_rfl) (by kernel_rfl) (MonoG.get (mC (fun le h => h) (mC (fun le h => h) (mC (fun le h => h) (mC (fun le h => h) (mC (fun le h => h) (mC (fun le h => h) (mC (fun le h => h) (mC (fun le h => h) (mC (fun le h => h) (mC (fun le h => h) (mC (fun le h => h) (mC (fun le h => ⟨h.1, h.2.1.mono le, h.2.2.mono le⟩) (mC (fun le h => h) (mC (fun le h => h) (mC (fun le h => h) MonoG.nil)))))))))))))))) ?_ ?_
 ·refine stepsT.cons (fun vals Fs R leFs hpZ => ?_) ?_
  ·refine XG.op (XOp.move (ptr b 0) rfl ?_)
   exact ⟨rfl, rfl⟩
  refine stepsT.cons (fun vals Fs R leFs hpZ => ?_) ?_
  ·refine XG.op (XOp.move (ptr b 0) rfl ?_)
   exact ⟨rfl, rfl⟩
  refine stepsT.cons (fun vals Fs R leFs hpZ => ?_) ?_
  ·replace hto := hto.mono leFs
   replace hC := hC.mono leFs
   rw [eS (l := [(1, ptr b 0)]) ⟨(hpZ 1 (by decide)), trivial⟩]
   refine XG.op (XOp.nilCheck (a := ⟨b, 0, none⟩) rfl ?_)
   exact ⟨rfl, rfl⟩
  refine stepsT.cons (fun vals Fs R leFs hpZ => ?_) ?_
  ·rw [eS (l := [(2, ptr b 0)]) ⟨(hpZ 2 (by decide)), trivial⟩]
   refine XG.op (XOp.fieldP (b := b) (1) runUnderlying57 rfl sizeOf55 (by decide) rfl rfl ?_)
   exact ⟨rfl, rfl⟩
  refine stepsT.cons (fun vals Fs R leFs hpZ => ?_) ?_
  ·replace hto := hto.mono leFs
   replace hC := hC.mono leFs
   rw [eS (l := [(3, ptr b 1)]) ⟨(hpZ 3 (by decide)), trivial⟩]
   refine XG.op (XOp.load1 (v := sv) isAgg55 rfl (Rd.own [_] rfl rfl) ?_)
   exact ⟨rfl, rfl⟩
  refine stepsT.cons (fun vals Fs R leFs hpZ => ?_) ?_
  ·refine XG.op (XOp.fieldP (b := b1) (0) runUnderlying116 rfl sizeOf2 (by decide) rfl rfl ?_)
   exact ⟨rfl, rfl⟩
  refine stepsT.cons (fun vals Fs R leFs hpZ => ?_) ?_
  ·replace hto := hto.mono leFs
   replace hC := hC.mono leFs
   rw [eS (l := [(5, ptr b1 0)]) ⟨(hpZ 5 (by decide)), trivial⟩]
   refine XG.op (XOp.load1 (v := .int .i64 (i)) isAgg2 rfl (Rd.own [] rfl rfl) ?_)
   exact ⟨rfl, rfl⟩
  refine stepsT.cons (fun vals Fs R leFs hpZ => ?_) ?_
  ·refine XG.op (XOp.fieldP (b := b1) (1) runUnderlying116 rfl sizeOf2 (by decide) rfl rfl ?_)
   exact ⟨rfl, rfl⟩
  refine stepsT.cons (fun vals Fs R leFs hpZ => ?_) ?_
  ·replace hto := hto.mono leFs
   replace hC := hC.mono leFs
   rw [eS (l := [(7, ptr b1 1)]) ⟨(hpZ 7 (by decide)), trivial⟩]
   refine XG.op (XOp.load1 (v := .int .i64 (j)) isAgg2 rfl (Rd.own [] rfl rfl) ?_)
   exact ⟨rfl, rfl⟩
  refine stepsT.cons (fun vals Fs R leFs hpZ => ?_) ?_
  ·refine XG.op (XOp.fieldP (b := b1) (2) runUnderlying116 rfl sizeOf22 (by decide) rfl rfl ?_)
   exact ⟨rfl, rfl⟩
  refine stepsT.cons (fun vals Fs R leFs hpZ => ?_) ?_
  ·replace hto := hto.mono leFs
   replace hC := hC.mono leFs
   rw [eS (l := [(9, ptr b1 2)]) ⟨(hpZ 9 (by decide)), trivial⟩]
   refine XG.op (XOp.load1 (v := tov) isAgg22 rfl (Rd.own [] rfl rfl) ?_)
   exact ⟨rfl, rfl⟩
  refine stepsT.cons (fun vals Fs R leFs hpZ => ?_) ?_
  ·replace hto := hto.mono leFs
   replace hC := hC.mono leFs
   rw [eS (l := [(10, tov)]) ⟨(hpZ 10 (by decide)), trivial⟩]
   refine XG.op (XOp.frzF <| XOp.call (args := [tov]) call111 rfl (Clone_spec hto (hlt := (by first | assumption | rfl | omega | simp))) ?_)
   rintro v4 _ _ _ ⟨rfl, hs3, rfl⟩
   refine ⟨_, _, rfl, fun F1 le1 hz1 => ?_⟩
   replace hC := hC.mono le1
   have hf1 : IntsF F1 v4 ((to)) := intsH.fz (xs := (to)) hz1.fz
   exact ⟨⟨rfl, hf1, (hz1.base leFs)⟩, rfl⟩
  refine stepsT.cons (fun vals Fs R leFs hpZ => ?_) ?_
  ·obtain ⟨e11, f11_1ha, f11_1hz⟩ := hpZ 11 (by decide)
   replace hC := hC.mono leFs
   rw [eS (l := [(6, (.int .i64 (i) : Value)), (8, (.int .i64 (j) : Value)), (11, ((vals 11)))]) ⟨(hpZ 6 (by decide)), (hpZ 8 (by decide)), (e11).symm, trivial⟩]
   refine XG.op (XOp.build [.int .i64 (i), .int .i64 (j), ((vals 11))] [.int .i64 (0), .int .i64 (0), (.slice none 0 0)] [(0, 1), (1, 1), (2, 1)] [(0, [.int .i64 (i)]), (1, [.int .i64 (j)]), (2, [((vals 11))])] runUnderlying116 zeroValue116 rfl (.cons rfl sizeOf2 (.cons rfl sizeOf2 (.cons rfl sizeOf22 PlacesAre.nil))) rfl (.cons rfl (.cons rfl (.cons (cells_one (IntsF.isSl f11_1ha)) CellsAre.nil))) ?_)
   exact ⟨rfl, rfl⟩
  refine stepsT.cons (fun vals Fs R leFs hpZ => ?_) ?_
  ·obtain ⟨e11, f11_1ha, f11_1hz⟩ := hpZ 11 (by decide)
   have e12 : vals 12 = (.agg #[.int .i64 (i), .int .i64 (j), ((vals 11))] : Value) := hpZ 12 (by decide)
   replace hC := hC.mono leFs
   rw [eS (l := [(11, ((vals 11))), (12, (.agg #[.int .i64 (i), .int .i64 (j), ((vals 11))] : Value))]) ⟨(e11).symm, e12, trivial⟩]
   refine XG.op (XOp.buildSlice (s := 3) [.int .i64 (i), .int .i64 (j), ((vals 11))] [.int .i64 (0), .int .i64 (0), (.slice none 0 0)] [(0, [.int .i64 (i), .int .i64 (j), ((vals 11))])] runUnderlying55 sizeOf116 zeroValue116 rfl (by decide) rfl (.cons rfl CellsAre.nil) rfl ?_)
   intro v5 hv2
   exact ⟨hv2, rfl⟩
  refine stepsT.cons (fun vals Fs R leFs hpZ => ?_) ?_
  ·obtain ⟨e11, f11_1ha, f11_1hz⟩ := hpZ 11 (by decide)
   have f13 : ∃ b, (vals 13) = .slice (some ⟨b, 0, none⟩) 1 1 := hpZ 13 (by decide)
   replace hC := hC.mono leFs
   rw [eS (l := [(4, sv), (11, ((vals 11)))]) ⟨(hpZ 4 (by decide)), (e11).symm, trivial⟩]
   show XG _ _ _ _ _ (slH 116 3 (vals 13) 1 [.int .i64 (i), .int .i64 (j), ((vals 11))] :: slH 116 3 sv m cs :: ([cellsH b1 [.int .i64 (i), .int .i64 (j), tov] 116, cellsH b [fv, sv] 57] ++ R)) _
   refine XG.op (XOp.append (m := 1) (bytes := 40) (cs := cs) [_] _ [.int .i64 (i), .int .i64 (j), ((vals 11))] runUnderlying55 typeInfo116 rfl rfl rfl rfl rfl rfl rfl (SlV.own [] rfl) rfl (Rd.lit [] rfl) (ones_cons rfl (ones_cons rfl (ones_cons (one_sl (IntsF.isSl f11_1ha)) ones_nil))) (by (try simp only [List.length_append, List.length_nil, List.length_cons, List.length_singleton]); omega) (by (try simp only [List.length_append, List.length_nil, List.length_cons, List.length_singleton]); omega) ?_)
   intro v6 hs4 hn2 hm2
   have hc2 := StepsC.snoc hC (i := i) (j := j) f11_1ha
   exact ⟨hs4, rfl⟩
  exact stepsT.nil
 intro vals F2 le2 hphi
 obtain ⟨e11, f11_1ha, f11_1hz⟩ := hphi 11 (by decide)
 have e12 : vals 12 = (.agg #[.int .i64 (i), .int .i64 (j), ((vals 11))] : Value) := hphi 12 (by decide)
 have f13 : ∃ b, (vals 13) = .slice (some ⟨b, 0, none⟩) 1 1 := hphi 13 (by decide)
 have f14 : IsSl (vals 14) := hphi 14 (by decide)
 generalize hu1 : ((vals 11)) = u1 at e11 f11_1ha f11_1hz e12 f13 f14
 generalize hu13 : vals 13 = u2 at e11 f11_1ha f11_1hz e12 f13 f14
 generalize hu14 : vals 14 = u3 at e11 f11_1ha f11_1hz e12 f13 f14
 rw [eS (l := [(0, ptr b 0), (11, u1), (13, u2), (14, u3)]) ⟨(hphi 0 (by decide)), hu1, hu13, hu14, trivial⟩]
 replace hC := hC.mono le2
 have hc3 := StepsC.snoc hC (i := i) (j := j) f11_1ha
 show XL _ _ _ _ _ _ _ (slH 116 3 u2 1 [.int .i64 (i), .int .i64 (j), u1] :: slH 116 3 u3 ((m) + 1) (cs ++ [.int .i64 (i), .int .i64 (j), u1]) :: cellsH b1 [.int .i64 (i), .int .i64 (j), tov] 116 :: cellsH b [fv, sv] 57 :: L)
 skip
 refine cX (XOp.nilCheck (a := ⟨b, 0, none⟩) rfl ?_)
 refine cX (XOp.fieldP (b := b) (1) runUnderlying57 rfl sizeOf55 (by decide) rfl rfl ?_)
 refine cX (XOp.store1 (v := u3) [_, _, _] _ [fv, u3] sizeOf55 rfl rfl (one_sl f14) rfl rfl rfl ?_)
 refine XL.nil ?_
 refine id (retEndN (L' := cellsH b [fv, u3] 57 :: slH 116 3 u3 ((m) + 1) (cs ++ [.int .i64 (i), .int .i64 (j), u1]) :: L) [] (.tuple #[]) (by exact .nil) rfl le2 rF (Sub.trans (Sub.front (A := [_])) (Sub.trans (Sub.front (A := [_, _, _])) (sC (sC (sD (sD sR)))))) ?_)
 exact ⟨_, _, f14, f11_1ha, f11_1hz, rfl⟩

/- slices.Backward[[]impl.Step,impl.Step] -/
theorem backward_spec {F : FH} {L : List HP} {sv : Value} {s : List StepT} (hs : StepsF F sv s) :
    Does prog 206 [sv] F (L) (fun v F' L' => ∃ (bt : Nat), (.func (.func 225) #[] #[ptr bt 0] : Value) = v ∧ FzC F' bt [sv] ∧ L = L') := by
 refine Does.of_X func206 rfl rfl rfl ?_
 refine X.seq (X.region ?_)
 refine cX (XOp.box [sv] rfl (cells_one (StepsF.isSl hs)) ?_)
 intro b1
 refine XL.as (.nilFunc) rfl ?_
 refine XL.nil (X.seq (X.region ?_))
 refine cX (XOp.makeFuncL [] [ptr b1 0] rfl rfl ?_)
 refine XL.as (.func (.func 225) #[] #[ptr b1 0]) rfl ?_
 refine XL.nil ?_
 refine X.freeze [] _ _ rfl (fun F1 le1 hz1 => ?_)
 have hf1 : FzC F1 b1 [sv] := Fz.cells hz1
 refine X.ret (retEnd (L' := L) [.func (.func 225) #[] #[ptr b1 0]] (.func (.func 225) #[] #[ptr b1 0]) (.tmp rfl .nil) rfl le1 rF sR ?_)
 exact ⟨_, rfl, hf1, rfl⟩

/- slices.Backward[[]impl.Step,impl.Step]$1 -/
set_option maxRecDepth 20000 in
theorem backIt_spec {F : FH} {L : List HP} {l bt : Nat} {R : Loop} {sv : Value} {ss : List StepT} (hbt : FzC F bt [sv]) (hs : StepsF F sv ss) (hsl : ss.length ≤ 4000000) {J : Nat → FH → List HP → Prop} (hJ0 : J ss.length F L) (hyes : ∀ (k : Nat) (i : Int) (Fy : FH) (Ly : List HP) (tov : Value), k < ss.length → F ≤ Fy → J (k + 1) Fy Ly → IntsF Fy tov (ss.getD k (0, 0, [])).2.2 → i = (k : Int) → Yld prog l [.int .i64 i, .agg #[.int .i64 (ss.getD k (0, 0, [])).1, .int .i64 (ss.getD k (0, 0, [])).2.1, tov]] Fy (objH l (.loop R) :: Ly) (fun v F' L' => .bool true = v ∧ ∃ L2, J k F' L2 ∧ objH l (.loop R) :: L2 = L')) :
    Does prog 225 [(.func (.yield l) #[] #[]), ptr bt 0] F (objH l (.loop R) :: L) (fun v F' L' => ∃ L2, J 0 F' L2 ∧ objH l (.loop R) :: L2 = L') := by
 refine Does.of_X func225 rfl rfl rfl ?_
 refine X.seq (X.region ?_)
 refine cX (XOp.load1 (v := sv) isAgg55 rfl (FzC.rd1 hbt rfl) ?_)
 refine cX (XOp.lenS (v := sv) (n := (ss).length) runUnderlying55 rfl hs.slv ?_)
 refine cX (XOp.subR (a := (ss.length : Int)) (b := 1) (((ss.length : Int)) - 1) rfl rfl (by omega) (by omega) ?_)
 refine XL.as (.int .i64 (((ss.length : Int)) - 1)) rfl ?_
 refine XL.nil (X.block ?_)
 refine X.loop (α := Nat × List HP × FH) (fun xQ => [(0, (.func (.yield l) #[] #[])), (1, ptr bt 0), (3, .int .i64 ((xQ.1 : Int) - 1))]) (fun xQ => objH l (.loop R) :: xQ.2.1) (fun xQ F' => xQ.2.2 = F' ∧ F ≤ xQ.2.2 ∧ (xQ.1 ≤ ss.length) ∧ (J xQ.1 xQ.2.2 xQ.2.1)) (fun xQ => xQ.1) (ss.length, L, F) ⟨rfl, rfl, rfl, trivial⟩ (sC sR) ⟨rfl, FLe.refl _, (Nat.le_refl _), (hJ0)⟩ ?_
 rintro ⟨j, Lk, G1⟩ rE _ _ ⟨rfl, leG, hj, hJ⟩
 show X _ _ _ _ (envs [(0, (.func (.yield l) #[] #[])), (1, ptr bt 0), (3, .int .i64 ((j : Int) - 1))] rE) _ (objH l (.loop R) :: Lk)
 replace leG : F ≤ G1 := leG
 dsimp only at hj hJ
 have hjl : j - 1 < ss.length ∨ j = 0 := by omega
 have leG1 := leG
 replace hs := hs.mono leG1
 replace hbt := hbt.mono leG1
 refine X.seq (X.seq (X.region ?_))
 refine XL.mv (.int .i64 ((j : Int) - 1)) rfl ?_
 refine cX (XOp.geq (a := (j : Int) - 1) (b := 0) rfl rfl ?_)
 refine XL.nil ?_
 refine X.condD (p := ((j : Int) - 1 : Int) ≥ 0) rfl (fun h1 => ?_) (fun h1 => ?_)
 ·have hj0 : ((j : Int) - 1).toNat = j - 1 := by omega
  have hjk : ((j : Int) - 1) = ((j - 1 : Nat) : Int) := by omega
  refine X.skip (X.seq (X.block (X.seq ?_)))
  refine X.ofI (by kernel_rfl) ?_
  refine XI.region ?_
  refine XIL.cons (XOp.move ((.func (.yield l) #[] #[])) rfl ?_)
  refine XIL.cons (XOp.move (.int .i64 ((j : Int) - 1)) rfl ?_)
  refine XIL.cons (XOp.load1 (v := sv) isAgg55 rfl (FzC.rd1 hbt rfl) ?_)
  refine XIL.cons (XOp.move (.int .i64 ((j : Int) - 1)) rfl ?_)
  refine XIL.cons (XOp.indexS (v := sv) (i := (j : Int) - 1) (n := (ss).length) (((j : Int) - 1).toNat) runUnderlying55 sizeOf116 rfl rfl (by omega) hs.slv (by omega) rfl ?_)
  obtain ⟨a1, ha1, hr1, hr2, hr3⟩ := hs.rd (i := ((j : Int) - 1).toNat) (by omega)
  refine XIL.cons (XOp.loadN [.int .i64 ((ss.getD (((j : Int) - 1).toNat) (0, 0, [])).1), .int .i64 ((ss.getD (((j : Int) - 1).toNat) (0, 0, [])).2.1), a1] isAgg116 sizeOf116 rfl rfl (Rd.three (hr1 _) (hr2 _) (hr3 _)) ?_)
  refine XIL.yield (k := l) (args := [.int .i64 ((j : Int) - 1), .agg #[.int .i64 ((ss.getD (((j : Int) - 1).toNat) (0, 0, [])).1), .int .i64 ((ss.getD (((j : Int) - 1).toNat) (0, 0, [])).2.1), a1]]) rfl (by rfl) ?_
  refine Yld.weaken (sC sR) ?_
  have hJ9 : J ((((j : Int) - 1).toNat) + 1) G1 Lk := by rw [show ((j : Int) - 1).toNat + 1 = j from by omega]; exact hJ
  refine (hyes _ _ _ _ _ (by omega) leG1 hJ9 ha1 (by omega)).mono ?_
  rintro _ F1 _ le1 ⟨rfl, Lj1, hJ1, rfl⟩
  rw [hj0] at hJ1
  show XIL _ _ _ _ _ _ _ _ _ (objH l (.loop R) :: Lj1)
  refine XIL.cons (XOp.notB (b := true) rfl ?_)
  refine XIL.nil ?_
  refine X.condF rfl ?_
  refine X.skip (X.region ?_)
  refine XL.mv (.int .i64 ((j : Int) - 1)) rfl ?_
  refine cX (XOp.subR (a := (j : Int) - 1) (b := 1) (((j : Int) - 1) - 1) rfl rfl (by omega) (by omega) ?_)
  refine XL.as (.int .i64 (((j : Int) - 1) - 1)) rfl ?_
  refine XL.nil ?_
  exact ⟨(j - 1, Lj1, F1), _, (FLe.trans leG1 le1), rF, ⟨rfl, rfl, (vI (by (try dsimp only); omega)), trivial⟩, (sC sR), ⟨rfl, (FLe.trans leG1 le1), (by (try dsimp only) <;> omega), (hJ1)⟩, (by (try dsimp only); omega)⟩
 refine X.exit (thenQ_exit (thenQ_exit (blockQ_exit ?_)))
 refine id (retEndN (L' := objH l (.loop R) :: Lk) [] (.tuple #[]) (by exact .nil) rfl leG1 rF (sC sR) ?_)
 obtain rfl : j = 0 := by omega
 exact ⟨_, hJ, rfl⟩

/- impl.walkBack -/
set_option maxRecDepth 20000 in
theorem walkBack_spec {F : FH} {L : List HP} {alv : Value} {al : List FoundT} {alcs : List Value} (hal : FoundsF F alv al alcs) {k : Nat} (hk : k < al.length) (hll : al.length ≤ 60) (hlk : Link al) (hbd : ∀ i, i < al.length → (EL al i).1.length ≤ 60) :
    Does prog 159 [alv, .int .i64 ((k : Int))] F (L) (fun v F' L' => ∃ (a : Value), ∃ (b : Value), (.agg #[a, b] : Value) = v ∧ (IntsF F' a (EL al 0).1) ∧ (StepsF F' b (walkL al k)) ∧ (Fresh F F' (star [intsH 2 a (EL al 0).1, stepsD 2 116 b (walkL al k)])) ∧ L = L') := by
 refine Does.of_XF func159 rfl (by kernel_rfl) rfl ?_
 have hbd0 : (al.getD 0 ([], 0, (0, 0, []), 0)).1.length ≤ 60 := hbd 0 (by omega)
 refine XF.seq ?_
 refine X.region ?_
 refine cX (XOp.alloc [(.slice none 0 0), (.slice none 0 0)] zeroValue57 rfl ?_)
 intro b1
 refine XL.nil ?_
 refine XF.seq ?_
 refine X.region ?_
 refine XL.mv (alv) rfl ?_
 refine cX (XOp.indexS (v := alv) (i := 0) (n := (al).length) 0 runUnderlying179 sizeOf183 rfl rfl rfl hal.slv (by omega) rfl ?_)
 refine cX (XOp.fieldE (v := alv) (0 * 6) runUnderlying183 rfl sizeOf22 (by decide) rfl rfl ?_)
 obtain ⟨a1, a2, ha1, ha2, hrg1, hq1⟩ := hal.rd (i := 0) (by omega)
 refine cX (XOp.load1 (v := a1) isAgg22 rfl (hrg1 _ 0 _ rfl) ?_)
 refine cX (XOp.frzF <| XOp.call (args := [a1]) call111 rfl (Clone_spec ha1 (hlt := (by first | assumption | rfl | omega | simp))) ?_)
 rintro v1 _ _ _ ⟨rfl, hs1, rfl⟩
 refine ⟨_, _, rfl, fun F1 le1 hz1 => ?_⟩
 replace hal := hal.mono le1
 have hf1 : IntsF F1 v1 ((((al.getD 0 ([], 0, (0, 0, []), 0)).1))) := intsH.fz (xs := (((al.getD 0 ([], 0, (0, 0, []), 0)).1))) hz1.fz
 refine cX (XOp.build [v1, (.slice none 0 0)] [(.slice none 0 0), (.slice none 0 0)] [(0, 1), (1, 1)] [(0, [v1])] runUnderlying57 zeroValue57 rfl (.cons rfl sizeOf22 (.cons rfl sizeOf55 PlacesAre.nil)) rfl (.cons (cells_one (IntsF.isSl hf1)) CellsAre.nil) ?_)
 refine cX (XOp.alloc [(.slice none 0 0), (.slice none 0 0)] zeroValue57 rfl ?_)
 intro b2
 refine cX (XOp.storeN (vs := [v1, (.slice none 0 0)]) [] _ [v1, (.slice none 0 0)] sizeOf57 rfl rfl rfl (ones_cons (one_sl (IntsF.isSl hf1)) (ones_cons rfl ones_nil)) rfl rfl rfl ?_)
 refine XL.nil ?_
 refine XF.seq ?_
 refine X.region ?_
 refine XL.as ((.slice none 0 0)) rfl ?_
 refine XL.nil ?_
 refine XF.seq ?_
 refine X.block ?_
 refine X.loop (α := Nat × Value × List StepT × List Value × Nat) (fun xQ => [(0, alv), (1, .int .i64 (((xQ.1 : Nat) : Int))), (4, ptr b1 0), (5, ptr b2 0), (6, xQ.2.1)]) (fun xQ => slH 116 3 xQ.2.1 xQ.2.2.2.2 xQ.2.2.2.1 :: cellsH b2 [v1, (.slice none 0 0)] 57 :: cellsH b1 [(.slice none 0 0), (.slice none 0 0)] 57 :: L) (fun xQ F' => F1 = F' ∧ (xQ.1 < al.length) ∧ (IsSl xQ.2.1) ∧ (StepsC F1 xQ.2.2.2.1 xQ.2.2.1) ∧ (xQ.2.2.2.2 = xQ.2.2.1.length) ∧ (xQ.2.2.2.2 + xQ.1 ≤ k) ∧ (backL al k = xQ.2.2.1 ++ backL al xQ.1)) (fun xQ => xQ.1) (k, (.slice none 0 0), [], [], 0) ⟨rfl, rfl, rfl, rfl, rfl, trivial⟩ (Sub.trans (Sub.addNil 116 3 _ _) (sC (sC (sC sR)))) ⟨rfl, (hk), (⟨_, _, _, rfl⟩), (CO.nil), (rfl), (by (try dsimp only) <;> omega), (rfl)⟩ ?_
 rintro ⟨j, sv, ss, cs, m⟩ rE _ _ ⟨rfl, hj, hsv, hC, hm, hmj, hbk⟩
 show X _ _ _ _ (envs [(0, alv), (1, .int .i64 ((j : Int))), (4, ptr b1 0), (5, ptr b2 0), (6, sv)] rE) _ (slH 116 3 sv m cs :: cellsH b2 [v1, (.slice none 0 0)] 57 :: cellsH b1 [(.slice none 0 0), (.slice none 0 0)] 57 :: L)
 dsimp only at hj hsv hC hm hmj hbk
 have hlj := fun (h : 0 < j) => hlk.2 j h hj
 have hljx : 0 < j → 0 ≤ (al.getD j ([], 0, (0, 0, []), 0)).2.1 ∧ (al.getD j ([], 0, (0, 0, []), 0)).2.1 < (j : Int) := fun h => ⟨(hlj h).1, (hlj h).2.1⟩
 refine X.seq (X.seq (X.region ?_))
 refine XL.mv (.int .i64 ((j : Int))) rfl ?_
 refine cX (XOp.gtr (a := (j : Int)) (b := 0) rfl rfl ?_)
 refine XL.nil ?_
 refine X.condD (p := (j : Int) > 0) rfl (fun h1 => ?_) (fun h1 => ?_)
 ·refine X.skip (X.seq (X.block (X.region ?_)))
  refine XL.mv (sv) rfl ?_
  refine XL.mv (alv) rfl ?_
  refine XL.mv (.int .i64 ((j : Int))) rfl ?_
  refine cX (XOp.indexS (v := alv) (i := (j : Int)) (n := (al).length) j runUnderlying179 sizeOf183 rfl rfl rfl hal.slv (by omega) rfl ?_)
  refine cX (XOp.fieldE (v := alv) (j * 6 + 2) runUnderlying183 rfl sizeOf116 (by decide) rfl rfl ?_)
  obtain ⟨a3, a4, ha3, ha4, hrg2, hq2⟩ := hal.rd (i := j) (by omega)
  refine cX (XOp.loadN [.int .i64 ((al.getD j ([], 0, (0, 0, []), 0)).2.2.1.1), .int .i64 ((al.getD j ([], 0, (0, 0, []), 0)).2.2.1.2.1), a4] isAgg116 sizeOf116 rfl rfl (Rd.part 2 (hrg2 _) rfl) ?_)
  refine cX (XOp.buildSlice (s := 3) [.int .i64 ((al.getD j ([], 0, (0, 0, []), 0)).2.2.1.1), .int .i64 ((al.getD j ([], 0, (0, 0, []), 0)).2.2.1.2.1), a4] [.int .i64 (0), .int .i64 (0), (.slice none 0 0)] [(0, [.int .i64 ((al.getD j ([], 0, (0, 0, []), 0)).2.2.1.1), .int .i64 ((al.getD j ([], 0, (0, 0, []), 0)).2.2.1.2.1), a4])] runUnderlying55 sizeOf116 zeroValue116 rfl (by decide) rfl (.cons rfl CellsAre.nil) rfl ?_)
  intro v2 hv1
  refine cX (XOp.append (m := 1) (bytes := 40) (cs := cs) [_] _ [.int .i64 ((al.getD j ([], 0, (0, 0, []), 0)).2.2.1.1), .int .i64 ((al.getD j ([], 0, (0, 0, []), 0)).2.2.1.2.1), a4] runUnderlying55 typeInfo116 rfl rfl rfl rfl rfl rfl rfl (SlV.own [] rfl) rfl (Rd.lit [] rfl) (ones_cons rfl (ones_cons rfl (ones_cons (one_sl (IntsF.isSl ha4)) ones_nil))) (by (try simp only [List.length_append, List.length_nil, List.length_cons, List.length_singleton]); omega) (by (try simp only [List.length_append, List.length_nil, List.length_cons, List.length_singleton]); omega) ?_)
  intro v3 hs2 hn1 hm1
  have hc1 := StepsC.snoc hC (i := (al.getD j ([], 0, (0, 0, []), 0)).2.2.1.1) (j := (al.getD j ([], 0, (0, 0, []), 0)).2.2.1.2.1) ha4
  refine XL.as (v3) rfl ?_
  refine XL.nil (X.region ?_)
  refine XL.mv (alv) rfl ?_
  refine XL.mv (.int .i64 ((j : Int))) rfl ?_
  refine cX (XOp.indexS (v := alv) (i := (j : Int)) (n := (al).length) j runUnderlying179 sizeOf183 rfl rfl rfl hal.slv (by omega) rfl ?_)
  refine cX (XOp.fieldE (v := alv) (j * 6 + 1) runUnderlying183 rfl sizeOf3 (by decide) rfl rfl ?_)
  refine cX (XOp.load1 (v := .int .i64 ((al.getD j ([], 0, (0, 0, []), 0)).2.1)) isAgg3 rfl (hrg2 _ 1 _ rfl) ?_)
  refine XL.as (.int .i64 ((al.getD j ([], 0, (0, 0, []), 0)).2.1)) rfl ?_
  refine XL.nil ?_
  exact ⟨((al.getD j ([], 0, (0, 0, []), 0)).2.1.toNat, v3, ss ++ [((al.getD j ([], 0, (0, 0, []), 0)).2.2.1.1, (al.getD j ([], 0, (0, 0, []), 0)).2.2.1.2.1, (al.getD j ([], 0, (0, 0, []), 0)).2.2.1.2.2)], cs ++ [.int .i64 ((al.getD j ([], 0, (0, 0, []), 0)).2.2.1.1), .int .i64 ((al.getD j ([], 0, (0, 0, []), 0)).2.2.1.2.1), a4], (m) + 1), _, FLe.refl _, rF, ⟨rfl, (vI (by have := hljx (by omega); (try dsimp only); omega)), rfl, rfl, rfl, trivial⟩, (sD (sC (sC (sC sR)))), ⟨rfl, (by have := hljx (by omega); (try dsimp only); omega), (hs2), (hc1), (by (try dsimp only); rw [List.length_append, List.length_singleton]; omega), (by have := hljx (by omega); (try dsimp only); omega), (by (try dsimp only); rw [hbk, backL_succ hlk (by omega) hj, List.append_assoc]; rfl)⟩, (by have := hljx (by omega); (try dsimp only); omega)⟩
 refine X.exit (thenQ_exit (thenQ_exit (blockQ_exit ?_)))
 refine XF.ofR ?_
 refine XR.seq ?_
 refine X.region ?_
 skip
 refine XL.mv (sv) rfl ?_
 refine XL.freezeF [] _ _ rfl (fun F2 le2 hz2 => ?_)
 replace hf1 := hf1.mono le2
 replace hC := hC.mono le2
 have hf2 : StepsF F2 sv ss := CO.fz hC (by first | rfl | simp | omega) hz2.fz
 refine cX (XOp.call (args := [sv]) call206 rfl (backward_spec hf2) ?_)
 rintro _ F3 _ le3 ⟨x1, rfl, hb1, rfl⟩
 replace hf1 := hf1.mono le3
 replace hf2 := hf2.mono le3
 refine XL.nil ?_
 refine XR.rangeB (gf := 225) (lb := [ptr x1 0]) rfl call225 (fun l D R hRs hRp hRps hRa hRb hRz hRg => ?_)
 have hR0 : ({ R with state := .ready, pending := none } : Loop) = R := by
  cases R
  simp only at hRs hRp
  subst hRs hRp
  rfl
 have hssb : ss = backL al k := by rw [hbk, show j = 0 from by omega, backL_zero, List.append_nil]
 have htb : ∀ i, i < ss.length → (ss.getD i (0, 0, [])).2.2.length ≤ 60 := fun i hi => by
  obtain ⟨q, hq, he⟩ := backL_mem hlk k k (Nat.le_refl _) hk (ss.getD i (0, 0, [])) (by rw [← hssb]; simp [List.getD, hi])
  rw [he]; exact hbd q hq
 have hyes : ∀ (k : Nat) (i : Int) (Fy : FH) (Ly : List HP) (tov : Value), k < ss.length → F3 ≤ Fy → (WJ F3 2 116 57 b2 v1 ss (objH D (.deferred (some [])) :: cellsH b1 [(.slice none 0 0), (.slice none 0 0)] 57 :: L)) (k + 1) Fy Ly → IntsF Fy tov (ss.getD k (0, 0, [])).2.2 → i = (k : Int) → Yld prog l [.int .i64 i, .agg #[.int .i64 (ss.getD k (0, 0, [])).1, .int .i64 (ss.getD k (0, 0, [])).2.1, tov]] Fy (objH l (.loop R) :: Ly) (fun v F' L' => .bool true = v ∧ ∃ L2, (WJ F3 2 116 57 b2 v1 ss (objH D (.deferred (some [])) :: cellsH b1 [(.slice none 0 0), (.slice none 0 0)] 57 :: L)) k F' L2 ∧ objH l (.loop R) :: L2 = L') := by
  intro k i Fy Ly tov hk9 leF hJ hto hi
  obtain ⟨sv8, ss8, cs8, Ls8, m8, hsv8, hC8, hm8, hDp, hZ, hss8, rfl⟩ := hJ
  have hssl : ss8.length ≤ 60 := by rw [hss8, List.length_reverse, List.length_drop]; omega
  have htob := htb k hk9
  refine Yld.of_round hRs hRp hRps hRa hRb hRz hRg rfl (by kernel_rfl) (by kernel_rfl) (by kernel_rfl) ?_
  refine XI.slots [(32, .int .i64 (i)), (33, .agg #[.int .i64 ((ss.getD k (0, 0, [])).1), .int .i64 ((ss.getD k (0, 0, [])).2.1), tov]), (5, ptr b2 0)] ⟨rfl, rfl, rfl, trivial⟩ (fun rE => ?_)
  refine XI.region ?_
  refine XIL.cons (XOp.alloc [.int .i64 (0), .int .i64 (0), (.slice none 0 0)] zeroValue116 rfl ?_)
  intro b3
  refine XIL.cons (XOp.storeN (vs := [.int .i64 ((ss.getD k (0, 0, [])).1), .int .i64 ((ss.getD k (0, 0, [])).2.1), tov]) [] _ [.int .i64 ((ss.getD k (0, 0, [])).1), .int .i64 ((ss.getD k (0, 0, [])).2.1), tov] sizeOf116 rfl rfl rfl (ones_cons rfl (ones_cons rfl (ones_cons (one_sl (IntsF.isSl hto)) ones_nil))) rfl rfl rfl ?_)
  refine XIL.nil ?_
  refine ⟨cellsH b3 [.int .i64 ((ss.getD k (0, 0, [])).1), .int .i64 ((ss.getD k (0, 0, [])).2.1), tov] 116 :: cellsH b2 [v1, sv8] 57 :: slH 116 3 sv8 m8 cs8 :: objH D (.deferred (some [])) :: cellsH b1 [(.slice none 0 0), (.slice none 0 0)] 57 :: L, (Sub.trans (Sub.front (A := [_, _, _])) (Sub.trans (Sub.front (A := [_, _, _])) (Sub.trans (Sub.front (A := [_, _])) (Sub.trans (Sub.front (A := [_, _, _])) (sC (sC (sC (sC sR)))))))), ?_⟩
  refine XI.block ?_
  refine XI.region ?_
  refine XIL.cons (XOp.loadN [.int .i64 ((ss.getD k (0, 0, [])).1), .int .i64 ((ss.getD k (0, 0, [])).2.1), tov] isAgg116 sizeOf116 rfl rfl (Rd.ownN [_] rfl rfl) ?_)
  refine XIL.weaken (Sub.front (A := [_, _, _])) ?_
  show XIL _ _ _ _ _ _ _ _ _ (slH 116 3 sv8 m8 cs8 :: objH l (.loop { R with state := .busy }) :: cellsH b3 [.int .i64 ((ss.getD k (0, 0, [])).1), .int .i64 ((ss.getD k (0, 0, [])).2.1), tov] 116 :: cellsH b2 [v1, sv8] 57 :: objH D (.deferred (some [])) :: cellsH b1 [(.slice none 0 0), (.slice none 0 0)] 57 :: L)
  refine XIL.weaken (Sub.front (A := [_, _, _])) ?_
  show XIL _ _ _ _ _ _ _ _ _ (cellsH b2 [v1, sv8] 57 :: slH 116 3 sv8 m8 cs8 :: objH l (.loop { R with state := .busy }) :: cellsH b3 [.int .i64 ((ss.getD k (0, 0, [])).1), .int .i64 ((ss.getD k (0, 0, [])).2.1), tov] 116 :: objH D (.deferred (some [])) :: cellsH b1 [(.slice none 0 0), (.slice none 0 0)] 57 :: L)
  refine XIL.cons (XOp.call (args := [ptr b2 0, .agg #[.int .i64 ((ss.getD k (0, 0, [])).1), .int .i64 ((ss.getD k (0, 0, [])).2.1), tov]]) call160 rfl (walkAdd_spec hto hsv8 hC8 (by first | rfl | assumption | omega) (by omega) (by omega)) ?_)
  rintro _ F4 _ le4 ⟨sw1, cw1, hs3, hw1, hf3, rfl⟩
  replace hC8 := hC8.mono le4
  have hc2 := StepsC.snoc hC8 (i := (ss.getD k (0, 0, [])).1) (j := (ss.getD k (0, 0, [])).2.1) hw1
  show XIL _ _ _ _ _ _ _ _ _ (cellsH b2 [v1, sw1] 57 :: slH 116 3 sw1 ((m8) + 1) ((cs8 ++ [.int .i64 ((ss.getD k (0, 0, [])).1), .int .i64 ((ss.getD k (0, 0, [])).2.1), cw1])) :: objH l (.loop { R with state := .busy }) :: cellsH b3 [.int .i64 ((ss.getD k (0, 0, [])).1), .int .i64 ((ss.getD k (0, 0, [])).2.1), tov] 116 :: objH D (.deferred (some [])) :: cellsH b1 [(.slice none 0 0), (.slice none 0 0)] 57 :: L)
  refine XIL.nil ?_
  refine ⟨rfl, ?_⟩
  refine ⟨cellsH b2 [v1, sw1] 57 :: slH 116 3 sw1 ((m8) + 1) ((cs8 ++ [.int .i64 ((ss.getD k (0, 0, [])).1), .int .i64 ((ss.getD k (0, 0, [])).2.1), cw1])) :: objH D (.deferred (some [])) :: cellsH b1 [(.slice none 0 0), (.slice none 0 0)] 57 :: L, (Sub.trans (Sub.front (A := [_])) (Sub.trans (Sub.front (A := [_])) (Sub.trans (Sub.front (A := [_, _])) (sC (sC (sC (sD sR))))))), ?_⟩
  rw [hR0]
  exact ⟨rfl, _, ⟨_, _, _, _, _, hs3, hc2, by rw [List.length_append, List.length_singleton]; omega, DeepL.snoc hDp rfl ⟨_, rfl, rfl⟩, (Fresh.app hZ leF (Fresh.one hf3) le4), by rw [hss8]; exact (drop_rev (0, 0, []) hk9).symm, rfl⟩, rfl⟩
 refine (Does.weaken (Sub.trans (Sub.addNil 116 3 none _) (Sub.trans (Sub.front (A := [_, _, _, _])) (Sub.trans (Sub.front (A := [_, _, _])) (Sub.trans (Sub.front (A := [_, _])) (Sub.trans (Sub.front (A := [_, _, _, _])) (Sub.trans (Sub.front (A := [_, _, _, _])) (sC (sC (sC (sC (sC sR))))))))))) (backIt_spec (J := (WJ F3 2 116 57 b2 v1 ss (objH D (.deferred (some [])) :: cellsH b1 [(.slice none 0 0), (.slice none 0 0)] 57 :: L))) hb1 hf2 (by omega) WJ.start hyes)).mono ?_
 rintro _ F9 _ le9 ⟨L9, ⟨sv9, ss9, cs9, Ls9, m9, hsv9, hC9, hm9, hD9, hZ9, hss9, rfl⟩, rfl⟩
 replace hf1 := hf1.mono le9
 rw [List.drop_zero] at hss9
 refine ⟨R, cellsH b2 [v1, sv9] 57 :: slH 116 3 sv9 m9 cs9 :: cellsH b1 [(.slice none 0 0), (.slice none 0 0)] 57 :: L, by rw [hRs]; simp, hRp, (Sub.trans (Sub.front (A := [_, _, _, _])) (Sub.trans (Sub.front (A := [_, _, _])) (Sub.trans (Sub.front (A := [_, _, _])) (Sub.trans (Sub.front (A := [_, _, _, _])) (Sub.trans (Sub.front (A := [_, _, _, _])) (sC (sC (sC (sC (sC sR)))))))))), ?_⟩
 refine XI.seq ?_
 refine XI.region ?_
 refine XIL.cons (XOp.loadN [v1, sv9] isAgg57 sizeOf57 rfl rfl (Rd.ownN [_] rfl rfl) ?_)
 refine XIL.cons (XOp.storeN (vs := [v1, sv9]) [_, _, _] _ [v1, sv9] sizeOf57 rfl rfl rfl (ones_cons (one_sl (IntsF.isSl hf1)) (ones_cons (one_sl hsv9) ones_nil)) rfl rfl rfl ?_)
 refine XIL.nil ?_
 refine XI.freezeF [_, _] _ _ rfl (fun F5 le5 hz3 => ?_)
 replace hf1 := hf1.mono le5
 replace hC9 := hC9.mono le5
 have hf4 : StepsF F5 sv9 ss9 := CO.fz hC9 (by first | rfl | simp | omega) hz3.fz
 refine XI.ret (retEndC (L' := L) (cellsH b2 [v1, sv9] 57 :: cellsH b1 [v1, sv9] 57 :: L) [.agg #[v1, sv9]] (.agg #[v1, sv9]) (.cell rfl (loadNV [v1, sv9] isAgg57 sizeOf57 rfl (Rd.ownN [_, _] rfl rfl)) .nil) rfl (FLe.trans (FLe.trans (FLe.trans (FLe.trans le1 le2) le3) le9) le5) rF (sC (sC (sC sR))) (sD (sD sR)) ?_)
 have e9 : ss9 = walkL al k := by rw [hss9]; unfold walkL; rw [hbk, show j = 0 from by omega, backL_zero, List.append_nil]
 rw [← e9]
 exact ⟨_, _, rfl, hf1, hf4, (Fresh.app ((Fresh.one hz1).mono (FLe.trans le2 le3)) (FLe.trans (FLe.trans le1 le2) le3) (Fresh.one (Fresh.deep hD9 hZ9 le9 hz3 (by omega) le5)) (FLe.trans le9 le5)), rfl⟩
end Go.Proofs.YtiaanelimbmniaaGreat
set_option linter.unusedSimpArgs false
set_option linter.unusedVariables false
namespace Go.Proofs.YtiaanelimbmniaaGreat
open Go X M Tryz

/- impl.join -/
set_option maxRecDepth 20000 in
theorem join0_spec {F : FH} {L : List HP} {arv : Value} {ar : List Int} (har : IntsF F arv ar) {rsv : Value} {rs : List (List Int × List Int)} (hrs : PairsF F rsv rs) {av : Value} {a : List Int} (ha : IntsF F av a) {bv : Value} {b : List Int} (hb : IntsF F bv b) {n : Int} (hsys : sysOk ar rs = true) (ho : termOk ar a = true) (hob : termOk ar b = true) (hn20 : 0 ≤ n ∧ n ≤ 20) :
    Does prog 88 [.agg #[arv, rsv], av, bv, .int .i64 (n)] F (L) (fun v F' L' => ∃ (a1 : Value), ∃ (b1 : Value), ∃ (a2 : Value), ∃ (b2 : Value), (.tuple #[.agg #[a1, b1], .agg #[a2, b2], .bool ((join0 ar rs a b n).2.2.2.2)] : Value) = v ∧ (IntsF F' a1 (join0 ar rs a b n).1) ∧ (StepsF F' b1 (join0 ar rs a b n).2.1) ∧ (IntsF F' a2 (join0 ar rs a b n).2.2.1) ∧ (StepsF F' b2 (join0 ar rs a b n).2.2.2.1) ∧ (Fresh F F' (star [intsH 2 a1 (join0 ar rs a b n).1, stepsD 2 116 b1 (join0 ar rs a b n).2.1, intsH 2 a2 (join0 ar rs a b n).2.2.1, stepsD 2 116 b2 (join0 ar rs a b n).2.2.2.1])) ∧ L = L') := by
 refine Does.of_X func88 rfl rfl rfl ?_
 have hgda := reachL_good (ar := ar) (rs := rs) (t := a) (n := n) hn20.1
 have hrka := reachL_ok (n := n) hsys ho
 have hrla := hrka.1
 have hrda : ∀ i, i < (reachL ar rs a n).1.length → (EL (reachL ar rs a n).1 i).1.length ≤ 60 := fun i hi => (termOk_len (hrka.2 i hi)).2
 have hgdb := reachL_good (ar := ar) (rs := rs) (t := b) (n := n) hn20.1
 have hrkb := reachL_ok (n := n) hsys hob
 have hrlb := hrkb.1
 have hrdb : ∀ i, i < (reachL ar rs b n).1.length → (EL (reachL ar rs b n).1 i).1.length ≤ 60 := fun i hi => (termOk_len (hrkb.2 i hi)).2
 refine X.seq (X.region ?_)
 refine cX (XOp.box [arv, rsv] rfl rfl ?_)
 intro b1
 refine cX (XOp.alloc [(.slice none 0 0), (.slice none 0 0)] zeroValue57 rfl ?_)
 intro b2
 refine cX (XOp.alloc [(.slice none 0 0), (.slice none 0 0)] zeroValue57 rfl ?_)
 intro b3
 refine XL.as (.bool (false)) rfl ?_
 refine XL.nil (X.seq (X.region ?_))
 refine cX (XOp.loadN [arv, rsv] isAgg37 sizeOf37 rfl rfl (Rd.ownN [_, _] rfl rfl) ?_)
 refine XL.mv (av) rfl ?_
 refine XL.mv (.int .i64 (n)) rfl ?_
 refine cX (XOp.call (args := [.agg #[arv, rsv], av, .int .i64 (n)]) call153 rfl (reach_spec (n := n) har hrs ha (hsys := (by first | assumption | rfl | omega | (left; simp; done) | (right; simp; done))) (ho := (by first | assumption | rfl | omega | (left; simp; done) | (right; simp; done))) (hn20 := (by first | assumption | rfl | omega | (left; simp; done) | (right; simp; done)))) ?_)
 rintro _ F1 _ le1 ⟨x1, xcs1, xLs1, rfl, hx1, hxD1, hxZ1, rfl⟩
 replace har := har.mono le1
 replace hrs := hrs.mono le1
 replace hb := hb.mono le1
 refine XL.mv (.tuple #[x1, .bool ((reachL ar rs a n).2)]) rfl ?_
 refine cX (XOp.extract (x1) rfl rfl ?_)
 refine cX (XOp.extract (.bool ((reachL ar rs a n).2)) rfl rfl ?_)
 refine XL.as (x1) rfl ?_
 refine XL.as (.bool ((reachL ar rs a n).2)) rfl ?_
 refine XL.nil (X.seq (X.region ?_))
 refine cX (XOp.loadN [arv, rsv] isAgg37 sizeOf37 rfl rfl (Rd.ownN [_, _] rfl rfl) ?_)
 refine XL.mv (bv) rfl ?_
 refine XL.mv (.int .i64 (n)) rfl ?_
 refine cX (XOp.call (args := [.agg #[arv, rsv], bv, .int .i64 (n)]) call153 rfl (reach_spec (n := n) har hrs hb (hsys := (by first | assumption | rfl | omega | (left; simp; done) | (right; simp; done))) (ho := (by first | assumption | rfl | omega | (left; simp; done) | (right; simp; done))) (hn20 := (by first | assumption | rfl | omega | (left; simp; done) | (right; simp; done)))) ?_)
 rintro _ F2 _ le2 ⟨x2, xcs2, xLs2, rfl, hx2, hxD2, hxZ2, rfl⟩
 replace hx1 := hx1.mono le2
 refine XL.mv (.tuple #[x2, .bool ((reachL ar rs b n).2)]) rfl ?_
 refine cX (XOp.extract (x2) rfl rfl ?_)
 refine cX (XOp.extract (.bool ((reachL ar rs b n).2)) rfl rfl ?_)
 refine XL.as (x2) rfl ?_
 refine XL.as (.bool ((reachL ar rs b n).2)) rfl ?_
 refine XL.nil (X.seq (X.seq (X.region ?_)))
 refine XL.mv (x1) rfl ?_
 refine cX (XOp.lenS (v := x1) (n := ((reachL ar rs a n).1).length) runUnderlying179 rfl hx1.slv ?_)
 refine XL.mv (.int .i64 (0)) rfl ?_
 refine XL.nil (X.block ?_)
 refine X.loop (α := Nat) (fun k => [(8, ptr b2 0), (9, ptr b3 0), (11, x1), (13, x2), (32, x1), (33, .int .i64 (((((reachL ar rs a n).1).length : Nat) : Int))), (34, .int .i64 ((k : Int)))]) (fun k => cellsH b3 [(.slice none 0 0), (.slice none 0 0)] 57 :: cellsH b2 [(.slice none 0 0), (.slice none 0 0)] 57 :: cellsH b1 [arv, rsv] 37 :: L) (fun k F' => F2 = F' ∧ (k ≤ (reachL ar rs a n).1.length) ∧ (∀ i, i < k → foundI (reachL ar rs b n).1 (EL (reachL ar rs a n).1 i).1 < 0)) (fun k => (reachL ar rs a n).1.length - k) 0 ⟨rfl, rfl, rfl, rfl, rfl, rfl, rfl, trivial⟩ (sC (sC (sC sR))) ⟨rfl, (by (try dsimp only) <;> omega), (fun i hi => absurd hi (by omega))⟩ ?_
 rintro k rE _ _ ⟨rfl, hk, hno⟩
 show X _ _ _ _ (envs [(8, ptr b2 0), (9, ptr b3 0), (11, x1), (13, x2), (32, x1), (33, .int .i64 (((((reachL ar rs a n).1).length : Nat) : Int))), (34, .int .i64 ((k : Int)))] rE) _ (cellsH b3 [(.slice none 0 0), (.slice none 0 0)] 57 :: cellsH b2 [(.slice none 0 0), (.slice none 0 0)] 57 :: cellsH b1 [arv, rsv] 37 :: L)
 have hfl := fun (h : 0 ≤ foundI (reachL ar rs b n).1 ((reachL ar rs a n).1.getD k ([], 0, (0, 0, []), 0)).1) => (foundI_lt h).1
 have hka := fun (h : k < (reachL ar rs a n).1.length) => (show ((reachL ar rs a n).1.getD k ([], 0, (0, 0, []), 0)).1.length ≤ 60 from hrda k h)
 refine X.seq (X.region ?_)
 refine cX (XOp.lss (a := (k : Int)) (b := ((((reachL ar rs a n).1).length : Nat) : Int)) rfl rfl ?_)
 refine XL.nil (X.seq ?_)
 refine X.condD (p := (k : Int) < ((((reachL ar rs a n).1).length : Nat) : Int)) rfl (fun h1 => ?_) (fun h1 => ?_)
 ·refine X.skip (X.seq (X.block (X.seq (X.region ?_))))
  refine XL.mv (.int .i64 ((k : Int))) rfl ?_
  refine cX (XOp.indexS (v := x1) (i := (k : Int)) (n := ((reachL ar rs a n).1).length) k runUnderlying179 sizeOf183 rfl rfl rfl hx1.slv (by omega) rfl ?_)
  obtain ⟨a1, a2, ha1, ha2, hrg1, hq1⟩ := hx1.rd (i := k) (by omega)
  refine cX (XOp.loadN [a1, .int .i64 ((((reachL ar rs a n).1).getD k ([], 0, (0, 0, []), 0)).2.1), .int .i64 ((((reachL ar rs a n).1).getD k ([], 0, (0, 0, []), 0)).2.2.1.1), .int .i64 ((((reachL ar rs a n).1).getD k ([], 0, (0, 0, []), 0)).2.2.1.2.1), a2, .int .i64 ((((reachL ar rs a n).1).getD k ([], 0, (0, 0, []), 0)).2.2.2)] isAgg183 sizeOf183 rfl rfl (Rd.all (hrg1 _)) ?_)
  refine cX (XOp.alloc [(.slice none 0 0), .int .i64 (0), .int .i64 (0), .int .i64 (0), (.slice none 0 0), .int .i64 (0)] zeroValue183 rfl ?_)
  intro b4
  refine XL.as (.int .i64 ((k : Int))) rfl ?_
  refine cX (XOp.storeN (vs := [a1, .int .i64 ((((reachL ar rs a n).1).getD k ([], 0, (0, 0, []), 0)).2.1), .int .i64 ((((reachL ar rs a n).1).getD k ([], 0, (0, 0, []), 0)).2.2.1.1), .int .i64 ((((reachL ar rs a n).1).getD k ([], 0, (0, 0, []), 0)).2.2.1.2.1), a2, .int .i64 ((((reachL ar rs a n).1).getD k ([], 0, (0, 0, []), 0)).2.2.2)]) [] _ [a1, .int .i64 ((((reachL ar rs a n).1).getD k ([], 0, (0, 0, []), 0)).2.1), .int .i64 ((((reachL ar rs a n).1).getD k ([], 0, (0, 0, []), 0)).2.2.1.1), .int .i64 ((((reachL ar rs a n).1).getD k ([], 0, (0, 0, []), 0)).2.2.1.2.1), a2, .int .i64 ((((reachL ar rs a n).1).getD k ([], 0, (0, 0, []), 0)).2.2.2)] sizeOf183 rfl rfl rfl (ones_cons (one_sl (IntsF.isSl ha1)) (ones_cons rfl (ones_cons rfl (ones_cons rfl (ones_cons (one_sl (IntsF.isSl ha2)) (ones_cons rfl ones_nil)))))) rfl rfl rfl ?_)
  refine XL.nil (X.seq (X.region ?_))
  refine XL.mv (x2) rfl ?_
  refine cX (XOp.fieldP (b := b4) (0) runUnderlying183 rfl sizeOf22 (by decide) rfl rfl ?_)
  refine cX (XOp.load1 (v := a1) isAgg22 rfl (Rd.own [] rfl rfl) ?_)
  refine cX (XOp.call (args := [x2, a1]) call167 rfl (found_spec hx2 ha1 (hlt := (by omega)) (hlu := (by have := hka (by omega); omega))) ?_)
  rintro _ _ _ _ ⟨rfl, rfl, rfl⟩
  refine XL.as (.int .i64 (foundI ((reachL ar rs b n).1) ((((reachL ar rs a n).1).getD k ([], 0, (0, 0, []), 0)).1))) rfl ?_
  refine XL.nil (X.seq (X.region ?_))
  refine XL.mv (.int .i64 (foundI ((reachL ar rs b n).1) ((((reachL ar rs a n).1).getD k ([], 0, (0, 0, []), 0)).1))) rfl ?_
  refine cX (XOp.geq (a := foundI ((reachL ar rs b n).1) ((((reachL ar rs a n).1).getD k ([], 0, (0, 0, []), 0)).1)) (b := 0) rfl rfl ?_)
  refine XL.nil ?_
  refine X.condD (p := (foundI ((reachL ar rs b n).1) ((((reachL ar rs a n).1).getD k ([], 0, (0, 0, []), 0)).1) : Int) ≥ 0) rfl (fun h2 => ?_) (fun h2 => ?_)
  ·refine X.seq (X.region ?_)
   refine XL.mv (x1) rfl ?_
   refine XL.mv (.int .i64 ((k : Int))) rfl ?_
   refine cX (XOp.call (args := [x1, .int .i64 (k : Int)]) call159 rfl (walkBack_spec (k := k) hx1 (hk := (by omega)) (hll := (hrla)) (hlk := (hgda.1)) (hbd := (hrda))) ?_)
   rintro _ F3 _ le3 ⟨x3, x4, rfl, hr1, hr2, hr3, rfl⟩
   replace hx2 := hx2.mono le3
   refine XL.mv (x2) rfl ?_
   refine XL.mv (.int .i64 (foundI ((reachL ar rs b n).1) ((((reachL ar rs a n).1).getD k ([], 0, (0, 0, []), 0)).1))) rfl ?_
   refine cX (XOp.call (args := [x2, .int .i64 (((foundI ((reachL ar rs b n).1) ((((reachL ar rs a n).1).getD k ([], 0, (0, 0, []), 0)).1)).toNat : Nat) : Int)]) call159 (by rw [show (((foundI ((reachL ar rs b n).1) ((((reachL ar rs a n).1).getD k ([], 0, (0, 0, []), 0)).1)).toNat : Nat) : Int) = foundI ((reachL ar rs b n).1) ((((reachL ar rs a n).1).getD k ([], 0, (0, 0, []), 0)).1) from by omega]; rfl) (walkBack_spec (k := (foundI ((reachL ar rs b n).1) ((((reachL ar rs a n).1).getD k ([], 0, (0, 0, []), 0)).1)).toNat) hx2 (hk := (hfl (by omega))) (hll := (hrlb)) (hlk := (hgdb.1)) (hbd := (hrdb))) ?_)
   rintro _ F4 _ le4 ⟨x5, x6, rfl, hr4, hr5, hr6, rfl⟩
   replace hr1 := hr1.mono le4
   replace hr2 := hr2.mono le4
   refine cX (XOp.storeN (vs := [x3, x4]) [_, _] _ [x3, x4] sizeOf57 rfl rfl rfl (ones_cons (one_sl (IntsF.isSl hr1)) (ones_cons (one_sl (StepsF.isSl hr2)) ones_nil)) rfl rfl rfl ?_)
   refine cX (XOp.storeN (vs := [x5, x6]) [_] _ [x5, x6] sizeOf57 rfl rfl rfl (ones_cons (one_sl (IntsF.isSl hr4)) (ones_cons (one_sl (StepsF.isSl hr5)) ones_nil)) rfl rfl rfl ?_)
   refine XL.as (.bool (true)) rfl ?_
   refine XL.nil ?_
   refine X.ret (blockQ_ret (thenQ_ret (thenQ_ret (blockQ_ret (thenQ_ret (retEnd (L' := L) [.agg #[x3, x4], .agg #[x5, x6], .bool (true)] (.tuple #[.agg #[x3, x4], .agg #[x5, x6], .bool (true)]) (.cell rfl (loadNV [x3, x4] isAgg57 sizeOf57 rfl (Rd.ownN [_, _] rfl rfl)) (.cell rfl (loadNV [x5, x6] isAgg57 sizeOf57 rfl (Rd.ownN [_] rfl rfl)) (.tmp rfl .nil))) rfl (FLe.trans (FLe.trans (FLe.trans le1 le2) le3) le4) rF (sD (sD (sD (sD sR)))) ?_))))))
   have e : join0 ar rs a b n = ((EL (reachL ar rs a n).1 0).1, walkL (reachL ar rs a n).1 k, (EL (reachL ar rs b n).1 0).1, walkL (reachL ar rs b n).1 (foundI (reachL ar rs b n).1 ((reachL ar rs a n).1.getD k ([], 0, (0, 0, []), 0)).1).toNat, true) := by rw [join0_at (k := k) (by omega) (by show foundI (reachL ar rs b n).1 ((reachL ar rs a n).1.getD k ([], 0, (0, 0, []), 0)).1 ≥ 0; omega) hno, hgda.2.2.2, hgdb.2.2.2]
   exact ⟨_, _, _, _, by rw [e], by rw [e]; exact hr1, by rw [e]; exact hr2, by rw [e]; exact hr4, by rw [e]; exact hr5, by rw [e]; exact (Fresh.app (hr3.base (FLe.trans le1 le2)) (FLe.trans (FLe.trans le1 le2) le3) hr6 le4), rfl⟩
  refine X.skip (X.region ?_)
  refine cX (XOp.addR (a := (k : Int)) (b := 1) (((k + 1 : Nat) : Int)) rfl rfl (by omega) (by omega) ?_)
  refine XL.mv (.int .i64 (((k + 1 : Nat) : Int))) rfl ?_
  refine XL.nil ?_
  exact ⟨k + 1, _, FLe.refl _, rF, ⟨rfl, rfl, rfl, rfl, rfl, rfl, rfl, trivial⟩, (sD (sC (sC (sC sR)))), ⟨rfl, (by (try dsimp only) <;> omega), (fun i hi => (Nat.lt_or_ge i k).elim (fun h => hno i h) (fun h => by obtain rfl : i = k := (by omega); show foundI (reachL ar rs b n).1 ((reachL ar rs a n).1.getD i ([], 0, (0, 0, []), 0)).1 < 0; omega))⟩, (by omega)⟩
 refine X.exit (thenQ_exit (thenQ_exit (blockQ_exit ?_)))
 refine X.seq (X.region ?_)
 refine cX (XOp.build [(.slice none 0 0), (.slice none 0 0)] [(.slice none 0 0), (.slice none 0 0)] [(0, 1), (1, 1)] [] runUnderlying57 zeroValue57 rfl (.cons rfl sizeOf22 (.cons rfl sizeOf55 PlacesAre.nil)) rfl CellsAre.nil ?_)
 refine cX (XOp.build [(.slice none 0 0), (.slice none 0 0)] [(.slice none 0 0), (.slice none 0 0)] [(0, 1), (1, 1)] [] runUnderlying57 zeroValue57 rfl (.cons rfl sizeOf22 (.cons rfl sizeOf55 PlacesAre.nil)) rfl CellsAre.nil ?_)
 refine cX (XOp.storeN (vs := [(.slice none 0 0), (.slice none 0 0)]) [_] _ [(.slice none 0 0), (.slice none 0 0)] sizeOf57 rfl rfl rfl (ones_cons rfl (ones_cons rfl ones_nil)) rfl rfl rfl ?_)
 refine cX (XOp.storeN (vs := [(.slice none 0 0), (.slice none 0 0)]) [] _ [(.slice none 0 0), (.slice none 0 0)] sizeOf57 rfl rfl rfl (ones_cons rfl (ones_cons rfl ones_nil)) rfl rfl rfl ?_)
 refine XL.as (.bool (false)) rfl ?_
 refine XL.nil ?_
 refine X.ret (retEnd (L' := L) [.agg #[(.slice none 0 0), (.slice none 0 0)], .agg #[(.slice none 0 0), (.slice none 0 0)], .bool (false)] (.tuple #[.agg #[(.slice none 0 0), (.slice none 0 0)], .agg #[(.slice none 0 0), (.slice none 0 0)], .bool (false)]) (.cell rfl (loadNV [(.slice none 0 0), (.slice none 0 0)] isAgg57 sizeOf57 rfl (Rd.ownN [_] rfl rfl)) (.cell rfl (loadNV [(.slice none 0 0), (.slice none 0 0)] isAgg57 sizeOf57 rfl (Rd.ownN [] rfl rfl)) (.tmp rfl .nil))) rfl (FLe.trans le1 le2) rF (sD (sD (sD sR))) ?_)
 have e : join0 ar rs a b n = ([], [], [], [], false) := join0_none (fun i hi => hno i (by omega))
 exact ⟨_, _, _, _, by rw [e], by rw [e]; exact IntsF.nilV, by rw [e]; exact SlOf.nilV, by rw [e]; exact IntsF.nilV, by rw [e]; exact SlOf.nilV, by rw [e]; exact Fresh.app (Fresh.empty nilWalk) rF (Fresh.empty nilWalk) (FLe.trans le1 le2), rfl⟩
end Go.Proofs.YtiaanelimbmniaaGreat
set_option linter.unusedSimpArgs false
set_option linter.unusedVariables false
namespace Go.Proofs.YtiaanelimbmniaaGreat
open Go X M Tryz

/- spec.l9Walk -/
theorem l9Walk_spec {F : FH} {L : List HP} {x1v x2v x3v x4v : Value} {al : List FoundT} {ab : Bool} (hx1 : RowsF F x1v (terms al)) (hx2 : IntsF F x2v (froms al)) (hx3 : StepsF F x3v (bys al)) (hx4 : IntsF F x4v (deeps al)) {k : Nat} (hk : k < al.length) (hll : al.length ≤ 60) (hlk : Link al) (hbd : ∀ i, i < al.length → (EL al i).1.length ≤ 60) :
    Does prog 148 [.agg #[x1v, x2v, x3v, x4v, .bool (ab)], .int .i64 ((k : Int))] F (L) (fun v F' L' => ∃ (a : Value), ∃ (b : Value), (.agg #[a, b] : Value) = v ∧ (IntsF F' a (EL al 0).1) ∧ (StepsF F' b (walkL al k)) ∧ (Fresh F F' (star [intsH 2 a (EL al 0).1, stepsD 2 116 b (walkL al k)])) ∧ L = L') := by
 refine Does.of_X func148 rfl rfl rfl ?_
 have htl9 : (terms al).length = al.length := terms_len
 have hfl9 : (froms al).length = al.length := froms_len
 have hbl9 : (bys al).length = al.length := bys_len
 have ht0 : ((terms al).getD 0 []).length ≤ 60 := by rw [terms_get]; exact hbd 0 (by omega)
 refine X.seq (X.region ?_)
 refine cX (XOp.box [x1v, x2v, x3v, x4v, .bool (ab)] rfl rfl ?_)
 intro b1
 refine cX (XOp.alloc [(.slice none 0 0), (.slice none 0 0)] zeroValue57 rfl ?_)
 intro b2
 refine XL.nil (X.seq (X.region ?_))
 refine cX (XOp.buildSlice (s := 3) [] [.int .i64 (0), .int .i64 (0), (.slice none 0 0)] [] runUnderlying55 sizeOf116 zeroValue116 rfl (by decide) rfl CellsAre.nil rfl ?_)
 intro v1 hv1
 refine XL.as (v1) rfl ?_
 refine XL.nil (X.seq (X.block ?_))
 refine X.loop (α := Nat × Value × List StepT × List Value × Nat) (fun xQ => [(1, .int .i64 (((xQ.1 : Nat) : Int))), (2, ptr b1 0), (4, ptr b2 0), (5, xQ.2.1)]) (fun xQ => slH 116 3 xQ.2.1 xQ.2.2.2.2 xQ.2.2.2.1 :: cellsH b2 [(.slice none 0 0), (.slice none 0 0)] 57 :: cellsH b1 [x1v, x2v, x3v, x4v, .bool (ab)] 169 :: L) (fun xQ F' => F = F' ∧ (xQ.1 < al.length) ∧ (IsSl xQ.2.1) ∧ (StepsC F xQ.2.2.2.1 xQ.2.2.1) ∧ (xQ.2.2.2.2 = xQ.2.2.1.length) ∧ (xQ.2.2.2.2 + xQ.1 ≤ k) ∧ (backL al k = xQ.2.2.1 ++ backL al xQ.1)) (fun xQ => xQ.1) (k, v1, [], [], 0) ⟨rfl, rfl, rfl, rfl, trivial⟩ (sC (sC (sC sR))) ⟨rfl, (hk), ((isSl_lit hv1)), (CO.nil), (rfl), (by (try dsimp only) <;> omega), (rfl)⟩ ?_
 rintro ⟨j, bv, bs, bcs, bm⟩ rE _ _ ⟨rfl, hj, hbv, hB, hbm, hmj, hbk⟩
 show X _ _ _ _ (envs [(1, .int .i64 ((j : Int))), (2, ptr b1 0), (4, ptr b2 0), (5, bv)] rE) _ (slH 116 3 bv bm bcs :: cellsH b2 [(.slice none 0 0), (.slice none 0 0)] 57 :: cellsH b1 [x1v, x2v, x3v, x4v, .bool (ab)] 169 :: L)
 dsimp only at hj hbv hB hbm hmj hbk
 have hlj := fun (h : 0 < j) => hlk.2 j h hj
 have hfj : ((froms al).getD j 0) = (EL al j).2.1 := froms_get hj
 have hljx : 0 < j → 0 ≤ ((froms al).getD j 0) ∧ ((froms al).getD j 0) < (j : Int) := fun h => ⟨by rw [hfj]; exact (hlj h).1, by rw [hfj]; exact (hlj h).2.1⟩
 have hlj0 : j = 0 → ((froms al).getD j 0) = -1 := fun h => by rw [hfj, h]; exact hlk.1.2.1
 refine X.seq (X.seq (X.region ?_))
 refine cX (XOp.fieldP (b := b1) (1) runUnderlying169 rfl sizeOf22 (by decide) rfl rfl ?_)
 refine cX (XOp.load1 (v := x2v) isAgg22 rfl (Rd.own [_, _] rfl rfl) ?_)
 refine XL.mv (.int .i64 ((j : Int))) rfl ?_
 refine cX (XOp.indexS (v := x2v) (i := (j : Int)) (n := (froms al).length) j runUnderlying22 sizeOf2 rfl rfl rfl hx2.slv (by omega) (Nat.mul_one _) ?_)
 refine cX (XOp.load1 (v := .int .i64 ((froms al).getD j 0)) isAgg2 rfl (hx2.rd (by omega)) ?_)
 refine cX (XOp.geq (a := (froms al).getD j 0) (b := 0) rfl rfl ?_)
 refine XL.nil ?_
 refine X.condD (p := ((froms al).getD j 0 : Int) ≥ 0) rfl (fun h1 => ?_) (fun h1 => ?_)
 ·refine X.skip (X.block (X.seq (X.region ?_)))
  refine XL.mv (bv) rfl ?_
  refine cX (XOp.fieldP (b := b1) (2) runUnderlying169 rfl sizeOf55 (by decide) rfl rfl ?_)
  refine cX (XOp.load1 (v := x3v) isAgg55 rfl (Rd.own [_, _] rfl rfl) ?_)
  refine XL.mv (.int .i64 ((j : Int))) rfl ?_
  refine cX (XOp.indexS (v := x3v) (i := (j : Int)) (n := (bys al).length) j runUnderlying55 sizeOf116 rfl rfl rfl hx3.slv (by omega) rfl ?_)
  obtain ⟨a1, ha1, hr1, hr2, hr3⟩ := hx3.rd (i := j) (by omega)
  refine cX (XOp.loadN [.int .i64 (((bys al).getD j (0, 0, [])).1), .int .i64 (((bys al).getD j (0, 0, [])).2.1), a1] isAgg116 sizeOf116 rfl rfl (Rd.three (hr1 _) (hr2 _) (hr3 _)) ?_)
  refine cX (XOp.buildSlice (s := 3) [.int .i64 (((bys al).getD j (0, 0, [])).1), .int .i64 (((bys al).getD j (0, 0, [])).2.1), a1] [.int .i64 (0), .int .i64 (0), (.slice none 0 0)] [(0, [.int .i64 (((bys al).getD j (0, 0, [])).1), .int .i64 (((bys al).getD j (0, 0, [])).2.1), a1])] runUnderlying55 sizeOf116 zeroValue116 rfl (by decide) rfl (.cons rfl CellsAre.nil) rfl ?_)
  intro v2 hv2
  refine cX (XOp.append (m := 1) (bytes := 40) (cs := bcs) [_] _ [.int .i64 (((bys al).getD j (0, 0, [])).1), .int .i64 (((bys al).getD j (0, 0, [])).2.1), a1] runUnderlying55 typeInfo116 rfl rfl rfl rfl rfl rfl rfl (SlV.own [] rfl) rfl (Rd.lit [] rfl) (ones_cons rfl (ones_cons rfl (ones_cons (one_sl (IntsF.isSl ha1)) ones_nil))) (by (try simp only [List.length_append, List.length_nil, List.length_cons, List.length_singleton]); omega) (by (try simp only [List.length_append, List.length_nil, List.length_cons, List.length_singleton]); omega) ?_)
  intro v3 hs1 hn1 hm1
  have hc1 := StepsC.snoc hB (i := ((bys al).getD j (0, 0, [])).1) (j := ((bys al).getD j (0, 0, [])).2.1) ha1
  refine XL.as (v3) rfl ?_
  refine XL.nil (X.region ?_)
  refine cX (XOp.fieldP (b := b1) (1) runUnderlying169 rfl sizeOf22 (by decide) rfl rfl ?_)
  refine cX (XOp.load1 (v := x2v) isAgg22 rfl (Rd.own [_, _, _] rfl rfl) ?_)
  refine XL.mv (.int .i64 ((j : Int))) rfl ?_
  refine cX (XOp.indexS (v := x2v) (i := (j : Int)) (n := (froms al).length) j runUnderlying22 sizeOf2 rfl rfl rfl hx2.slv (by omega) (Nat.mul_one _) ?_)
  refine cX (XOp.load1 (v := .int .i64 ((froms al).getD j 0)) isAgg2 rfl (hx2.rd (by omega)) ?_)
  refine XL.as (.int .i64 ((froms al).getD j 0)) rfl ?_
  refine XL.nil ?_
  exact ⟨(((froms al).getD j 0).toNat, v3, bs ++ [(((bys al).getD j (0, 0, [])).1, ((bys al).getD j (0, 0, [])).2.1, ((bys al).getD j (0, 0, [])).2.2)], bcs ++ [.int .i64 (((bys al).getD j (0, 0, [])).1), .int .i64 (((bys al).getD j (0, 0, [])).2.1), a1], (bm) + 1), _, FLe.refl _, rF, ⟨(vI (by have := hljx (by omega); (try dsimp only); omega)), rfl, rfl, rfl, trivial⟩, (sD (sC (sC (sC sR)))), ⟨rfl, (by have := hljx (by omega); (try dsimp only); omega), (hs1), (hc1), (by (try dsimp only); rw [List.length_append, List.length_singleton]; omega), (by have := hljx (by omega); (try dsimp only); omega), (by (try dsimp only); rw [hbk, backL_succ hlk (by omega) hj, List.append_assoc, bys_get hj, hfj]; rfl)⟩, (by have := hljx (by omega); (try dsimp only); omega)⟩
 refine X.exit (thenQ_exit (thenQ_exit (blockQ_exit ?_)))
 refine X.seq (X.region ?_)
 refine cX (XOp.fieldP (b := b1) (0) runUnderlying169 rfl sizeOf58 (by decide) rfl rfl ?_)
 refine cX (XOp.load1 (v := x1v) isAgg58 rfl (Rd.own [_, _] rfl rfl) ?_)
 refine cX (XOp.indexS (v := x1v) (i := 0) (n := (terms al).length) 0 runUnderlying58 sizeOf22 rfl rfl rfl hx1.slv (by omega) (Nat.mul_one _) ?_)
 obtain ⟨a2, ha2, hr4⟩ := hx1.rd (i := 0) (by omega)
 refine cX (XOp.load1 (v := a2) isAgg22 rfl (hr4 _) ?_)
 refine cX (XOp.frzF <| XOp.call (args := [a2]) call99 rfl (l1Copy_spec ha2 (hlt := (by first | omega | (rw [hi9 (by omega)]; have := htbi (by omega); omega)))) ?_)
 rintro v4 _ _ _ ⟨rfl, hs2, rfl⟩
 refine ⟨_, _, rfl, fun F1 le1 hz1 => ?_⟩
 replace hx1 := hx1.mono le1
 replace hB := hB.mono le1
 have hf1 : IntsF F1 v4 (((((terms al).getD 0 [])))) := intsH.fz (xs := ((((terms al).getD 0 [])))) hz1.fz
 refine cX (XOp.build [v4, (.slice none 0 0)] [(.slice none 0 0), (.slice none 0 0)] [(0, 1), (1, 1)] [(0, [v4])] runUnderlying57 zeroValue57 rfl (.cons rfl sizeOf22 (.cons rfl sizeOf55 PlacesAre.nil)) rfl (.cons (cells_one (IntsF.isSl hf1)) CellsAre.nil) ?_)
 refine cX (XOp.alloc [(.slice none 0 0), (.slice none 0 0)] zeroValue57 rfl ?_)
 intro b3
 refine cX (XOp.storeN (vs := [v4, (.slice none 0 0)]) [] _ [v4, (.slice none 0 0)] sizeOf57 rfl rfl rfl (ones_cons (one_sl (IntsF.isSl hf1)) (ones_cons rfl ones_nil)) rfl rfl rfl ?_)
 refine XL.nil (X.seq (X.seq (X.region ?_)))
 have hj0 : j = 0 := by omega
 have hssb : bs = backL al k := by rw [hbk, hj0, backL_zero, List.append_nil]
 have htb : ∀ i, i < bs.length → (bs.getD i (0, 0, [])).2.2.length ≤ 60 := fun i hi => by
  obtain ⟨q, hq, he⟩ := backL_mem hlk k k (Nat.le_refl _) hk (bs.getD i (0, 0, [])) (by rw [← hssb]; simp [List.getD, hi])
  rw [he]; exact hbd q hq
 have hbl : bs.length ≤ 60 := by omega
 refine XL.mv (bv) rfl ?_
 refine cX (XOp.lenS (v := bv) (n := bm) runUnderlying55 rfl (SlV.own [_] rfl) ?_)
 refine cX (XOp.subR (a := ((bm : Nat) : Int)) (b := 1) ((((bm : Nat) : Int)) - 1) rfl rfl (by omega) (by omega) ?_)
 refine XL.as (.int .i64 ((((bm : Nat) : Int)) - 1)) rfl ?_
 refine XL.nil (X.block ?_)
 refine X.loop (α := Nat × Value × List StepT × List Value × List HP × Nat × FH) (fun xQ => [(4, ptr b2 0), (5, bv), (6, ptr b3 0), (7, .int .i64 ((xQ.1 : Int) - 1))]) (fun xQ => slH 116 3 xQ.2.1 xQ.2.2.2.2.2.1 xQ.2.2.2.1 :: cellsH b3 [v4, xQ.2.1] 57 :: slH 116 3 bv bm bcs :: cellsH b2 [(.slice none 0 0), (.slice none 0 0)] 57 :: cellsH b1 [x1v, x2v, x3v, x4v, .bool (ab)] 169 :: L) (fun xQ F' => xQ.2.2.2.2.2.2 = F' ∧ F1 ≤ xQ.2.2.2.2.2.2 ∧ (xQ.1 ≤ bs.length) ∧ (IsSl xQ.2.1) ∧ (StepsC xQ.2.2.2.2.2.2 xQ.2.2.2.1 xQ.2.2.1) ∧ (xQ.2.2.2.2.2.1 = xQ.2.2.1.length) ∧ (DeepL 3 (StepO 2) xQ.2.2.2.1 xQ.2.2.1 xQ.2.2.2.2.1) ∧ (Fresh F1 xQ.2.2.2.2.2.2 (star xQ.2.2.2.2.1)) ∧ (xQ.2.2.1 = (bs.drop xQ.1).reverse) ∧ (xQ.2.2.2.2.2.1 + xQ.1 = bs.length)) (fun xQ => xQ.1) (bs.length, (.slice none 0 0), [], [], [], 0, F1) ⟨rfl, rfl, rfl, (vI (by (try dsimp only); omega)), trivial⟩ (Sub.trans (Sub.addNil 116 3 _ _) (sC (sC (sC (sC (sC sR)))))) ⟨rfl, FLe.refl _, (by (try dsimp only) <;> omega), (⟨_, _, _, rfl⟩), (CO.nil), (rfl), (DeepL.nil), (Fresh.nilL), (by (try dsimp only); simp), (by (try dsimp only); omega)⟩ ?_
 rintro ⟨i, sv, ss, cs, Ls, m, G1⟩ rE _ _ ⟨rfl, leG, hi, hsv, hC, hm, hD, hZ, hss, hmi⟩
 show X _ _ _ _ (envs [(4, ptr b2 0), (5, bv), (6, ptr b3 0), (7, .int .i64 ((i : Int) - 1))] rE) _ (slH 116 3 sv m cs :: cellsH b3 [v4, sv] 57 :: slH 116 3 bv bm bcs :: cellsH b2 [(.slice none 0 0), (.slice none 0 0)] 57 :: cellsH b1 [x1v, x2v, x3v, x4v, .bool (ab)] 169 :: L)
 replace leG : F1 ≤ G1 := leG
 dsimp only at hi hsv hC hm hD hZ hss hmi
 have htbi := htb (i - 1)
 have hi9 : 0 < i → ((i : Int) - 1).toNat = i - 1 := fun h => by omega
 have hdr9 := fun (h : 0 < i) => drop_rev ((0, 0, []) : StepT) (l := bs) (k := i - 1) (by omega)
 have leG1 := leG
 replace hx1 := hx1.mono leG1
 replace hB := hB.mono leG1
 replace hf1 := hf1.mono leG1
 refine X.seq (X.seq (X.region ?_))
 refine XL.mv (.int .i64 ((i : Int) - 1)) rfl ?_
 refine cX (XOp.geq (a := (i : Int) - 1) (b := 0) rfl rfl ?_)
 refine XL.nil ?_
 refine X.condD (p := ((i : Int) - 1 : Int) ≥ 0) rfl (fun h2 => ?_) (fun h2 => ?_)
 ·refine X.skip (X.seq (X.block ?_))
  obtain ⟨a3, ha3, he1, he2, he3⟩ := hB.get (i := ((i : Int) - 1).toNat) (by omega)
  refine X.drawG [slH 116 3 sv m cs, cellsH b3 [v4, sv] 57, slH 116 3 bv bm bcs, cellsH b2 [(.slice none 0 0), (.slice none 0 0)] 57, cellsH b1 [x1v, x2v, x3v, x4v, .bool (ab)] 169] L 20 [[], [], [], [], [], [], [], [], [], [], [], [], [], [], [], [], [], [], [17], [17]] [[], [0], [], [], [2, 3], [4], [5], [], [], [7, 8], [9], [10], [], [], [12, 13], [14], [15], [16], [6, 11, 17], [17, 18]] [[], [], [], [], [], [], [], [], [], [], [], [], [], [], [], [], [], [], [], []] (phiG [fun FF us v => v = ptr b3 1, fun FF us v => v = sv, fun FF us v => v = bv, fun FF us v => v = (.int .i64 ((i : Int) - 1) : Value), fun FF us v => v = (.pointer (some (elemA bv ((((i : Int) - 1).toNat) * 3))) : Value), fun FF us v => v = (.pointer (some (elemA bv ((((i : Int) - 1).toNat) * 3))) : Value), fun FF us v => v = (.int .i64 ((bs.getD (((i : Int) - 1).toNat) (0, 0, [])).1) : Value), fun FF us v => v = bv, fun FF us v => v = (.int .i64 ((i : Int) - 1) : Value), fun FF us v => v = (.pointer (some (elemA bv ((((i : Int) - 1).toNat) * 3))) : Value), fun FF us v => v = (.pointer (some (elemA bv ((((i : Int) - 1).toNat) * 3 + 1))) : Value), fun FF us v => v = (.int .i64 ((bs.getD (((i : Int) - 1).toNat) (0, 0, [])).2.1) : Value), fun FF us v => v = bv, fun FF us v => v = (.int .i64 ((i : Int) - 1) : Value), fun FF us v => v = (.pointer (some (elemA bv ((((i : Int) - 1).toNat) * 3))) : Value), fun FF us v => v = (.pointer (some (elemA bv ((((i : Int) - 1).toNat) * 3 + 2))) : Value), fun FF us v => v = a3, fun FF us v => ((v) : Value) = v ∧ (IntsF FF (v) (((bs.getD (((i : Int) - 1).toNat) (0, 0, [])).2.2))) ∧ (FrIntsF G1 FF 2 (v) (((bs.getD (((i : Int) - 1).toNat) (0, 0, [])).2.2))), fun FF us v => v = (.agg #[.int .i64 ((bs.getD (((i : Int) - 1).toNat) (0, 0, [])).1), .int .i64 ((bs.getD (((i : Int) - 1).toNat) (0, 0, [])).2.1), ((us.getD 0 undef))] : Value), fun FF us v => ∃ b, v = .slice (some ⟨b, 0, none⟩) 1 1]) (ownL [fun us v => [], fun us v => [], fun us v => [], fun us v => [], fun us v => [], fun us v => [], fun us v => [], fun us v => [], fun us v => [], fun us v => [], fun us v => [], fun us v => [], fun us v => [], fun us v => [], fun us v => [], fun us v => [], fun us v => [], fun us v => [], fun us v => [], fun us v => [slH 116 3 v 1 [.int .i64 ((bs.getD (((i : Int) - 1).toNat) (0, 0, [])).1), .int .i64 ((bs.getD (((i : Int) - 1).toNat) (0, 0, [])).2.1), ((us.getD 0 undef))]]]) mixed rfl rfl (by kernel_rfl) (by kernel_rfl) (MonoG.get (mC (fun le h => h) (mC (fun le h => h) (mC (fun le h => h) (mC (fun le h => h) (mC (fun le h => h) (mC (fun le h => h) (mC (fun le h => h) (mC (fun le h => h) (mC (fun le h => h) (mC (fun le h => h) (mC (fun le h => h) (mC (fun le h => h) (mC (fun le h => h) (mC (fun le h => h) (mC (fun le h => h) (mC (fun le h => h) (mC (fun le h => h) (mC (fun le h => ⟨h.1, h.2.1.mono le, h.2.2.mono le⟩) (mC (fun le h => h) (mC (fun le h => h) MonoG.nil))))))))))))))))))))) ?_ ?_
  ·refine gC (fun vals Fs R leFs hpZ => ?_) ?_
   ·refine XG.op (XOp.fieldP (b := b3) (1) runUnderlying57 rfl sizeOf55 (by decide) rfl rfl ?_)
    exact ⟨rfl, rfl⟩
   refine gC (fun vals Fs R leFs hpZ => ?_) ?_
   ·replace hx1 := hx1.mono leFs
    replace hf1 := hf1.mono leFs
    replace hC := hC.mono leFs
    replace ha3 := ha3.mono leFs
    rw [eS (l := [(0, ptr b3 1)]) ⟨(hpZ 0 (by decide)), trivial⟩]
    refine XG.op (XOp.load1 (v := sv) isAgg55 rfl (Rd.own [_] rfl rfl) ?_)
    exact ⟨rfl, rfl⟩
   refine gC (fun vals Fs R leFs hpZ => ?_) ?_
   ·refine XG.op (XOp.move (bv) rfl ?_)
    exact ⟨rfl, rfl⟩
   refine gC (fun vals Fs R leFs hpZ => ?_) ?_
   ·refine XG.op (XOp.move (.int .i64 ((i : Int) - 1)) rfl ?_)
    exact ⟨rfl, rfl⟩
   refine gC (fun vals Fs R leFs hpZ => ?_) ?_
   ·replace hx1 := hx1.mono leFs
    replace hf1 := hf1.mono leFs
    replace hC := hC.mono leFs
    replace ha3 := ha3.mono leFs
    rw [eS (l := [(2, bv), (3, (.int .i64 ((i : Int) - 1) : Value))]) ⟨(hpZ 2 (by decide)), (hpZ 3 (by decide)), trivial⟩]
    refine XG.op (XOp.indexS (v := bv) (i := (i : Int) - 1) (n := bm) (((i : Int) - 1).toNat) runUnderlying55 sizeOf116 rfl rfl (by omega) (SlV.own [_, _] rfl) (by omega) rfl ?_)
    exact ⟨rfl, rfl⟩
   refine gC (fun vals Fs R leFs hpZ => ?_) ?_
   ·rw [eS (l := [(4, (.pointer (some (elemA bv ((((i : Int) - 1).toNat) * 3))) : Value))]) ⟨(hpZ 4 (by decide)), trivial⟩]
    refine XG.op (XOp.fieldE (v := bv) ((((i : Int) - 1).toNat) * 3) runUnderlying116 rfl sizeOf2 (by decide) rfl rfl ?_)
    exact ⟨rfl, rfl⟩
   refine gC (fun vals Fs R leFs hpZ => ?_) ?_
   ·replace hx1 := hx1.mono leFs
    replace hf1 := hf1.mono leFs
    replace hC := hC.mono leFs
    replace ha3 := ha3.mono leFs
    rw [eS (l := [(5, (.pointer (some (elemA bv ((((i : Int) - 1).toNat) * 3))) : Value))]) ⟨(hpZ 5 (by decide)), trivial⟩]
    refine XG.op (XOp.load1 (v := .int .i64 ((bs.getD (((i : Int) - 1).toNat) (0, 0, [])).1)) isAgg2 rfl (Rd.sl [_, _] rfl he1) ?_)
    exact ⟨rfl, rfl⟩
   refine gC (fun vals Fs R leFs hpZ => ?_) ?_
   ·refine XG.op (XOp.move (bv) rfl ?_)
    exact ⟨rfl, rfl⟩
   refine gC (fun vals Fs R leFs hpZ => ?_) ?_
   ·refine XG.op (XOp.move (.int .i64 ((i : Int) - 1)) rfl ?_)
    exact ⟨rfl, rfl⟩
   refine gC (fun vals Fs R leFs hpZ => ?_) ?_
   ·replace hx1 := hx1.mono leFs
    replace hf1 := hf1.mono leFs
    replace hC := hC.mono leFs
    replace ha3 := ha3.mono leFs
    rw [eS (l := [(7, bv), (8, (.int .i64 ((i : Int) - 1) : Value))]) ⟨(hpZ 7 (by decide)), (hpZ 8 (by decide)), trivial⟩]
    refine XG.op (XOp.indexS (v := bv) (i := (i : Int) - 1) (n := bm) (((i : Int) - 1).toNat) runUnderlying55 sizeOf116 rfl rfl (by omega) (SlV.own [_, _] rfl) (by omega) rfl ?_)
    exact ⟨rfl, rfl⟩
   refine gC (fun vals Fs R leFs hpZ => ?_) ?_
   ·rw [eS (l := [(9, (.pointer (some (elemA bv ((((i : Int) - 1).toNat) * 3))) : Value))]) ⟨(hpZ 9 (by decide)), trivial⟩]
    refine XG.op (XOp.fieldE (v := bv) ((((i : Int) - 1).toNat) * 3 + 1) runUnderlying116 rfl sizeOf2 (by decide) rfl rfl ?_)
    exact ⟨rfl, rfl⟩
   refine gC (fun vals Fs R leFs hpZ => ?_) ?_
   ·replace hx1 := hx1.mono leFs
    replace hf1 := hf1.mono leFs
    replace hC := hC.mono leFs
    replace ha3 := ha3.mono leFs
    rw [eS (l := [(10, (.pointer (some (elemA bv ((((i : Int) - 1).toNat) * 3 + 1))) : Value))]) ⟨(hpZ 10 (by decide)), trivial⟩]
    refine XG.op (XOp.load1 (v := .int .i64 ((bs.getD (((i : Int) - 1).toNat) (0, 0, [])).2.1)) isAgg2 rfl (Rd.sl [_, _] rfl he2) ?_)
    exact ⟨rfl, rfl⟩
   refine gC (fun vals Fs R leFs hpZ => ?_) ?_
   ·refine XG.op (XOp.move (bv) rfl ?_)
    exact ⟨rfl, rfl⟩
   refine gC (fun vals Fs R leFs hpZ => ?_) ?_
   ·refine XG.op (XOp.move (.int .i64 ((i : Int) - 1)) rfl ?_)
    exact ⟨rfl, rfl⟩
   refine gC (fun vals Fs R leFs hpZ => ?_) ?_
   ·replace hx1 := hx1.mono leFs
    replace hf1 := hf1.mono leFs
    replace hC := hC.mono leFs
    replace ha3 := ha3.mono leFs
    rw [eS (l := [(12, bv), (13, (.int .i64 ((i : Int) - 1) : Value))]) ⟨(hpZ 12 (by decide)), (hpZ 13 (by decide)), trivial⟩]
    refine XG.op (XOp.indexS (v := bv) (i := (i : Int) - 1) (n := bm) (((i : Int) - 1).toNat) runUnderlying55 sizeOf116 rfl rfl (by omega) (SlV.own [_, _] rfl) (by omega) rfl ?_)
    exact ⟨rfl, rfl⟩
   refine gC (fun vals Fs R leFs hpZ => ?_) ?_
   ·rw [eS (l := [(14, (.pointer (some (elemA bv ((((i : Int) - 1).toNat) * 3))) : Value))]) ⟨(hpZ 14 (by decide)), trivial⟩]
    refine XG.op (XOp.fieldE (v := bv) ((((i : Int) - 1).toNat) * 3 + 2) runUnderlying116 rfl sizeOf22 (by decide) rfl rfl ?_)
    exact ⟨rfl, rfl⟩
   refine gC (fun vals Fs R leFs hpZ => ?_) ?_
   ·replace hx1 := hx1.mono leFs
    replace hf1 := hf1.mono leFs
    replace hC := hC.mono leFs
    replace ha3 := ha3.mono leFs
    rw [eS (l := [(15, (.pointer (some (elemA bv ((((i : Int) - 1).toNat) * 3 + 2))) : Value))]) ⟨(hpZ 15 (by decide)), trivial⟩]
    refine XG.op (XOp.load1 (v := a3) isAgg22 rfl (Rd.sl [_, _] rfl he3) ?_)
    exact ⟨rfl, rfl⟩
   refine gC (fun vals Fs R leFs hpZ => ?_) ?_
   ·replace hx1 := hx1.mono leFs
    replace hf1 := hf1.mono leFs
    replace hC := hC.mono leFs
    replace ha3 := ha3.mono leFs
    rw [eS (l := [(16, a3)]) ⟨(hpZ 16 (by decide)), trivial⟩]
    refine XG.op (XOp.frzF <| XOp.call (args := [a3]) call99 rfl (l1Copy_spec ha3 (hlt := (by first | omega | (rw [hi9 (by omega)]; have := htbi (by omega); omega)))) ?_)
    rintro v7 _ _ _ ⟨rfl, hs4, rfl⟩
    refine ⟨_, _, rfl, fun F2 le2 hz2 => ?_⟩
    replace hf1 := hf1.mono le2
    replace hC := hC.mono le2
    have hf2 : IntsF F2 v7 ((((bs.getD (((i : Int) - 1).toNat) (0, 0, [])).2.2))) := intsH.fz (xs := (((bs.getD (((i : Int) - 1).toNat) (0, 0, [])).2.2))) hz2.fz
    exact ⟨⟨rfl, hf2, (hz2.base leFs)⟩, rfl⟩
   refine gC (fun vals Fs R leFs hpZ => ?_) ?_
   ·obtain ⟨e17, f17_1ha, f17_1hz⟩ := hpZ 17 (by decide)
    replace hf1 := hf1.mono leFs
    replace hC := hC.mono leFs
    rw [eS (l := [(6, (.int .i64 ((bs.getD (((i : Int) - 1).toNat) (0, 0, [])).1) : Value)), (11, (.int .i64 ((bs.getD (((i : Int) - 1).toNat) (0, 0, [])).2.1) : Value)), (17, ((vals 17)))]) ⟨(hpZ 6 (by decide)), (hpZ 11 (by decide)), (e17).symm, trivial⟩]
    refine XG.op (XOp.build [.int .i64 ((bs.getD (((i : Int) - 1).toNat) (0, 0, [])).1), .int .i64 ((bs.getD (((i : Int) - 1).toNat) (0, 0, [])).2.1), ((vals 17))] [.int .i64 (0), .int .i64 (0), (.slice none 0 0)] [(0, 1), (1, 1), (2, 1)] [(0, [.int .i64 ((bs.getD (((i : Int) - 1).toNat) (0, 0, [])).1)]), (1, [.int .i64 ((bs.getD (((i : Int) - 1).toNat) (0, 0, [])).2.1)]), (2, [((vals 17))])] runUnderlying116 zeroValue116 rfl (.cons rfl sizeOf2 (.cons rfl sizeOf2 (.cons rfl sizeOf22 PlacesAre.nil))) rfl (.cons rfl (.cons rfl (.cons (cells_one (IntsF.isSl f17_1ha)) CellsAre.nil))) ?_)
    exact ⟨rfl, rfl⟩
   refine gC (fun vals Fs R leFs hpZ => ?_) ?_
   ·obtain ⟨e17, f17_1ha, f17_1hz⟩ := hpZ 17 (by decide)
    have e18 : vals 18 = (.agg #[.int .i64 ((bs.getD (((i : Int) - 1).toNat) (0, 0, [])).1), .int .i64 ((bs.getD (((i : Int) - 1).toNat) (0, 0, [])).2.1), ((vals 17))] : Value) := hpZ 18 (by decide)
    replace hf1 := hf1.mono leFs
    replace hC := hC.mono leFs
    rw [eS (l := [(17, ((vals 17))), (18, (.agg #[.int .i64 ((bs.getD (((i : Int) - 1).toNat) (0, 0, [])).1), .int .i64 ((bs.getD (((i : Int) - 1).toNat) (0, 0, [])).2.1), ((vals 17))] : Value))]) ⟨(e17).symm, e18, trivial⟩]
    refine XG.op (XOp.buildSlice (s := 3) [.int .i64 ((bs.getD (((i : Int) - 1).toNat) (0, 0, [])).1), .int .i64 ((bs.getD (((i : Int) - 1).toNat) (0, 0, [])).2.1), ((vals 17))] [.int .i64 (0), .int .i64 (0), (.slice none 0 0)] [(0, [.int .i64 ((bs.getD (((i : Int) - 1).toNat) (0, 0, [])).1), .int .i64 ((bs.getD (((i : Int) - 1).toNat) (0, 0, [])).2.1), ((vals 17))])] runUnderlying55 sizeOf116 zeroValue116 rfl (by decide) rfl (.cons rfl CellsAre.nil) rfl ?_)
    intro v8 hv4
    exact ⟨hv4, rfl⟩
   exact stepsG.nil
  intro vals F3 le3 hphi
  obtain ⟨e17, f17_1ha, f17_1hz⟩ := hphi 17 (by decide)
  have e18 : vals 18 = (.agg #[.int .i64 ((bs.getD (((i : Int) - 1).toNat) (0, 0, [])).1), .int .i64 ((bs.getD (((i : Int) - 1).toNat) (0, 0, [])).2.1), ((vals 17))] : Value) := hphi 18 (by decide)
  have f19 : ∃ b, (vals 19) = .slice (some ⟨b, 0, none⟩) 1 1 := hphi 19 (by decide)
  generalize hu1 : ((vals 17)) = u1 at e17 f17_1ha f17_1hz e18 f19
  generalize hu19 : vals 19 = u2 at e17 f17_1ha f17_1hz e18 f19
  rw [eS (l := [(1, sv), (17, u1), (19, u2)]) ⟨(hphi 1 (by decide)), hu1, hu19, trivial⟩]
  replace hf1 := hf1.mono le3
  replace hC := hC.mono le3
  show XL _ _ _ _ _ _ _ (slH 116 3 u2 1 [.int .i64 ((bs.getD (((i : Int) - 1).toNat) (0, 0, [])).1), .int .i64 ((bs.getD (((i : Int) - 1).toNat) (0, 0, [])).2.1), u1] :: slH 116 3 sv m cs :: cellsH b3 [v4, sv] 57 :: slH 116 3 bv bm bcs :: cellsH b2 [(.slice none 0 0), (.slice none 0 0)] 57 :: cellsH b1 [x1v, x2v, x3v, x4v, .bool (ab)] 169 :: L)
  refine cX (XOp.append (m := 1) (bytes := 40) (cs := cs) [_] _ [.int .i64 ((bs.getD (((i : Int) - 1).toNat) (0, 0, [])).1), .int .i64 ((bs.getD (((i : Int) - 1).toNat) (0, 0, [])).2.1), u1] runUnderlying55 typeInfo116 rfl rfl rfl rfl rfl rfl rfl (SlV.own [] rfl) rfl (Rd.lit [] rfl) (ones_cons rfl (ones_cons rfl (ones_cons (one_sl (IntsF.isSl f17_1ha)) ones_nil))) (by (try simp only [List.length_append, List.length_nil, List.length_cons, List.length_singleton]); omega) (by (try simp only [List.length_append, List.length_nil, List.length_cons, List.length_singleton]); omega) ?_)
  intro v9 hs5 hn2 hm2
  have hc2 := StepsC.snoc hC (i := (bs.getD (((i : Int) - 1).toNat) (0, 0, [])).1) (j := (bs.getD (((i : Int) - 1).toNat) (0, 0, [])).2.1) f17_1ha
  skip
  refine cX (XOp.fieldP (b := b3) (1) runUnderlying57 rfl sizeOf55 (by decide) rfl rfl ?_)
  refine cX (XOp.store1 (v := v9) [_, _] _ [v4, v9] sizeOf55 rfl rfl (one_sl hs5) rfl rfl rfl ?_)
  refine XL.nil (X.region ?_)
  refine XL.mv (.int .i64 ((i : Int) - 1)) rfl ?_
  refine cX (XOp.subR (a := (i : Int) - 1) (b := 1) (((i : Int) - 1) - 1) rfl rfl (by omega) (by omega) ?_)
  refine XL.as (.int .i64 (((i : Int) - 1) - 1)) rfl ?_
  refine XL.nil ?_
  exact ⟨(i - 1, v9, ss ++ [((bs.getD (((i : Int) - 1).toNat) (0, 0, [])).1, (bs.getD (((i : Int) - 1).toNat) (0, 0, [])).2.1, (((bs.getD (((i : Int) - 1).toNat) (0, 0, [])).2.2)))], cs ++ [.int .i64 ((bs.getD (((i : Int) - 1).toNat) (0, 0, [])).1), .int .i64 ((bs.getD (((i : Int) - 1).toNat) (0, 0, [])).2.1), u1], Ls ++ [intsH 2 u1 ((((bs.getD (((i : Int) - 1).toNat) (0, 0, [])).2.2)))], (m) + 1, F3), _, (FLe.trans leG1 le3), rF, ⟨rfl, rfl, rfl, (vI (by (try dsimp only); omega)), trivial⟩, (sD (sC (sC (sC (sC (sC sR)))))), ⟨rfl, (FLe.trans leG1 le3), (by (try dsimp only) <;> omega), (hs5), (hc2), (by (try dsimp only); rw [List.length_append]; simp only [List.length_singleton]; omega), (DeepL.snoc hD rfl ⟨_, rfl, rfl⟩), ((Fresh.app hZ leG1 (Fresh.one f17_1hz) le3)), (by (try dsimp only); have h9 := hdr9 (by omega); rw [show i - 1 + 1 = i from by omega] at h9; rw [hss, h9, hi9 (by omega)]), (by (try dsimp only); omega)⟩, (by (try dsimp only); omega)⟩
 refine X.exit (thenQ_exit (thenQ_exit (blockQ_exit ?_)))
 refine X.seq (X.region ?_)
 refine cX (XOp.loadN [v4, sv] isAgg57 sizeOf57 rfl rfl (Rd.ownN [_] rfl rfl) ?_)
 refine cX (XOp.storeN (vs := [v4, sv]) [_, _, _] _ [v4, sv] sizeOf57 rfl rfl rfl (ones_cons (one_sl (IntsF.isSl hf1)) (ones_cons (one_sl hsv) ones_nil)) rfl rfl rfl ?_)
 refine XL.nil ?_
 refine X.freezeF [] _ _ rfl (fun F4 le4 hz3 => ?_)
 replace hf1 := hf1.mono le4
 replace hC := hC.mono le4
 have hf3 : StepsF F4 sv ss := CO.fz hC (by first | rfl | simp | omega) hz3.fz
 refine X.ret (retEnd (L' := L) [.agg #[v4, sv]] (.agg #[v4, sv]) (.cell rfl (loadNV [v4, sv] isAgg57 sizeOf57 rfl (Rd.ownN [_, _] rfl rfl)) .nil) rfl (FLe.trans (FLe.trans le1 leG1) le4) rF (sD (sD (sD (sD sR)))) ?_)
 have e9 : ss = walkL al k := by rw [hss, show i = 0 from by omega, List.drop_zero, hssb]; rfl
 rw [← e9, ← terms_get 0]
 exact ⟨_, _, rfl, hf1, hf3, (Fresh.app (Fresh.one hz1) le1 (Fresh.one (Fresh.deep hD hZ leG1 hz3 (by omega) le4)) (FLe.trans leG1 le4)), rfl⟩

/- spec.JoinOf -/
set_option maxHeartbeats 2000000 in
set_option maxRecDepth 20000 in
theorem sJoinOf_spec {F : FH} {L : List HP} {arv : Value} {ar : List Int} (har : IntsF F arv ar) {rsv : Value} {rs : List (List Int × List Int)} (hrs : PairsF F rsv rs) {av : Value} {a : List Int} (ha : IntsF F av a) {bv : Value} {b : List Int} (hb : IntsF F bv b) {n : Int} (hla : ar.length ≤ 4000000) (hlr : rs.length ≤ 4000000) (hrb : ∀ i, i < rs.length → (rs.getD i ([], [])).1.length ≤ 4000000 ∧ (rs.getD i ([], [])).2.length ≤ 4000000) (hla9 : a.length ≤ 4000000) (hlb9 : b.length ≤ 4000000) :
    Does prog 85 [.agg #[arv, rsv], av, bv, .int .i64 (n)] F (L) (fun v F' L' => ∃ (a1 : Value), ∃ (b1 : Value), ∃ (a2 : Value), ∃ (b2 : Value), (.tuple #[.agg #[a1, b1], .agg #[a2, b2], .bool ((joinF ar rs a b n).2.2.2.2)] : Value) = v ∧ (IntsF F' a1 (joinF ar rs a b n).1) ∧ (StepsF F' b1 (joinF ar rs a b n).2.1) ∧ (IntsF F' a2 (joinF ar rs a b n).2.2.1) ∧ (StepsF F' b2 (joinF ar rs a b n).2.2.2.1) ∧ L = L') := by
 refine Does.of_X func85 rfl rfl rfl ?_
 refine X.seq (X.region ?_)
 refine cX (XOp.box [arv, rsv] rfl rfl ?_)
 intro b1
 refine cX (XOp.alloc [(.slice none 0 0), (.slice none 0 0)] zeroValue57 rfl ?_)
 intro b2
 refine cX (XOp.alloc [(.slice none 0 0), (.slice none 0 0)] zeroValue57 rfl ?_)
 intro b3
 refine XL.as (.bool (false)) rfl ?_
 refine XL.nil (X.seq (X.seq (X.region ?_)))
 refine cX (XOp.loadN [arv, rsv] isAgg37 sizeOf37 rfl rfl (Rd.ownN [_, _] rfl rfl) ?_)
 refine XL.mv (av) rfl ?_
 refine XL.mv (.int .i64 (n)) rfl ?_
 refine cX (XOp.call (args := [.agg #[arv, rsv], av, .int .i64 (n)]) call140 rfl (l9Right_spec (n := n) har hrs ha (hla := (by first | assumption | rfl | omega | simp)) (hlr := (by first | assumption | rfl | omega | simp)) (hrb := (by first | assumption | rfl | omega | simp)) (hlt := (by first | assumption | rfl | omega | simp))) ?_)
 rintro _ _ _ _ ⟨rfl, rfl, rfl⟩
 refine cX (XOp.notB (b := reachOkL ar rs n [a]) rfl ?_)
 refine XL.mv (.bool (!(reachOkL ar rs n [a]))) rfl ?_
 by_cases h1 : (!(reachOkL ar rs n [a])) = true
 ·have hro : reachOkL ar rs n [a, b] = false := by rw [reachOk2]; simp_all
  refine XL.no (t := 20) rfl (vB h1) ?_
  refine XL.no (t := 20) rfl (vB h1) ?_
  refine XL.no (t := 20) rfl (vB h1) ?_
  refine XL.no (t := 20) rfl (vB h1) ?_
  refine XL.no (t := 20) rfl (vB h1) ?_
  refine cX (XOp.pickT (.bool (true)) (vB h1) rfl ?_)
  refine XL.nil ?_
  refine X.condT rfl ?_
  refine X.seq (X.region ?_)
  refine cX (XOp.build [(.slice none 0 0), (.slice none 0 0)] [(.slice none 0 0), (.slice none 0 0)] [(0, 1), (1, 1)] [] runUnderlying57 zeroValue57 rfl (.cons rfl sizeOf22 (.cons rfl sizeOf55 PlacesAre.nil)) rfl CellsAre.nil ?_)
  refine cX (XOp.build [(.slice none 0 0), (.slice none 0 0)] [(.slice none 0 0), (.slice none 0 0)] [(0, 1), (1, 1)] [] runUnderlying57 zeroValue57 rfl (.cons rfl sizeOf22 (.cons rfl sizeOf55 PlacesAre.nil)) rfl CellsAre.nil ?_)
  refine cX (XOp.storeN (vs := [(.slice none 0 0), (.slice none 0 0)]) [_] _ [(.slice none 0 0), (.slice none 0 0)] sizeOf57 rfl rfl rfl (ones_cons rfl (ones_cons rfl ones_nil)) rfl rfl rfl ?_)
  refine cX (XOp.storeN (vs := [(.slice none 0 0), (.slice none 0 0)]) [] _ [(.slice none 0 0), (.slice none 0 0)] sizeOf57 rfl rfl rfl (ones_cons rfl (ones_cons rfl ones_nil)) rfl rfl rfl ?_)
  refine XL.as (.bool (false)) rfl ?_
  refine XL.nil ?_
  refine X.ret (thenQ_ret (retEnd (L' := L) [.agg #[(.slice none 0 0), (.slice none 0 0)], .agg #[(.slice none 0 0), (.slice none 0 0)], .bool (false)] (.tuple #[.agg #[(.slice none 0 0), (.slice none 0 0)], .agg #[(.slice none 0 0), (.slice none 0 0)], .bool (false)]) (.cell rfl (loadNV [(.slice none 0 0), (.slice none 0 0)] isAgg57 sizeOf57 rfl (Rd.ownN [_] rfl rfl)) (.cell rfl (loadNV [(.slice none 0 0), (.slice none 0 0)] isAgg57 sizeOf57 rfl (Rd.ownN [] rfl rfl)) (.tmp rfl .nil))) rfl rF rF (sD (sD (sD sR))) ?_))
  have e : joinF ar rs a b n = ([], [], [], [], false) := joinF_no hro
  exact ⟨_, _, _, _, by rw [e], by rw [e]; exact IntsF.nilV, by rw [e]; exact SlOf.nilV, by rw [e]; exact IntsF.nilV, by rw [e]; exact SlOf.nilV, rfl⟩
 rw [Bool.not_eq_true] at h1
 refine XL.yes (t := 20) rfl (vB h1) (XOp.loadN [arv, rsv] isAgg37 sizeOf37 rfl rfl (Rd.ownN [_, _] rfl rfl) ?_)
 refine XL.yes (t := 20) rfl (vB h1) (XOp.move (bv) rfl ?_)
 refine XL.yes (t := 20) rfl (vB h1) (XOp.move (.int .i64 (n)) rfl ?_)
 refine XL.yes (t := 20) rfl (vB h1) (XOp.call (args := [.agg #[arv, rsv], bv, .int .i64 (n)]) call140 rfl (l9Right_spec (n := n) har hrs hb (hla := (by first | assumption | rfl | omega | simp)) (hlr := (by first | assumption | rfl | omega | simp)) (hrb := (by first | assumption | rfl | omega | simp)) (hlt := (by first | assumption | rfl | omega | simp))) ?_)
 rintro _ _ _ _ ⟨rfl, rfl, rfl⟩
 refine XL.yes (t := 20) rfl (vB h1) (XOp.notB (b := reachOkL ar rs n [b]) rfl ?_)
 refine cX (XOp.pickF (.bool (!(reachOkL ar rs n [b]))) (vB h1) rfl ?_)
 refine XL.nil ?_
 refine X.cond (t := !(reachOkL ar rs n [b])) rfl (fun h2 => ?_) (fun h2 => ?_)
 ·have hro : reachOkL ar rs n [a, b] = false := by rw [reachOk2]; simp_all
  refine X.seq (X.region ?_)
  refine cX (XOp.build [(.slice none 0 0), (.slice none 0 0)] [(.slice none 0 0), (.slice none 0 0)] [(0, 1), (1, 1)] [] runUnderlying57 zeroValue57 rfl (.cons rfl sizeOf22 (.cons rfl sizeOf55 PlacesAre.nil)) rfl CellsAre.nil ?_)
  refine cX (XOp.build [(.slice none 0 0), (.slice none 0 0)] [(.slice none 0 0), (.slice none 0 0)] [(0, 1), (1, 1)] [] runUnderlying57 zeroValue57 rfl (.cons rfl sizeOf22 (.cons rfl sizeOf55 PlacesAre.nil)) rfl CellsAre.nil ?_)
  refine cX (XOp.storeN (vs := [(.slice none 0 0), (.slice none 0 0)]) [_] _ [(.slice none 0 0), (.slice none 0 0)] sizeOf57 rfl rfl rfl (ones_cons rfl (ones_cons rfl ones_nil)) rfl rfl rfl ?_)
  refine cX (XOp.storeN (vs := [(.slice none 0 0), (.slice none 0 0)]) [] _ [(.slice none 0 0), (.slice none 0 0)] sizeOf57 rfl rfl rfl (ones_cons rfl (ones_cons rfl ones_nil)) rfl rfl rfl ?_)
  refine XL.as (.bool (false)) rfl ?_
  refine XL.nil ?_
  refine X.ret (thenQ_ret (retEnd (L' := L) [.agg #[(.slice none 0 0), (.slice none 0 0)], .agg #[(.slice none 0 0), (.slice none 0 0)], .bool (false)] (.tuple #[.agg #[(.slice none 0 0), (.slice none 0 0)], .agg #[(.slice none 0 0), (.slice none 0 0)], .bool (false)]) (.cell rfl (loadNV [(.slice none 0 0), (.slice none 0 0)] isAgg57 sizeOf57 rfl (Rd.ownN [_] rfl rfl)) (.cell rfl (loadNV [(.slice none 0 0), (.slice none 0 0)] isAgg57 sizeOf57 rfl (Rd.ownN [] rfl rfl)) (.tmp rfl .nil))) rfl rF rF (sD (sD (sD sR))) ?_))
  have e : joinF ar rs a b n = ([], [], [], [], false) := joinF_no hro
  exact ⟨_, _, _, _, by rw [e], by rw [e]; exact IntsF.nilV, by rw [e]; exact SlOf.nilV, by rw [e]; exact IntsF.nilV, by rw [e]; exact SlOf.nilV, rfl⟩
 have hro : reachOkL ar rs n [a, b] = true := by rw [reachOk2]; simp_all
 have hr3 := reachOk2_iff.1 hro
 have hsys := hr3.1.1
 have ho := hr3.1.2.1
 have hou := hr3.1.2.2
 have hn20 := hr3.2
 have hgda := reachL_good (ar := ar) (rs := rs) (t := a) (n := n) hn20.1
 have hrka := reachL_ok (n := n) hsys ho
 have hrla := hrka.1
 have hrda : ∀ i, i < (reachL ar rs a n).1.length → (EL (reachL ar rs a n).1 i).1.length ≤ 60 := fun i hi => (termOk_len (hrka.2 i hi)).2
 have htza : (terms (reachL ar rs a n).1).length = (reachL ar rs a n).1.length := terms_len
 have htqa : ∀ i, i < (terms (reachL ar rs a n).1).length → ((terms (reachL ar rs a n).1).getD i []).length ≤ 4000000 := fun i hi => by rw [terms_get]; have := hrda i (by omega); omega
 have hgdb := reachL_good (ar := ar) (rs := rs) (t := b) (n := n) hn20.1
 have hrkb := reachL_ok (n := n) hsys hou
 have hrlb := hrkb.1
 have hrdb : ∀ i, i < (reachL ar rs b n).1.length → (EL (reachL ar rs b n).1 i).1.length ≤ 60 := fun i hi => (termOk_len (hrkb.2 i hi)).2
 have htzb : (terms (reachL ar rs b n).1).length = (reachL ar rs b n).1.length := terms_len
 have htqb : ∀ i, i < (terms (reachL ar rs b n).1).length → ((terms (reachL ar rs b n).1).getD i []).length ≤ 4000000 := fun i hi => by rw [terms_get]; have := hrdb i (by omega); omega
 refine X.skip (X.seq (X.region ?_))
 refine cX (XOp.loadN [arv, rsv] isAgg37 sizeOf37 rfl rfl (Rd.ownN [_, _] rfl rfl) ?_)
 refine XL.mv (av) rfl ?_
 refine XL.mv (.int .i64 (n)) rfl ?_
 refine cX (XOp.call (args := [.agg #[arv, rsv], av, .int .i64 (n)]) call141 rfl (l9Find_spec (n := n) har hrs ha (hsys := (by first | assumption | rfl | omega | simp)) (ho := (by first | assumption | rfl | omega | simp)) (hn20 := (by first | assumption | rfl | omega | simp))) ?_)
 rintro _ F1 _ le1 ⟨x1, x2, x3, x4, rfl, hr1, hr2, hr3, hr4, rfl⟩
 replace har := har.mono le1
 replace hrs := hrs.mono le1
 replace hb := hb.mono le1
 refine cX (XOp.alloc [(.slice none 0 0), (.slice none 0 0), (.slice none 0 0), (.slice none 0 0), .bool (false)] zeroValue169 rfl ?_)
 intro b4
 refine cX (XOp.storeN (vs := [x1, x2, x3, x4, .bool ((reachL ar rs a n).2)]) [] _ [x1, x2, x3, x4, .bool ((reachL ar rs a n).2)] sizeOf169 rfl rfl rfl (ones_cons (one_sl (RowsF.isSl hr1)) (ones_cons (one_sl (IntsF.isSl hr2)) (ones_cons (one_sl (StepsF.isSl hr3)) (ones_cons (one_sl (IntsF.isSl hr4)) (ones_cons rfl ones_nil))))) rfl rfl rfl ?_)
 refine XL.nil (X.seq (X.region ?_))
 refine cX (XOp.loadN [arv, rsv] isAgg37 sizeOf37 rfl rfl (Rd.ownN [_, _, _] rfl rfl) ?_)
 refine XL.mv (bv) rfl ?_
 refine XL.mv (.int .i64 (n)) rfl ?_
 refine cX (XOp.call (args := [.agg #[arv, rsv], bv, .int .i64 (n)]) call141 rfl (l9Find_spec (n := n) har hrs hb (hsys := (by first | assumption | rfl | omega | simp)) (ho := (by first | assumption | rfl | omega | simp)) (hn20 := (by first | assumption | rfl | omega | simp))) ?_)
 rintro _ F2 _ le2 ⟨x5, x6, x7, x8, rfl, hr5, hr6, hr7, hr8, rfl⟩
 replace har := har.mono le2
 replace hr1 := hr1.mono le2
 replace hr2 := hr2.mono le2
 replace hr3 := hr3.mono le2
 replace hr4 := hr4.mono le2
 refine cX (XOp.alloc [(.slice none 0 0), (.slice none 0 0), (.slice none 0 0), (.slice none 0 0), .bool (false)] zeroValue169 rfl ?_)
 intro b5
 refine cX (XOp.storeN (vs := [x5, x6, x7, x8, .bool ((reachL ar rs b n).2)]) [] _ [x5, x6, x7, x8, .bool ((reachL ar rs b n).2)] sizeOf169 rfl rfl rfl (ones_cons (one_sl (RowsF.isSl hr5)) (ones_cons (one_sl (IntsF.isSl hr6)) (ones_cons (one_sl (StepsF.isSl hr7)) (ones_cons (one_sl (IntsF.isSl hr8)) (ones_cons rfl ones_nil))))) rfl rfl rfl ?_)
 refine XL.nil (X.seq (X.seq (X.region ?_)))
 refine XL.as (.int .i64 (0)) rfl ?_
 refine XL.nil (X.block ?_)
 refine X.loop (α := Nat) (fun k => [(8, ptr b2 0), (9, ptr b3 0), (11, ptr b4 0), (12, ptr b5 0), (13, .int .i64 ((k : Int)))]) (fun k => cellsH b5 [x5, x6, x7, x8, .bool ((reachL ar rs b n).2)] 169 :: cellsH b4 [x1, x2, x3, x4, .bool ((reachL ar rs a n).2)] 169 :: cellsH b3 [(.slice none 0 0), (.slice none 0 0)] 57 :: cellsH b2 [(.slice none 0 0), (.slice none 0 0)] 57 :: cellsH b1 [arv, rsv] 37 :: L) (fun k F' => F2 = F' ∧ (k ≤ (reachL ar rs a n).1.length) ∧ (∀ i, i < k → foundI (reachL ar rs b n).1 (EL (reachL ar rs a n).1 i).1 < 0)) (fun k => (reachL ar rs a n).1.length - k) 0 ⟨rfl, rfl, rfl, rfl, rfl, trivial⟩ (sC (sC (sC (sC (sC sR))))) ⟨rfl, (by (try dsimp only) <;> omega), (fun i hi => absurd hi (by omega))⟩ ?_
 rintro k rE _ _ ⟨rfl, hk, hno⟩
 show X _ _ _ _ (envs [(8, ptr b2 0), (9, ptr b3 0), (11, ptr b4 0), (12, ptr b5 0), (13, .int .i64 ((k : Int)))] rE) _ (cellsH b5 [x5, x6, x7, x8, .bool ((reachL ar rs b n).2)] 169 :: cellsH b4 [x1, x2, x3, x4, .bool ((reachL ar rs a n).2)] 169 :: cellsH b3 [(.slice none 0 0), (.slice none 0 0)] 57 :: cellsH b2 [(.slice none 0 0), (.slice none 0 0)] 57 :: cellsH b1 [arv, rsv] 37 :: L)
 have hgk : ((terms (reachL ar rs a n).1).getD k []) = (EL (reachL ar rs a n).1 k).1 := terms_get k
 have hfi : badG (fun y => !decide (y = ((terms (reachL ar rs a n).1).getD k []))) (terms (reachL ar rs b n).1) = foundI (reachL ar rs b n).1 (EL (reachL ar rs a n).1 k).1 := by rw [hgk]; exact foundI_terms
 have hfl := fun (h : 0 ≤ foundI (reachL ar rs b n).1 (EL (reachL ar rs a n).1 k).1) => (foundI_lt h).1
 have hka := fun (h : k < (reachL ar rs a n).1.length) => (show ((terms (reachL ar rs a n).1).getD k []).length ≤ 60 from by rw [hgk]; exact hrda k h)
 refine X.seq (X.seq (X.region ?_))
 refine XL.mv (.int .i64 ((k : Int))) rfl ?_
 refine cX (XOp.fieldP (b := b4) (0) runUnderlying169 rfl sizeOf58 (by decide) rfl rfl ?_)
 refine cX (XOp.load1 (v := x1) isAgg58 rfl (Rd.own [_] rfl rfl) ?_)
 refine cX (XOp.lenS (v := x1) (n := (terms (reachL ar rs a n).1).length) runUnderlying58 rfl hr1.slv ?_)
 refine cX (XOp.lss (a := (k : Int)) (b := (((terms (reachL ar rs a n).1).length : Nat) : Int)) rfl rfl ?_)
 refine XL.nil ?_
 refine X.condD (p := (k : Int) < (((terms (reachL ar rs a n).1).length : Nat) : Int)) rfl (fun h3 => ?_) (fun h3 => ?_)
 ·refine X.skip (X.seq (X.block (X.seq ?_)))
  obtain ⟨a1, ha1, hr9⟩ := hr1.rd (i := k) (by omega)
  refine X.draw [cellsH b5 [x5, x6, x7, x8, .bool ((reachL ar rs b n).2)] 169, cellsH b4 [x1, x2, x3, x4, .bool ((reachL ar rs a n).2)] 169, cellsH b3 [(.slice none 0 0), (.slice none 0 0)] 57, cellsH b2 [(.slice none 0 0), (.slice none 0 0)] 57, cellsH b1 [arv, rsv] 37] L 7 [[], [], [], [], [], [], []] [[], [0], [], [2], [], [3, 4], [5]] (phiL [fun us v => v = ptr b5 0, fun us v => v = x5, fun us v => v = ptr b4 0, fun us v => v = x1, fun us v => v = (.int .i64 ((k : Int)) : Value), fun us v => v = (.pointer (some (elemA x1 (k))) : Value), fun us v => v = a1]) (ownL [fun us v => [], fun us v => [], fun us v => [], fun us v => [], fun us v => [], fun us v => [], fun us v => []]) mixed rfl rfl (by kernel_rfl) ?_ ?_
  ·refine pC (fun vals R hpZ => ?_) ?_
   ·refine XG.op (XOp.fieldP (b := b5) (0) runUnderlying169 rfl sizeOf58 (by decide) rfl rfl ?_)
    exact ⟨rfl, rfl, rfl⟩
   refine pC (fun vals R hpZ => ?_) ?_
   ·rw [eS (l := [(0, ptr b5 0)]) ⟨hpZ 0 (by decide), trivial⟩]
    refine XG.op (XOp.load1 (v := x5) isAgg58 rfl (Rd.own [] rfl rfl) ?_)
    exact ⟨rfl, rfl, rfl⟩
   refine pC (fun vals R hpZ => ?_) ?_
   ·refine XG.op (XOp.fieldP (b := b4) (0) runUnderlying169 rfl sizeOf58 (by decide) rfl rfl ?_)
    exact ⟨rfl, rfl, rfl⟩
   refine pC (fun vals R hpZ => ?_) ?_
   ·rw [eS (l := [(2, ptr b4 0)]) ⟨hpZ 2 (by decide), trivial⟩]
    refine XG.op (XOp.load1 (v := x1) isAgg58 rfl (Rd.own [_] rfl rfl) ?_)
    exact ⟨rfl, rfl, rfl⟩
   refine pC (fun vals R hpZ => ?_) ?_
   ·refine XG.op (XOp.move (.int .i64 ((k : Int))) rfl ?_)
    exact ⟨rfl, rfl, rfl⟩
   refine pC (fun vals R hpZ => ?_) ?_
   ·rw [eS (l := [(3, x1), (4, (.int .i64 ((k : Int)) : Value))]) ⟨hpZ 3 (by decide), hpZ 4 (by decide), trivial⟩]
    refine XG.op (XOp.indexS (v := x1) (i := (k : Int)) (n := (terms (reachL ar rs a n).1).length) k runUnderlying58 sizeOf22 rfl rfl rfl hr1.slv (by omega) (Nat.mul_one _) ?_)
    exact ⟨rfl, rfl, rfl⟩
   refine pC (fun vals R hpZ => ?_) ?_
   ·rw [eS (l := [(5, (.pointer (some (elemA x1 (k))) : Value))]) ⟨hpZ 5 (by decide), trivial⟩]
    refine XG.op (XOp.load1 (v := a1) isAgg22 rfl (hr9 _) ?_)
    exact ⟨rfl, rfl, rfl⟩
   exact stepsP.nil
  intro vals hphi
  rw [eS (l := [(1, x5), (6, a1)]) ⟨(hphi 1 (by decide)), (hphi 6 (by decide)), trivial⟩]
  show XL _ _ _ _ _ _ _ (cellsH b5 [x5, x6, x7, x8, .bool ((reachL ar rs b n).2)] 169 :: cellsH b4 [x1, x2, x3, x4, .bool ((reachL ar rs a n).2)] 169 :: cellsH b3 [(.slice none 0 0), (.slice none 0 0)] 57 :: cellsH b2 [(.slice none 0 0), (.slice none 0 0)] 57 :: cellsH b1 [arv, rsv] 37 :: L)
  refine cX (XOp.call (args := [x5, a1]) call147 rfl (l1TermPlace_spec hr5 ha1 (hlt := (by omega)) (htb := (htqb)) (hlx := (by have := hka (by omega); omega))) ?_)
  rintro _ _ _ _ ⟨rfl, rfl, rfl⟩
  refine XL.as (.int .i64 (badG (fun y => !decide (y = (((terms (reachL ar rs a n).1).getD k [])))) (terms (reachL ar rs b n).1))) rfl ?_
  refine XL.nil (X.seq (X.region ?_))
  refine XL.mv (.int .i64 (badG (fun y => !decide (y = (((terms (reachL ar rs a n).1).getD k [])))) (terms (reachL ar rs b n).1))) rfl ?_
  refine cX (XOp.geq (a := badG (fun y => !decide (y = (((terms (reachL ar rs a n).1).getD k [])))) (terms (reachL ar rs b n).1)) (b := 0) rfl rfl ?_)
  refine XL.nil ?_
  refine X.condD (p := (badG (fun y => !decide (y = (((terms (reachL ar rs a n).1).getD k [])))) (terms (reachL ar rs b n).1) : Int) ≥ 0) rfl (fun h4 => ?_) (fun h4 => ?_)
  ·refine X.seq ?_
   refine X.drawG [cellsH b5 [x5, x6, x7, x8, .bool ((reachL ar rs b n).2)] 169, cellsH b4 [x1, x2, x3, x4, .bool ((reachL ar rs a n).2)] 169, cellsH b3 [(.slice none 0 0), (.slice none 0 0)] 57, cellsH b2 [(.slice none 0 0), (.slice none 0 0)] 57, cellsH b1 [arv, rsv] 37] L 5 [[], [], [], [], []] [[], [], [0, 1], [], []] [[], [], [], [], []] (phiG [fun FF us v => v = (.agg #[x1, x2, x3, x4, .bool ((reachL ar rs a n).2)] : Value), fun FF us v => v = (.int .i64 ((k : Int)) : Value), fun FF us v => (.agg #[((aggAt v 0)), ((aggAt v 1))] : Value) = v ∧ (IntsF FF ((aggAt v 0)) (EL (((reachL ar rs a n).1)) 0).1) ∧ (StepsF FF ((aggAt v 1)) (walkL (((reachL ar rs a n).1)) k)), fun FF us v => v = (.agg #[x5, x6, x7, x8, .bool ((reachL ar rs b n).2)] : Value), fun FF us v => v = (.int .i64 (badG (fun y => !decide (y = (((terms (reachL ar rs a n).1).getD k [])))) (terms (reachL ar rs b n).1)) : Value)]) (ownL [fun us v => [], fun us v => [], fun us v => [], fun us v => [], fun us v => []]) mixed rfl rfl (by kernel_rfl) (by kernel_rfl) (MonoG.get (mC (fun le h => h) (mC (fun le h => h) (mC (fun le h => ⟨h.1, h.2.1.mono le, h.2.2.mono le⟩) (mC (fun le h => h) (mC (fun le h => h) MonoG.nil)))))) ?_ ?_
   ·refine gC (fun vals Fs R leFs hpZ => ?_) ?_
    ·replace har := har.mono leFs
     replace hr1 := hr1.mono leFs
     replace hr2 := hr2.mono leFs
     replace hr3 := hr3.mono leFs
     replace hr4 := hr4.mono leFs
     replace hr5 := hr5.mono leFs
     replace hr6 := hr6.mono leFs
     replace hr7 := hr7.mono leFs
     replace hr8 := hr8.mono leFs
     refine XG.op (XOp.loadN [x1, x2, x3, x4, .bool ((reachL ar rs a n).2)] isAgg169 sizeOf169 rfl rfl (Rd.ownN [_] rfl rfl) ?_)
     exact ⟨rfl, rfl⟩
    refine gC (fun vals Fs R leFs hpZ => ?_) ?_
    ·refine XG.op (XOp.move (.int .i64 ((k : Int))) rfl ?_)
     exact ⟨rfl, rfl⟩
    refine gC (fun vals Fs R leFs hpZ => ?_) ?_
    ·replace har := har.mono leFs
     replace hr1 := hr1.mono leFs
     replace hr2 := hr2.mono leFs
     replace hr3 := hr3.mono leFs
     replace hr4 := hr4.mono leFs
     replace hr5 := hr5.mono leFs
     replace hr6 := hr6.mono leFs
     replace hr7 := hr7.mono leFs
     replace hr8 := hr8.mono leFs
     rw [eS (l := [(0, (.agg #[x1, x2, x3, x4, .bool ((reachL ar rs a n).2)] : Value)), (1, (.int .i64 ((k : Int)) : Value))]) ⟨(hpZ 0 (by decide)), (hpZ 1 (by decide)), trivial⟩]
     refine XG.op (XOp.call (args := [.agg #[x1, x2, x3, x4, .bool ((reachL ar rs a n).2)], .int .i64 (k : Int)]) call148 rfl (l9Walk_spec (k := k) hr1 hr2 hr3 hr4 (hk := (by omega)) (hll := (hrla)) (hlk := (hgda.1)) (hbd := (hrda))) ?_)
     rintro _ F4 _ le4 ⟨x11, x12, rfl, hr13, hr14, hr15, rfl⟩
     replace har := har.mono le4
     replace hr5 := hr5.mono le4
     replace hr6 := hr6.mono le4
     replace hr7 := hr7.mono le4
     replace hr8 := hr8.mono le4
     exact ⟨⟨rfl, hr13, hr14⟩, rfl⟩
    refine gC (fun vals Fs R leFs hpZ => ?_) ?_
    ·replace har := har.mono leFs
     replace hr5 := hr5.mono leFs
     replace hr6 := hr6.mono leFs
     replace hr7 := hr7.mono leFs
     replace hr8 := hr8.mono leFs
     refine XG.op (XOp.loadN [x5, x6, x7, x8, .bool ((reachL ar rs b n).2)] isAgg169 sizeOf169 rfl rfl (Rd.ownN [] rfl rfl) ?_)
     exact ⟨rfl, rfl⟩
    refine gC (fun vals Fs R leFs hpZ => ?_) ?_
    ·refine XG.op (XOp.move (.int .i64 (badG (fun y => !decide (y = (((terms (reachL ar rs a n).1).getD k [])))) (terms (reachL ar rs b n).1))) rfl ?_)
     exact ⟨rfl, rfl⟩
    exact stepsG.nil
   intro vals F5 le5 hphi
   obtain ⟨e2, f2_2hr1, f2_2hr2⟩ := hphi 2 (by decide)
   generalize hu1 : ((aggAt (vals 2) 0)) = u1 at e2 f2_2hr1 f2_2hr2
   generalize hu2 : ((aggAt (vals 2) 1)) = u2 at e2 f2_2hr1 f2_2hr2
   rw [eS (l := [(2, (.agg #[u1, u2] : Value)), (3, (.agg #[x5, x6, x7, x8, .bool ((reachL ar rs b n).2)] : Value)), (4, (.int .i64 (badG (fun y => !decide (y = (((terms (reachL ar rs a n).1).getD k [])))) (terms (reachL ar rs b n).1)) : Value))]) ⟨(e2).symm, (hphi 3 (by decide)), (hphi 4 (by decide)), trivial⟩]
   replace hr5 := hr5.mono le5
   replace hr6 := hr6.mono le5
   replace hr7 := hr7.mono le5
   replace hr8 := hr8.mono le5
   show XL _ _ _ _ _ _ _ (cellsH b5 [x5, x6, x7, x8, .bool ((reachL ar rs b n).2)] 169 :: cellsH b4 [x1, x2, x3, x4, .bool ((reachL ar rs a n).2)] 169 :: cellsH b3 [(.slice none 0 0), (.slice none 0 0)] 57 :: cellsH b2 [(.slice none 0 0), (.slice none 0 0)] 57 :: cellsH b1 [arv, rsv] 37 :: L)
   refine cX (XOp.call (args := [.agg #[x5, x6, x7, x8, .bool ((reachL ar rs b n).2)], .int .i64 (((badG (fun y => !decide (y = (((terms (reachL ar rs a n).1).getD k [])))) (terms (reachL ar rs b n).1)).toNat : Nat) : Int)]) call148 (by rw [show (((badG (fun y => !decide (y = (((terms (reachL ar rs a n).1).getD k [])))) (terms (reachL ar rs b n).1)).toNat : Nat) : Int) = badG (fun y => !decide (y = (((terms (reachL ar rs a n).1).getD k [])))) (terms (reachL ar rs b n).1) from by omega]; rfl) (l9Walk_spec (k := (badG (fun y => !decide (y = (((terms (reachL ar rs a n).1).getD k [])))) (terms (reachL ar rs b n).1)).toNat) hr5 hr6 hr7 hr8 (hk := (by rw [hfi]; exact hfl (by omega))) (hll := (hrlb)) (hlk := (hgdb.1)) (hbd := (hrdb))) ?_)
   rintro _ F6 _ le6 ⟨x13, x14, rfl, hr16, hr17, hr18, rfl⟩
   replace f2_2hr1 := f2_2hr1.mono le6
   replace f2_2hr2 := f2_2hr2.mono le6
   refine cX (XOp.storeN (vs := [u1, u2]) [_, _, _] _ [u1, u2] sizeOf57 rfl rfl rfl (ones_cons (one_sl (IntsF.isSl f2_2hr1)) (ones_cons (one_sl (StepsF.isSl f2_2hr2)) ones_nil)) rfl rfl rfl ?_)
   refine cX (XOp.storeN (vs := [x13, x14]) [_, _] _ [x13, x14] sizeOf57 rfl rfl rfl (ones_cons (one_sl (IntsF.isSl hr16)) (ones_cons (one_sl (StepsF.isSl hr17)) ones_nil)) rfl rfl rfl ?_)
   refine XL.as (.bool (true)) rfl ?_
   refine XL.nil ?_
   refine X.ret (blockQ_ret (thenQ_ret (thenQ_ret (blockQ_ret (thenQ_ret (retEnd (L' := L) [.agg #[u1, u2], .agg #[x13, x14], .bool (true)] (.tuple #[.agg #[u1, u2], .agg #[x13, x14], .bool (true)]) (.cell rfl (loadNV [u1, u2] isAgg57 sizeOf57 rfl (Rd.ownN [_, _, _] rfl rfl)) (.cell rfl (loadNV [x13, x14] isAgg57 sizeOf57 rfl (Rd.ownN [_, _] rfl rfl)) (.tmp rfl .nil))) rfl (FLe.trans (FLe.trans (FLe.trans le1 le2) le5) le6) rF (sD (sD (sD (sD (sD sR))))) ?_))))))
   have e : joinF ar rs a b n = ((EL (reachL ar rs a n).1 0).1, walkL (reachL ar rs a n).1 k, (EL (reachL ar rs b n).1 0).1, walkL (reachL ar rs b n).1 (badG (fun y => !decide (y = ((terms (reachL ar rs a n).1).getD k []))) (terms (reachL ar rs b n).1)).toNat, true) := by rw [joinF_yes hro, join0_at (k := k) (by omega) (by omega) hno, hgda.2.2.2, hgdb.2.2.2, hfi]
   exact ⟨_, _, _, _, by rw [e], by rw [e]; exact f2_2hr1, by rw [e]; exact f2_2hr2, by rw [e]; exact hr16, by rw [e]; exact hr17, rfl⟩
  refine X.skip (X.region ?_)
  refine XL.mv (.int .i64 ((k : Int))) rfl ?_
  refine cX (XOp.addR (a := (k : Int)) (b := 1) (((k + 1 : Nat) : Int)) rfl rfl (by omega) (by omega) ?_)
  refine XL.as (.int .i64 (((k + 1 : Nat) : Int))) rfl ?_
  refine XL.nil ?_
  exact ⟨k + 1, _, FLe.refl _, rF, ⟨rfl, rfl, rfl, rfl, rfl, trivial⟩, (sC (sC (sC (sC (sC sR))))), ⟨rfl, (by (try dsimp only) <;> omega), (fun i hi => (Nat.lt_or_ge i k).elim (fun h => hno i h) (fun h => by obtain rfl : i = k := (by omega); omega))⟩, (by omega)⟩
 refine X.exit (thenQ_exit (thenQ_exit (blockQ_exit ?_)))
 refine X.seq (X.region ?_)
 refine cX (XOp.build [(.slice none 0 0), (.slice none 0 0)] [(.slice none 0 0), (.slice none 0 0)] [(0, 1), (1, 1)] [] runUnderlying57 zeroValue57 rfl (.cons rfl sizeOf22 (.cons rfl sizeOf55 PlacesAre.nil)) rfl CellsAre.nil ?_)
 refine cX (XOp.build [(.slice none 0 0), (.slice none 0 0)] [(.slice none 0 0), (.slice none 0 0)] [(0, 1), (1, 1)] [] runUnderlying57 zeroValue57 rfl (.cons rfl sizeOf22 (.cons rfl sizeOf55 PlacesAre.nil)) rfl CellsAre.nil ?_)
 refine cX (XOp.storeN (vs := [(.slice none 0 0), (.slice none 0 0)]) [_, _, _] _ [(.slice none 0 0), (.slice none 0 0)] sizeOf57 rfl rfl rfl (ones_cons rfl (ones_cons rfl ones_nil)) rfl rfl rfl ?_)
 refine cX (XOp.storeN (vs := [(.slice none 0 0), (.slice none 0 0)]) [_, _] _ [(.slice none 0 0), (.slice none 0 0)] sizeOf57 rfl rfl rfl (ones_cons rfl (ones_cons rfl ones_nil)) rfl rfl rfl ?_)
 refine XL.as (.bool (false)) rfl ?_
 refine XL.nil ?_
 refine X.ret (retEnd (L' := L) [.agg #[(.slice none 0 0), (.slice none 0 0)], .agg #[(.slice none 0 0), (.slice none 0 0)], .bool (false)] (.tuple #[.agg #[(.slice none 0 0), (.slice none 0 0)], .agg #[(.slice none 0 0), (.slice none 0 0)], .bool (false)]) (.cell rfl (loadNV [(.slice none 0 0), (.slice none 0 0)] isAgg57 sizeOf57 rfl (Rd.ownN [_, _, _] rfl rfl)) (.cell rfl (loadNV [(.slice none 0 0), (.slice none 0 0)] isAgg57 sizeOf57 rfl (Rd.ownN [_, _] rfl rfl)) (.tmp rfl .nil))) rfl (FLe.trans le1 le2) rF (sD (sD (sD (sD (sD sR))))) ?_)
 have e : joinF ar rs a b n = ([], [], [], [], false) := (joinF_yes hro).trans (join0_none (fun i hi => hno i (by omega)))
 exact ⟨_, _, _, _, by rw [e], by rw [e]; exact IntsF.nilV, by rw [e]; exact SlOf.nilV, by rw [e]; exact IntsF.nilV, by rw [e]; exact SlOf.nilV, rfl⟩
end Go.Proofs.YtiaanelimbmniaaGreat
