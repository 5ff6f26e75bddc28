/-
  Walks, one after the other (part 4).
-/
import Derived.Test.YtiaanelimbmniaaQtL1
import Derived.Test.YtiaanelimbmniaaQtB2
set_option linter.unusedSimpArgs false
set_option linter.unusedVariables false
namespace Go.Proofs.Ytiaanelimbmniaa
open Go X M

/- spec.l7Steps -/
theorem l7Steps_spec {F : FH} {L : List HP} {arv : Value} {ar : List Int} (har : IntsF F arv ar) {rsv : Value} {rs : List (List Int × List Int)} (hrs : PairsF F rsv rs) {tv : Value} {t : List Int} (ht : IntsF F tv t) (hsys : sysOk ar rs = true) (ho : termOk ar t = true) :
    Does Try.prog 82 [.agg #[arv, rsv], tv] F (L) (fun v F' L' => ∃ (a : Value), (a : Value) = v ∧ (StepsF F' a (stepsL ar rs t)) ∧ L = L') := by
 refine Does.of_X Try.func82 rfl rfl rfl ?_
 have hnn := notNil_of_pos ht (by have := termOk_len ho; omega)
 have htl := termOk_len ho
 have hrl := (sysOk_iff.1 hsys).2.1
 have hsig := (sysOk_iff.1 hsys).1
 have hsl := sigOk_spec hsig
 refine X.seq ?_
 refine X.region ?_
 refine XL.cons (XOp.box [arv, rsv] rfl rfl ?_)
 intro b1
 refine XL.cons (XOp.assign ((.slice none 0 0)) rfl ?_)
 refine XL.nil ?_
 refine X.seq ?_
 refine X.region ?_
 refine XL.cons (XOp.buildSlice (s := 3) [] [.int .i64 (0), .int .i64 (0), (.slice none 0 0)] [] Try.runUnderlying39 Try.sizeOf77 Try.zeroValue77 rfl (by decide) rfl CellsAre.nil rfl ?_)
 intro v1 hv1
 refine XL.cons (XOp.assign (v1) rfl ?_)
 refine XL.nil ?_
 refine X.seq ?_
 refine X.seq ?_
 refine X.region ?_
 refine XL.cons (XOp.assign (.int .i64 (0)) rfl ?_)
 refine XL.nil ?_
 refine X.block ?_
 refine X.loop (α := Nat × Value × List StepT × List Value × Nat × FH) (fun xQ => [(1, tv), (2, ptr b1 0), (5, xQ.2.1), (6, .int .i64 (((xQ.1 : Nat) : Int)))]) (fun xQ => slH 77 3 xQ.2.1 xQ.2.2.2.2.1 xQ.2.2.2.1 :: cellsH b1 [arv, rsv] 33 :: L) (fun xQ F' => xQ.2.2.2.2.2 = F' ∧ F ≤ xQ.2.2.2.2.2 ∧ (xQ.1 ≤ t.length) ∧ (IsSl xQ.2.1) ∧ (StepsC xQ.2.2.2.2.2 xQ.2.2.2.1 xQ.2.2.1) ∧ (xQ.2.2.2.2.1 = xQ.2.2.1.length) ∧ (xQ.2.2.1 = stepsTo ar rs t xQ.1)) (fun xQ => t.length - xQ.1) (0, v1, [], [], 0, F) ⟨rfl, rfl, rfl, rfl, trivial⟩ (Sub.cons (Sub.cons (Sub.refl _))) ⟨rfl, FLe.refl _, (by (try dsimp only) <;> omega), ((isSl_lit hv1)), (CO.nil), (rfl), (rfl)⟩ ?_
 rintro ⟨k, sv, ss, cs, m, G1⟩ rE _ _ ⟨rfl, leG, hk, hsv, hC, hm, hss⟩
 show X _ _ _ _ (envs [(1, tv), (2, ptr b1 0), (5, sv), (6, .int .i64 (((k : Nat) : Int)))] rE) _ (slH 77 3 sv m cs :: cellsH b1 [arv, rsv] 33 :: L)
 replace leG : F ≤ G1 := leG
 dsimp only at hk hsv hC hm hss
 have hsl1 := stepsTo_len (ar := ar) (t := t) (rs := rs) hrl k
 have hss0 := hss
 have leG1 := leG
 replace har := har.mono leG1
 replace hrs := hrs.mono leG1
 replace ht := ht.mono leG1
 refine X.seq ?_
 refine X.seq ?_
 refine X.region ?_
 refine XL.cons (XOp.move (.int .i64 (((k : Nat) : Int))) rfl ?_)
 refine XL.cons (XOp.move (tv) rfl ?_)
 refine XL.cons (XOp.lenS (v := tv) (n := (t).length) Try.runUnderlying22 rfl ht.slv ?_)
 refine XL.cons (XOp.lss (a := ((k : Nat) : Int)) (b := (((t).length : Nat) : Int)) rfl rfl ?_)
 refine XL.nil ?_
 refine X.condD (p := (((k : Nat) : Int) : Int) < (((t).length : Nat) : Int)) rfl (fun h1 => ?_) (fun h1 => ?_)
 ·refine X.skip ?_
  refine X.seq ?_
  refine X.block ?_
  refine X.seq ?_
  refine X.region ?_
  refine XL.cons (XOp.assign (.int .i64 (0)) rfl ?_)
  refine XL.nil ?_
  refine X.block ?_
  refine X.loop (α := Nat × Value × List StepT × List Value × Nat × FH) (fun xQ => [(1, tv), (2, ptr b1 0), (5, xQ.2.1), (6, .int .i64 (((k : Nat) : Int))), (7, .int .i64 (((xQ.1 : Nat) : Int)))]) (fun xQ => slH 77 3 xQ.2.1 xQ.2.2.2.2.1 xQ.2.2.2.1 :: cellsH b1 [arv, rsv] 33 :: L) (fun xQ F' => xQ.2.2.2.2.2 = F' ∧ G1 ≤ xQ.2.2.2.2.2 ∧ (xQ.1 ≤ rs.length) ∧ (IsSl xQ.2.1) ∧ (StepsC xQ.2.2.2.2.2 xQ.2.2.2.1 xQ.2.2.1) ∧ (xQ.2.2.2.2.1 = xQ.2.2.1.length) ∧ (xQ.2.2.1 = stepsTo ar rs t k ++ stepsRow ar rs t k xQ.1)) (fun xQ => rs.length - xQ.1) (0, sv, ss, cs, m, G1) ⟨rfl, rfl, rfl, rfl, rfl, trivial⟩ (Sub.cons (Sub.cons (Sub.refl _))) ⟨rfl, FLe.refl _, (by (try dsimp only) <;> omega), (hsv), (hC), (hm), (by (try dsimp only); rw [hss0]; simp [stepsRow])⟩ ?_
  rintro ⟨r, sv, ss, cs, m, G2⟩ rE _ _ ⟨rfl, leG, hr, hsvi, hCi, hmi, hssi⟩
  show X _ _ _ _ (envs [(1, tv), (2, ptr b1 0), (5, sv), (6, .int .i64 (((k : Nat) : Int))), (7, .int .i64 (((r : Nat) : Int)))] rE) _ (slH 77 3 sv m cs :: cellsH b1 [arv, rsv] 33 :: L)
  replace leG : G1 ≤ G2 := leG
  dsimp only at hr hsvi hCi hmi hssi
  have hsl2 := stepsRow_len (ar := ar) (rs := rs) (t := t) (p := k) r
  have hssl : ss.length ≤ 1000 := by rw [hssi, List.length_append]; omega
  have leG2 := leG
  replace har := har.mono leG2
  replace hrs := hrs.mono leG2
  replace ht := ht.mono leG2
  replace hC := hC.mono leG2
  refine X.seq ?_
  refine X.seq ?_
  refine X.region ?_
  refine XL.cons (XOp.move (.int .i64 (((r : Nat) : Int))) rfl ?_)
  refine XL.cons (XOp.fieldP (b := b1) (1) Try.runUnderlying33 rfl Try.sizeOf31 (by decide) rfl rfl ?_)
  refine XL.cons (XOp.load1 (v := rsv) Try.isAgg31 rfl (Rd.own [_] rfl rfl) ?_)
  refine XL.cons (XOp.lenS (v := rsv) (n := (rs).length) Try.runUnderlying31 rfl hrs.slv ?_)
  refine XL.cons (XOp.lss (a := ((r : Nat) : Int)) (b := (((rs).length : Nat) : Int)) rfl rfl ?_)
  refine XL.nil ?_
  refine X.condD (p := (((r : Nat) : Int) : Int) < (((rs).length : Nat) : Int)) rfl (fun h2 => ?_) (fun h2 => ?_)
  ·refine X.skip ?_
   refine X.seq ?_
   refine X.block ?_
   refine X.seq ?_
   refine X.region ?_
   refine XL.cons (XOp.loadN [arv, rsv] Try.isAgg33 Try.sizeOf33 rfl rfl (Rd.ownN [_] rfl rfl) ?_)
   refine XL.cons (XOp.move (tv) rfl ?_)
   refine XL.cons (XOp.move (.int .i64 (((k : Nat) : Int))) rfl ?_)
   refine XL.cons (XOp.move (.int .i64 (((r : Nat) : Int))) rfl ?_)
   refine XL.cons (XOp.call (args := [.agg #[arv, rsv], tv, .int .i64 ((k : Nat) : Int), .int .i64 ((r : Nat) : Int)]) Try.call89 rfl (l7Step_spec (p := k) (r := r) har hrs ht (hsys := (by first | assumption | rfl | omega | (left; simp; done) | (right; simp; done))) (ho := (by first | assumption | rfl | omega | (left; simp; done) | (right; simp; done))) (hp := (by first | assumption | rfl | omega | (left; simp; done) | (right; simp; done))) (hr := (by first | assumption | rfl | omega | (left; simp; done) | (right; simp; done)))) ?_)
   rintro _ F1 _ le1 ⟨x1, rfl, hr1, rfl⟩
   replace har := har.mono le1
   replace hrs := hrs.mono le1
   replace ht := ht.mono le1
   replace hC := hC.mono le1
   replace hCi := hCi.mono le1
   refine XL.cons (XOp.move (.tuple #[x1, .bool ((stepL ar rs t k r).isSome)]) rfl ?_)
   refine XL.cons (XOp.extract (x1) rfl rfl ?_)
   refine XL.cons (XOp.extract (.bool ((stepL ar rs t k r).isSome)) rfl rfl ?_)
   refine XL.cons (XOp.assign (x1) rfl ?_)
   refine XL.cons (XOp.assign (.bool ((stepL ar rs t k r).isSome)) rfl ?_)
   refine XL.nil ?_
   refine X.seq ?_
   refine X.region ?_
   refine XL.cons (XOp.move (.bool ((stepL ar rs t k r).isSome)) rfl ?_)
   refine XL.nil ?_
   refine X.cond (t := (stepL ar rs t k r).isSome) rfl (fun h3 => ?_) (fun h3 => ?_)
   ·have hone : stepOne ar rs t k r = [((k : Int), (r : Int), (stepL ar rs t k r).getD [])] := (one_some h3).1
    refine X.region ?_
    refine XL.cons (XOp.move (sv) rfl ?_)
    refine XL.cons (XOp.move (.int .i64 (((k : Nat) : Int))) rfl ?_)
    refine XL.cons (XOp.move (.int .i64 (((r : Nat) : Int))) rfl ?_)
    refine XL.cons (XOp.move (x1) rfl ?_)
    refine XL.cons (XOp.build [.int .i64 (((k : Nat) : Int)), .int .i64 (((r : Nat) : Int)), x1] [.int .i64 (0), .int .i64 (0), (.slice none 0 0)] [(0, 1), (1, 1), (2, 1)] [(0, [.int .i64 (((k : Nat) : Int))]), (1, [.int .i64 (((r : Nat) : Int))]), (2, [x1])] Try.runUnderlying77 Try.zeroValue77 rfl (.cons rfl Try.sizeOf2 (.cons rfl Try.sizeOf2 (.cons rfl Try.sizeOf22 PlacesAre.nil))) rfl (.cons rfl (.cons rfl (.cons (cells_one (IntsF.isSl hr1)) CellsAre.nil))) ?_)
    refine XL.cons (XOp.buildSlice (s := 3) [.int .i64 (((k : Nat) : Int)), .int .i64 (((r : Nat) : Int)), x1] [.int .i64 (0), .int .i64 (0), (.slice none 0 0)] [(0, [.int .i64 (((k : Nat) : Int)), .int .i64 (((r : Nat) : Int)), x1])] Try.runUnderlying39 Try.sizeOf77 Try.zeroValue77 rfl (by decide) rfl (.cons rfl CellsAre.nil) rfl ?_)
    intro v2 hv2
    refine XL.cons (XOp.append (m := 1) (bytes := 40) (cs := cs) [_] _ [.int .i64 (((k : Nat) : Int)), .int .i64 (((r : Nat) : Int)), x1] Try.runUnderlying39 Try.typeInfo77 rfl rfl rfl rfl rfl rfl rfl (SlV.own [] rfl) rfl (Rd.lit [] rfl) (ones_cons rfl (ones_cons rfl (ones_cons (one_sl (IntsF.isSl hr1)) ones_nil))) (by (try simp only [List.length_append, List.length_nil, List.length_cons, List.length_singleton]); omega) (by (try simp only [List.length_append, List.length_nil, List.length_cons, List.length_singleton]); omega) ?_)
    intro v3 hs1 hn1 hm1
    have hc1 := StepsC.snoc hCi (i := ((k : Nat) : Int)) (j := ((r : Nat) : Int)) hr1
    refine XL.cons (XOp.assign (v3) rfl ?_)
    refine XL.nil ?_
    refine X.region ?_
    refine XL.cons (XOp.move (.int .i64 (((r : Nat) : Int))) rfl ?_)
    refine XL.cons (XOp.addR (a := ((r : Nat) : Int)) (b := 1) (((r + 1 : Nat) : Int)) rfl rfl (by omega) (by omega) ?_)
    refine XL.cons (XOp.assign (.int .i64 (((r + 1 : Nat) : Int))) rfl ?_)
    refine XL.nil ?_
    exact ⟨(r + 1, v3, ss ++ [(((k : Nat) : Int), ((r : Nat) : Int), (stepL ar rs t k r).getD [])], cs ++ [.int .i64 (((k : Nat) : Int)), .int .i64 (((r : Nat) : Int)), x1], (m) + 1, F1), _, (FLe.trans leG2 le1), (FLe.refl _), ⟨rfl, rfl, rfl, rfl, rfl, trivial⟩, (Sub.drop (Sub.cons (Sub.cons (Sub.refl _)))), ⟨rfl, (FLe.trans leG2 le1), (by (try dsimp only) <;> omega), (hs1), (hc1), (by (try dsimp only); (try rw [List.length_append, List.length_singleton]); omega), (by (try dsimp only); rw [hssi, stepsRow_succ, hone]; simp)⟩, (by omega)⟩
   ·have hone : stepOne ar rs t k r = [] := stepOne_no h3
    refine X.skip ?_
    refine X.region ?_
    refine XL.cons (XOp.move (.int .i64 (((r : Nat) : Int))) rfl ?_)
    refine XL.cons (XOp.addR (a := ((r : Nat) : Int)) (b := 1) (((r + 1 : Nat) : Int)) rfl rfl (by omega) (by omega) ?_)
    refine XL.cons (XOp.assign (.int .i64 (((r + 1 : Nat) : Int))) rfl ?_)
    refine XL.nil ?_
    exact ⟨(r + 1, sv, ss, cs, m, F1), _, (FLe.trans leG2 le1), (FLe.refl _), ⟨rfl, rfl, rfl, rfl, rfl, trivial⟩, (Sub.cons (Sub.cons (Sub.refl _))), ⟨rfl, (FLe.trans leG2 le1), (by (try dsimp only) <;> omega), (hsvi), (hCi), (by (try dsimp only); (try rw [List.length_append, List.length_singleton]); omega), (by (try dsimp only); rw [hssi, stepsRow_succ, hone]; simp)⟩, (by omega)⟩
  ·refine X.exit (thenQ_exit (thenQ_exit (blockQ_exit ?_)))
   refine X.region ?_
   refine XL.cons (XOp.move (.int .i64 (((k : Nat) : Int))) rfl ?_)
   refine XL.cons (XOp.addR (a := ((k : Nat) : Int)) (b := 1) (((k + 1 : Nat) : Int)) rfl rfl (by omega) (by omega) ?_)
   refine XL.cons (XOp.assign (.int .i64 (((k + 1 : Nat) : Int))) rfl ?_)
   refine XL.nil ?_
   exact ⟨(k + 1, sv, ss, cs, m, G2), _, (FLe.trans leG1 leG2), (FLe.refl _), ⟨rfl, rfl, rfl, rfl, trivial⟩, (Sub.cons (Sub.cons (Sub.refl _))), ⟨rfl, (FLe.trans leG1 leG2), (by (try dsimp only) <;> omega), (hsvi), (hCi), (hmi), (by (try dsimp only); rw [hssi, stepsTo_succ, show r = rs.length from by omega])⟩, (by omega)⟩
 ·refine X.exit (thenQ_exit (thenQ_exit (blockQ_exit ?_)))
  refine X.seq ?_
  refine X.region ?_
  refine XL.cons (XOp.move (sv) rfl ?_)
  refine XL.cons (XOp.assign (sv) rfl ?_)
  refine XL.nil ?_
  refine X.freezeF [] _ _ rfl (fun F2 le2 hz1 => ?_)
  replace har := har.mono le2
  replace hrs := hrs.mono le2
  replace ht := ht.mono le2
  replace hC := hC.mono le2
  have hf1 : StepsF F2 sv ss := CO.fz hC (by first | rfl | simp | omega) hz1.fz
  refine X.ret (retEnd (L' := L) [sv] (sv) (.tmp rfl .nil) rfl (FLe.trans leG1 le2) (FLe.refl _) (Sub.drop (Sub.refl _)) ?_)
  have e1 : stepsL ar rs t = ss := by rw [hss, show k = t.length from by omega]; rfl
  rw [e1]
  exact ⟨_, rfl, hf1, rfl⟩

/- spec.l1TermPlace -/
theorem l1TermPlace_spec {F : FH} {L : List HP} {tsv : Value} {ts : List (List Int)} (hts : RowsF F tsv ts) {xv : Value} {x : List Int} (hx : IntsF F xv x) (hlt : ts.length ≤ 4000000) (htb : ∀ i, i < ts.length → (ts.getD i []).length ≤ 4000000) (hlx : x.length ≤ 4000000) :
    Does Try.prog 68 [tsv, xv] F (L) (fun v F' L' => (.int .i64 (badG (fun y => !decide (y = x)) ts) : Value) = v ∧ F = F' ∧ L = L') := by
 refine Does.of_X Try.func68 rfl rfl rfl ?_
 refine X.seq ?_
 refine X.region ?_
 refine XL.cons (XOp.assign (.int .i64 (0)) rfl ?_)
 refine XL.nil ?_
 refine X.seq ?_
 refine X.seq ?_
 refine X.region ?_
 refine XL.cons (XOp.assign (.int .i64 (0)) rfl ?_)
 refine XL.nil ?_
 refine X.block ?_
 refine X.loop (α := Nat) (fun k => [(0, tsv), (1, xv), (5, .int .i64 (((k : Nat) : Int)))]) (fun k => L) (fun k F' => F = F' ∧ (k ≤ ts.length) ∧ (∀ i, i < k → (fun y => !decide (y = x)) (ts.getD i []) = true)) (fun k => ts.length - k) 0 ⟨rfl, rfl, rfl, trivial⟩ (Sub.refl _) ⟨rfl, (by (try dsimp only) <;> omega), (fun i hi => absurd hi (by omega))⟩ ?_
 rintro k rE _ _ ⟨rfl, hk, hall⟩
 show X _ _ _ _ (envs [(0, tsv), (1, xv), (5, .int .i64 (((k : Nat) : Int)))] rE) _ (L)
 have htbk := htb k
 refine X.seq ?_
 refine X.seq ?_
 refine X.region ?_
 refine XL.cons (XOp.move (.int .i64 (((k : Nat) : Int))) rfl ?_)
 refine XL.cons (XOp.move (tsv) rfl ?_)
 refine XL.cons (XOp.lenS (v := tsv) (n := (ts).length) Try.runUnderlying49 rfl hts.slv ?_)
 refine XL.cons (XOp.lss (a := ((k : Nat) : Int)) (b := (((ts).length : Nat) : Int)) rfl rfl ?_)
 refine XL.nil ?_
 refine X.condD (p := (((k : Nat) : Int) : Int) < (((ts).length : Nat) : Int)) rfl (fun h1 => ?_) (fun h1 => ?_)
 ·refine X.skip ?_
  refine X.seq ?_
  refine X.block ?_
  refine X.seq ?_
  refine X.region ?_
  refine XL.cons (XOp.move (tsv) rfl ?_)
  refine XL.cons (XOp.move (.int .i64 (((k : Nat) : Int))) rfl ?_)
  refine XL.cons (XOp.indexS (v := tsv) (i := ((k : Nat) : Int)) (n := (ts).length) k Try.runUnderlying49 Try.sizeOf22 rfl rfl rfl hts.slv (by omega) (Nat.mul_one _) ?_)
  obtain ⟨a1, ha1, hr1⟩ := hts.rd (i := k) (by omega)
  refine XL.cons (XOp.load1 (v := a1) Try.isAgg22 rfl (hr1 _) ?_)
  refine XL.cons (XOp.move (xv) rfl ?_)
  refine XL.cons (XOp.call (args := [a1, xv]) Try.call101 rfl (SameTerm_spec ha1 hx (hbd := (by first | assumption | rfl | omega | (left; simp; done) | (right; simp; done)))) ?_)
  rintro _ _ _ _ ⟨rfl, rfl, rfl⟩
  refine XL.nil ?_
  refine X.condD (p := ((ts.getD k [])) = x) rfl (fun h2 => ?_) (fun h2 => ?_)
  ·refine X.seq ?_
   refine X.region ?_
   refine XL.cons (XOp.move (.int .i64 (((k : Nat) : Int))) rfl ?_)
   refine XL.cons (XOp.assign (.int .i64 (((k : Nat) : Int))) rfl ?_)
   refine XL.nil ?_
   refine X.ret (blockQ_ret (thenQ_ret (thenQ_ret (blockQ_ret (thenQ_ret (retEnd (L' := L) [.int .i64 (((k : Nat) : Int))] (.int .i64 (((k : Nat) : Int))) (.tmp rfl .nil) rfl (FLe.refl _) (FLe.refl _) (Sub.refl _) ?_))))))
   exact ⟨(congrArg (Value.int .i64) (badG_at [] (by omega) (by simp_all) hall)), rfl, rfl⟩
  ·refine X.skip ?_
   refine X.region ?_
   refine XL.cons (XOp.move (.int .i64 (((k : Nat) : Int))) rfl ?_)
   refine XL.cons (XOp.addR (a := ((k : Nat) : Int)) (b := 1) (((k + 1 : Nat) : Int)) rfl rfl (by omega) (by omega) ?_)
   refine XL.cons (XOp.assign (.int .i64 (((k + 1 : Nat) : Int))) rfl ?_)
   refine XL.nil ?_
   exact ⟨k + 1, _, FLe.refl _, (FLe.refl _), ⟨rfl, rfl, rfl, trivial⟩, (Sub.refl _), ⟨rfl, (by (try dsimp only) <;> omega), (fun i hi => (Nat.lt_or_ge i k).elim (fun h => hall i h) (fun h => by obtain rfl : i = k := (by omega); simp_all))⟩, (by omega)⟩
 ·refine X.exit (thenQ_exit (thenQ_exit (blockQ_exit ?_)))
  refine X.seq ?_
  refine X.region ?_
  refine XL.cons (XOp.assign (.int .i64 (-1)) rfl ?_)
  refine XL.nil ?_
  refine X.ret (retEnd (L' := L) [.int .i64 (-1)] (.int .i64 (-1)) (.tmp rfl .nil) rfl (FLe.refl _) (FLe.refl _) (Sub.refl _) ?_)
  exact ⟨(congrArg (Value.int .i64) (badG_none [] (fun i hi => hall i (by omega)))), rfl, rfl⟩

/- spec.l9Right -/
theorem l9Right_spec {F : FH} {L : List HP} {arv : Value} {ar : List Int} (har : IntsF F arv ar) {rsv : Value} {rs : List (List Int × List Int)} (hrs : PairsF F rsv rs) {tv : Value} {t : List Int} (ht : IntsF F tv t) {n : Int} (hla : ar.length ≤ 4000000) (hlr : rs.length ≤ 4000000) (hrb : ∀ i, i < rs.length → (rs.getD i ([], [])).1.length ≤ 4000000 ∧ (rs.getD i ([], [])).2.length ≤ 4000000) (hlt : t.length ≤ 4000000) :
    Does Try.prog 48 [.agg #[arv, rsv], tv, .int .i64 (n)] F (L) (fun v F' L' => (.bool (reachOkL ar rs n [t]) : Value) = v ∧ F = F' ∧ L = L') := by
 refine Does.of_X Try.func48 rfl rfl rfl ?_
 refine X.seq ?_
 refine X.region ?_
 refine XL.cons (XOp.box [arv, rsv] rfl rfl ?_)
 intro b1
 refine XL.cons (XOp.assign (.bool (false)) rfl ?_)
 refine XL.nil ?_
 refine X.seq ?_
 refine X.region ?_
 refine XL.cons (XOp.loadN [arv, rsv] Try.isAgg33 Try.sizeOf33 rfl rfl (Rd.ownN [] rfl rfl) ?_)
 refine XL.cons (XOp.move (tv) rfl ?_)
 refine XL.cons (XOp.call (args := [.agg #[arv, rsv], tv]) Try.call53 rfl (l7Right_spec har hrs ht (hla := (by first | assumption | rfl | omega | (left; simp; done) | (right; simp; done))) (hlr := (by first | assumption | rfl | omega | (left; simp; done) | (right; simp; done))) (hrb := (by first | assumption | rfl | omega | (left; simp; done) | (right; simp; done))) (hlt := (by first | assumption | rfl | omega | (left; simp; done) | (right; simp; done)))) ?_)
 rintro _ _ _ _ ⟨rfl, rfl, rfl⟩
 refine XL.cons (XOp.move (.bool (rightB ar rs t)) rfl ?_)
 by_cases h1 : (rightB ar rs t) = true
 ·refine XL.yes (t := 10) rfl (congrArg Value.bool h1) (XOp.move (.int .i64 (n)) rfl ?_)
  refine XL.yes (t := 10) rfl (congrArg Value.bool h1) (XOp.call (args := [.int .i64 (n), .int .i64 (0), .int .i64 (20)]) Try.call81 rfl (l1In_spec (n := n) (a := 0) (b := 20)) ?_)
  rintro _ _ _ _ ⟨rfl, rfl, rfl⟩
  refine XL.cons (XOp.pickT (.bool (decide (0 ≤ n ∧ n ≤ 20))) (congrArg Value.bool h1) rfl ?_)
  refine XL.cons (XOp.assign (.bool (decide (0 ≤ n ∧ n ≤ 20))) rfl ?_)
  refine XL.nil ?_
  refine X.ret (retEnd (L' := L) [.bool (decide (0 ≤ n ∧ n ≤ 20))] (.bool (decide (0 ≤ n ∧ n ≤ 20))) (.tmp rfl .nil) rfl (FLe.refl _) (FLe.refl _) (Sub.drop (Sub.refl _)) ?_)
  exact ⟨(congrArg Value.bool (by rw [reachOk_right]; simp_all)), rfl, rfl⟩
 ·rw [Bool.not_eq_true] at h1
  refine XL.no (t := 10) rfl (congrArg Value.bool h1) ?_
  refine XL.no (t := 10) rfl (congrArg Value.bool h1) ?_
  refine XL.cons (XOp.pickF (.bool (false)) (congrArg Value.bool h1) rfl ?_)
  refine XL.cons (XOp.assign (.bool (false)) rfl ?_)
  refine XL.nil ?_
  refine X.ret (retEnd (L' := L) [.bool (false)] (.bool (false)) (.tmp rfl .nil) rfl (FLe.refl _) (FLe.refl _) (Sub.drop (Sub.refl _)) ?_)
  exact ⟨(congrArg Value.bool (by rw [reachOk_right]; simp_all)), rfl, rfl⟩

/- spec.l9Find -/
set_option maxHeartbeats 1000000 in
set_option maxRecDepth 20000 in
theorem l9Find_spec {F : FH} {L : List HP} {arv : Value} {ar : List Int} (har : IntsF F arv ar) {rsv : Value} {rs : List (List Int × List Int)} (hrs : PairsF F rsv rs) {tv : Value} {t : List Int} (ht : IntsF F tv t) {n : Int} (hsys : sysOk ar rs = true) (ho : termOk ar t = true) (hn20 : 0 ≤ n ∧ n ≤ 20) :
    Does Try.prog 64 [.agg #[arv, rsv], tv, .int .i64 (n)] F (L) (fun v F' L' => ∃ (x1 : Value), ∃ (x2 : Value), ∃ (x3 : Value), ∃ (x4 : Value), (.agg #[x1, x2, x3, x4, .bool ((reachL ar rs t n).2)] : Value) = v ∧ (RowsF F' x1 (terms (reachL ar rs t n).1)) ∧ (IntsF F' x2 (froms (reachL ar rs t n).1)) ∧ (StepsF F' x3 (bys (reachL ar rs t n).1)) ∧ (IntsF F' x4 (deeps (reachL ar rs t n).1)) ∧ L = L') := by
 refine Does.of_X Try.func64 rfl rfl rfl ?_
 have hnn := notNil_of_pos ht (by have := termOk_len ho; omega)
 have htl := termOk_len ho
 have hrl := (sysOk_iff.1 hsys).2.1
 have hsig := (sysOk_iff.1 hsys).1
 have hsl := sigOk_spec hsig
 refine X.seq ?_
 refine X.region ?_
 refine XL.cons (XOp.box [arv, rsv] rfl rfl ?_)
 intro b1
 refine XL.cons (XOp.alloc [(.slice none 0 0), (.slice none 0 0), (.slice none 0 0), (.slice none 0 0), .bool (false)] Try.zeroValue85 rfl ?_)
 intro b2
 refine XL.nil ?_
 refine X.seq ?_
 refine X.region ?_
 refine XL.cons (XOp.move (tv) rfl ?_)
 refine XL.cons (XOp.frzF <| XOp.call (args := [tv]) Try.call49 rfl (l1Copy_spec ht (hlt := (by first | assumption | rfl | omega | (left; simp; done) | (right; simp; done)))) ?_)
 rintro v1 _ _ _ ⟨rfl, hs1, rfl⟩
 refine ⟨_, _, rfl, fun F1 le1 hz1 => ?_⟩
 replace har := har.mono le1
 replace hrs := hrs.mono le1
 replace ht := ht.mono le1
 have hf1 : IntsF F1 v1 ((t)) := intsH.fz (xs := (t)) hz1.fz
 refine XL.cons (XOp.buildSlice (s := 1) [v1] [(.slice none 0 0)] [(0, [v1])] Try.runUnderlying49 Try.sizeOf22 Try.zeroValue22 rfl (by decide) rfl (.cons (cells_one (IntsF.isSl hf1)) CellsAre.nil) rfl ?_)
 intro v2 hv1
 refine XL.cons (XOp.buildSlice (s := 1) [.int .i64 (-1)] [.int .i64 (0)] [(0, [.int .i64 (-1)])] Try.runUnderlying22 Try.sizeOf2 Try.zeroValue2 rfl (by decide) rfl (.cons rfl CellsAre.nil) rfl ?_)
 intro v3 hv2
 refine XL.cons (XOp.build [.int .i64 (0), .int .i64 (0), (.slice none 0 0)] [.int .i64 (0), .int .i64 (0), (.slice none 0 0)] [(0, 1), (1, 1), (2, 1)] [] Try.runUnderlying77 Try.zeroValue77 rfl (.cons rfl Try.sizeOf2 (.cons rfl Try.sizeOf2 (.cons rfl Try.sizeOf22 PlacesAre.nil))) rfl CellsAre.nil ?_)
 refine XL.cons (XOp.buildSlice (s := 3) [.int .i64 (0), .int .i64 (0), (.slice none 0 0)] [.int .i64 (0), .int .i64 (0), (.slice none 0 0)] [(0, [.int .i64 (0), .int .i64 (0), (.slice none 0 0)])] Try.runUnderlying39 Try.sizeOf77 Try.zeroValue77 rfl (by decide) rfl (.cons rfl CellsAre.nil) rfl ?_)
 intro v4 hv3
 refine XL.cons (XOp.buildSlice (s := 1) [.int .i64 (0)] [.int .i64 (0)] [(0, [.int .i64 (0)])] Try.runUnderlying22 Try.sizeOf2 Try.zeroValue2 rfl (by decide) rfl (.cons rfl CellsAre.nil) rfl ?_)
 intro v5 hv4
 refine XL.cons (XOp.build [v2, v3, v4, v5, .bool (true)] [(.slice none 0 0), (.slice none 0 0), (.slice none 0 0), (.slice none 0 0), .bool (false)] [(0, 1), (1, 1), (2, 1), (3, 1), (4, 1)] [(0, [v2]), (1, [v3]), (2, [v4]), (3, [v5]), (4, [.bool (true)])] Try.runUnderlying85 Try.zeroValue85 rfl (.cons rfl Try.sizeOf49 (.cons rfl Try.sizeOf22 (.cons rfl Try.sizeOf39 (.cons rfl Try.sizeOf22 (.cons rfl Try.sizeOf4 PlacesAre.nil))))) rfl (.cons (cells_one (isSl_lit hv1)) (.cons (cells_one (isSl_lit hv2)) (.cons (cells_one (isSl_lit hv3)) (.cons (cells_one (isSl_lit hv4)) (.cons rfl CellsAre.nil))))) ?_)
 refine XL.cons (XOp.alloc [(.slice none 0 0), (.slice none 0 0), (.slice none 0 0), (.slice none 0 0), .bool (false)] Try.zeroValue85 rfl ?_)
 intro b3
 refine XL.cons (XOp.storeN (vs := [v2, v3, v4, v5, .bool (true)]) [] _ [v2, v3, v4, v5, .bool (true)] Try.sizeOf85 rfl rfl rfl (ones_cons (one_sl (isSl_lit hv1)) (ones_cons (one_sl (isSl_lit hv2)) (ones_cons (one_sl (isSl_lit hv3)) (ones_cons (one_sl (isSl_lit hv4)) (ones_cons rfl ones_nil))))) rfl rfl rfl ?_)
 refine XL.nil ?_
 refine X.seq ?_
 refine X.seq ?_
 refine X.region ?_
 refine XL.cons (XOp.assign (.int .i64 (0)) rfl ?_)
 refine XL.nil ?_
 refine X.block ?_
 have hc1 : RowsC F1 [v1] ([(t)] : List (List Int)) := (RowsC.snoc (CO.nil : RowsC F1 [] []) hf1)
 show X _ _ _ _ _ _ (cellsH b3 [v2, v3, v4, v5, .bool (true)] 85 :: slH 2 1 v5 1 [.int .i64 (0)] :: slH 77 3 v4 1 [.int .i64 (0), .int .i64 (0), (.slice none 0 0)] :: intsH 2 v3 ([-1] : List Int) :: slH 22 1 v2 1 ([v1]) :: cellsH b2 [(.slice none 0 0), (.slice none 0 0), (.slice none 0 0), (.slice none 0 0), .bool (false)] 85 :: cellsH b1 [arv, rsv] 33 :: L)
 have hc2 : StepsC F1 [.int .i64 (0), .int .i64 (0), (.slice none 0 0)] ([(0, 0, [])] : List StepT) := (StepsC.snoc (CO.nil : StepsC F1 [] []) (i := 0) (j := 0) IntsF.nilV)
 show X _ _ _ _ _ _ (cellsH b3 [v2, v3, v4, v5, .bool (true)] 85 :: intsH 2 v5 ([0] : List Int) :: slH 77 3 v4 1 ([.int .i64 (0), .int .i64 (0), (.slice none 0 0)]) :: intsH 2 v3 ([-1] : List Int) :: slH 22 1 v2 1 ([v1]) :: cellsH b2 [(.slice none 0 0), (.slice none 0 0), (.slice none 0 0), (.slice none 0 0), .bool (false)] 85 :: cellsH b1 [arv, rsv] 33 :: L)
 refine X.loop (α := Nat × List FoundT × Value × RowL × List Value × Nat × Value × List Int × Value × List StepT × List Value × Nat × Value × List Int × FH) (fun xQ => [(2, .int .i64 (n)), (3, ptr b1 0), (6, ptr b2 0), (7, ptr b3 0), (8, .int .i64 (((xQ.1 : Nat) : Int)))]) (fun xQ => slH 22 1 xQ.2.2.1 xQ.2.2.2.2.2.1 xQ.2.2.2.2.1 :: intsH 2 xQ.2.2.2.2.2.2.1 xQ.2.2.2.2.2.2.2.1 :: slH 77 3 xQ.2.2.2.2.2.2.2.2.1 xQ.2.2.2.2.2.2.2.2.2.2.2.1 xQ.2.2.2.2.2.2.2.2.2.2.1 :: intsH 2 xQ.2.2.2.2.2.2.2.2.2.2.2.2.1 xQ.2.2.2.2.2.2.2.2.2.2.2.2.2.1 :: cellsH b3 [xQ.2.2.1, xQ.2.2.2.2.2.2.1, xQ.2.2.2.2.2.2.2.2.1, xQ.2.2.2.2.2.2.2.2.2.2.2.2.1, .bool (true)] 85 :: cellsH b2 [(.slice none 0 0), (.slice none 0 0), (.slice none 0 0), (.slice none 0 0), .bool (false)] 85 :: cellsH b1 [arv, rsv] 33 :: L) (fun xQ F' => xQ.2.2.2.2.2.2.2.2.2.2.2.2.2.2 = F' ∧ F1 ≤ xQ.2.2.2.2.2.2.2.2.2.2.2.2.2.2 ∧ (IsSl xQ.2.2.1) ∧ (IsSl xQ.2.2.2.2.2.2.1) ∧ (IsSl xQ.2.2.2.2.2.2.2.2.1) ∧ (IsSl xQ.2.2.2.2.2.2.2.2.2.2.2.2.1) ∧ (RowsC xQ.2.2.2.2.2.2.2.2.2.2.2.2.2.2 xQ.2.2.2.2.1 xQ.2.2.2.1) ∧ (StepsC xQ.2.2.2.2.2.2.2.2.2.2.2.2.2.2 xQ.2.2.2.2.2.2.2.2.2.2.1 xQ.2.2.2.2.2.2.2.2.2.1) ∧ (xQ.2.2.2.2.2.1 = xQ.2.2.2.1.length) ∧ (xQ.2.2.2.2.2.2.2.2.2.2.2.1 = xQ.2.2.2.2.2.2.2.2.2.1.length) ∧ (xQ.2.2.2.1 = terms xQ.2.1) ∧ (xQ.2.2.2.2.2.2.2.1 = froms xQ.2.1) ∧ (xQ.2.2.2.2.2.2.2.2.2.1 = bys xQ.2.1) ∧ (xQ.2.2.2.2.2.2.2.2.2.2.2.2.2.1 = deeps xQ.2.1) ∧ (xQ.2.1.length ≤ 60) ∧ (AllOk ar xQ.2.1) ∧ (DeepOk n xQ.2.1) ∧ (xQ.1 ≤ xQ.2.1.length) ∧ (reachL ar rs t n = reachGo ar rs n (60 - xQ.1) xQ.1 xQ.2.1)) (fun xQ => 60 - xQ.1) (0, start0 t, v2, ([(t)] : List (List Int)), [v1], 1, v3, [-1], v4, ([(0, 0, [])] : List StepT), [.int .i64 (0), .int .i64 (0), (.slice none 0 0)], 1, v5, [0], F1) ⟨rfl, rfl, rfl, rfl, rfl, trivial⟩ (Sub.trans (Sub.front (A := [_, _, _, _, _, _])) (Sub.trans (Sub.front (A := [_, _, _, _, _, _])) (Sub.trans (Sub.front (A := [_, _])) (Sub.trans (Sub.front (A := [_, _, _])) (Sub.trans (Sub.front (A := [_, _, _, _])) (Sub.trans (Sub.front (A := [_, _, _, _, _])) (Sub.trans (Sub.front (A := [_, _, _, _, _, _])) (Sub.cons (Sub.cons (Sub.cons (Sub.cons (Sub.cons (Sub.cons (Sub.cons (Sub.refl _))))))))))))))) ⟨rfl, FLe.refl _, ((isSl_lit hv1)), ((isSl_lit hv2)), ((isSl_lit hv3)), ((isSl_lit hv4)), (hc1), (hc2), (rfl), (rfl), (rfl), (rfl), (rfl), (rfl), (by simp [start0]), (AllOk.start ho), (DeepOk.start hn20.1), (by simp), (rfl)⟩ ?_
 rintro ⟨k, os, av, ts, acs, an, bv, fs, cv, bs, ccs, cn, dv, ds, G1⟩ rE _ _ ⟨rfl, leG, hav, hbv, hcv, hdv, hA, hB, han, hcn, hts, hfs, hbs, hds, hl, hok, hdo, hk, hgo⟩
 show X _ _ _ _ (envs [(2, .int .i64 (n)), (3, ptr b1 0), (6, ptr b2 0), (7, ptr b3 0), (8, .int .i64 (((k : Nat) : Int)))] rE) _ (slH 22 1 av an acs :: intsH 2 bv fs :: slH 77 3 cv cn ccs :: intsH 2 dv ds :: cellsH b3 [av, bv, cv, dv, .bool (true)] 85 :: cellsH b2 [(.slice none 0 0), (.slice none 0 0), (.slice none 0 0), (.slice none 0 0), .bool (false)] 85 :: cellsH b1 [arv, rsv] 33 :: L)
 replace leG : F1 ≤ G1 := leG
 dsimp only at hav hbv hcv hdv hA hB han hcn hts hfs hbs hds hl hok hdo hk hgo
 have htl9 : ts.length = os.length := by rw [hts]; exact terms_len
 have hfl9 : fs.length = os.length := by rw [hfs]; exact froms_len
 have hbl9 : bs.length = os.length := by rw [hbs]; exact bys_len
 have hdl9 : ds.length = os.length := by rw [hds]; exact deeps_len
 have hdk := fun (h : k < os.length) => hok k h
 have hdl := fun (h : k < os.length) => termOk_len (hok k h)
 have hEt : ts.getD k [] = (EL os k).1 := by rw [hts]; exact terms_get k
 have hEd := fun (h : k < os.length) => (show ds.getD k 0 = (EL os k).2.2.2 from by rw [hds]; exact deeps_get h)
 have leG1 := leG
 replace har := har.mono leG1
 replace hrs := hrs.mono leG1
 replace ht := ht.mono leG1
 replace hf1 := hf1.mono leG1
 replace hc1 := hc1.mono leG1
 replace hc2 := hc2.mono leG1
 refine X.seq ?_
 refine X.seq ?_
 refine X.region ?_
 refine XL.cons (XOp.move (.int .i64 (((k : Nat) : Int))) rfl ?_)
 refine XL.cons (XOp.fieldP (b := b3) (0) Try.runUnderlying85 rfl Try.sizeOf49 (by decide) rfl rfl ?_)
 refine XL.cons (XOp.load1 (v := av) Try.isAgg49 rfl (Rd.own [_, _, _, _] rfl rfl) ?_)
 refine XL.cons (XOp.lenS (v := av) (n := an) Try.runUnderlying49 rfl (SlV.own [] rfl) ?_)
 refine XL.cons (XOp.lss (a := ((k : Nat) : Int)) (b := ((an : Nat) : Int)) rfl rfl ?_)
 refine XL.nil ?_
 refine X.condD (p := (((k : Nat) : Int) : Int) < ((an : Nat) : Int)) rfl (fun h1 => ?_) (fun h1 => ?_)
 ·refine X.skip ?_
  refine X.seq ?_
  refine X.block ?_
  refine X.seq ?_
  refine X.seq ?_
  refine X.region ?_
  refine XL.cons (XOp.fieldP (b := b3) (3) Try.runUnderlying85 rfl Try.sizeOf22 (by decide) rfl rfl ?_)
  refine XL.cons (XOp.load1 (v := dv) Try.isAgg22 rfl (Rd.own [_, _, _, _] rfl rfl) ?_)
  refine XL.cons (XOp.move (.int .i64 (((k : Nat) : Int))) rfl ?_)
  refine XL.cons (XOp.indexS (v := dv) (i := ((k : Nat) : Int)) (n := (ds).length) k Try.runUnderlying22 Try.sizeOf2 rfl rfl rfl (intsH.slv [_, _, _] rfl) (by omega) (Nat.mul_one _) ?_)
  refine XL.cons (XOp.load1 (v := .int .i64 (ds.getD k 0)) Try.isAgg2 rfl (intsH.rd [_, _, _] rfl (by omega)) ?_)
  refine XL.cons (XOp.move (.int .i64 (n)) rfl ?_)
  refine XL.cons (XOp.eql (a := ds.getD k 0) (b := n) rfl rfl ?_)
  refine XL.nil ?_
  refine X.condD (p := (ds.getD k 0 : Int) = n) rfl (fun h2 => ?_) (fun h2 => ?_)
  ·have hdeep : (EL os k).2.2.2 = n := by rw [← hEd (by omega)]; exact h2
   refine X.exit (thenQ_exit (blockQ_exit ?_))
   refine X.region ?_
   refine XL.cons (XOp.move (.int .i64 (((k : Nat) : Int))) rfl ?_)
   refine XL.cons (XOp.addR (a := ((k : Nat) : Int)) (b := 1) (((k + 1 : Nat) : Int)) rfl rfl (by omega) (by omega) ?_)
   refine XL.cons (XOp.assign (.int .i64 (((k + 1 : Nat) : Int))) rfl ?_)
   refine XL.nil ?_
   exact ⟨(k + 1, os, av, ts, acs, an, bv, fs, cv, bs, ccs, cn, dv, ds, G1), _, leG1, (FLe.refl _), ⟨rfl, rfl, rfl, rfl, rfl, trivial⟩, (Sub.cons (Sub.cons (Sub.cons (Sub.cons (Sub.cons (Sub.cons (Sub.cons (Sub.refl _)))))))), ⟨rfl, leG1, (hav), (hbv), (hcv), (hdv), (hA), (hB), (han), (hcn), (hts), (hfs), (hbs), (hds), (hl), (hok), (hdo), (by (try dsimp only) <;> omega), (by (try dsimp only); exact hgo.trans (reach_same (f := 60 - k - 1) (by omega) (by omega) hdeep))⟩, (by (try dsimp only); omega)⟩
  ·have hdeep : (EL os k).2.2.2 ≠ n := by rw [← hEd (by omega)]; exact h2
   refine X.skip ?_
   refine X.seq ?_
   obtain ⟨a1, ha1, he1⟩ := hA.get (i := k) (by omega)
   refine X.draw [slH 22 1 av an acs, intsH 2 bv fs, slH 77 3 cv cn ccs, intsH 2 dv ds, cellsH b3 [av, bv, cv, dv, .bool (true)] 85, cellsH b2 [(.slice none 0 0), (.slice none 0 0), (.slice none 0 0), (.slice none 0 0), .bool (false)] 85, cellsH b1 [arv, rsv] 33] L 6 [[], [], [], [], [], []] [[], [], [1], [], [2, 3], [4]] (phiL [fun us v => v = (.agg #[arv, rsv] : Value), fun us v => v = ptr b3 0, fun us v => v = av, fun us v => v = (.int .i64 (((k : Nat) : Int)) : Value), fun us v => v = (.pointer (some (elemA av (k))) : Value), fun us v => v = a1]) (ownL [fun us v => [], fun us v => [], fun us v => [], fun us v => [], fun us v => [], fun us v => []]) mixed rfl rfl (by kernel_rfl) ?_ ?_
   ·refine stepsP.cons (fun vals R hpZ => ?_) ?_
    ·refine XG.op (XOp.loadN [arv, rsv] Try.isAgg33 Try.sizeOf33 rfl rfl (Rd.ownN [_, _, _, _, _, _] rfl rfl) ?_)
     exact ⟨rfl, rfl, rfl⟩
    refine stepsP.cons (fun vals R hpZ => ?_) ?_
    ·refine XG.op (XOp.fieldP (b := b3) (0) Try.runUnderlying85 rfl Try.sizeOf49 (by decide) rfl rfl ?_)
     exact ⟨rfl, rfl, rfl⟩
    refine stepsP.cons (fun vals R hpZ => ?_) ?_
    ·rw [(envs_of_sat (l := [(1, ptr b3 0)]) ⟨hpZ 1 (by decide), trivial⟩).symm]
     refine XG.op (XOp.load1 (v := av) Try.isAgg49 rfl (Rd.own [_, _, _, _] rfl rfl) ?_)
     exact ⟨rfl, rfl, rfl⟩
    refine stepsP.cons (fun vals R hpZ => ?_) ?_
    ·refine XG.op (XOp.move (.int .i64 (((k : Nat) : Int))) rfl ?_)
     exact ⟨rfl, rfl, rfl⟩
    refine stepsP.cons (fun vals R hpZ => ?_) ?_
    ·rw [(envs_of_sat (l := [(2, av), (3, (.int .i64 (((k : Nat) : Int)) : Value))]) ⟨hpZ 2 (by decide), hpZ 3 (by decide), trivial⟩).symm]
     refine XG.op (XOp.indexS (v := av) (i := ((k : Nat) : Int)) (n := an) k Try.runUnderlying49 Try.sizeOf22 rfl rfl rfl (SlV.own [] rfl) (by omega) (Nat.mul_one _) ?_)
     exact ⟨rfl, rfl, rfl⟩
    refine stepsP.cons (fun vals R hpZ => ?_) ?_
    ·rw [(envs_of_sat (l := [(4, (.pointer (some (elemA av (k))) : Value))]) ⟨hpZ 4 (by decide), trivial⟩).symm]
     refine XG.op (XOp.load1 (v := a1) Try.isAgg22 rfl (Rd.sl [] rfl he1) ?_)
     exact ⟨rfl, rfl, rfl⟩
    exact stepsP.nil
   ·intro vals hphi
    have e0 : vals 0 = (.agg #[arv, rsv] : Value) := hphi 0 (by decide)
    have e1 : vals 1 = ptr b3 0 := hphi 1 (by decide)
    have e2 : vals 2 = av := hphi 2 (by decide)
    have e3 : vals 3 = (.int .i64 (((k : Nat) : Int)) : Value) := hphi 3 (by decide)
    have e4 : vals 4 = (.pointer (some (elemA av (k))) : Value) := hphi 4 (by decide)
    have e5 : vals 5 = a1 := hphi 5 (by decide)
    rw [(envs_of_sat (l := [(0, (.agg #[arv, rsv] : Value)), (1, ptr b3 0), (2, av), (3, (.int .i64 (((k : Nat) : Int)) : Value)), (4, (.pointer (some (elemA av (k))) : Value)), (5, a1)]) ⟨e0, e1, e2, e3, e4, e5, trivial⟩).symm]
    show XL _ _ _ _ _ _ _ (slH 22 1 av an acs :: intsH 2 bv fs :: slH 77 3 cv cn ccs :: intsH 2 dv ds :: cellsH b3 [av, bv, cv, dv, .bool (true)] 85 :: cellsH b2 [(.slice none 0 0), (.slice none 0 0), (.slice none 0 0), (.slice none 0 0), .bool (false)] 85 :: cellsH b1 [arv, rsv] 33 :: L)
    refine XL.cons (XOp.call (args := [.agg #[arv, rsv], a1]) Try.call82 rfl (l7Steps_spec har hrs ha1 (hsys := (hsys)) (ho := (by rw [hEt]; exact hdk (by omega)))) ?_)
    rintro _ F2 _ le2 ⟨x1, rfl, hr1, rfl⟩
    replace har := har.mono le2
    replace hrs := hrs.mono le2
    replace ht := ht.mono le2
    replace hf1 := hf1.mono le2
    replace hc1 := hc1.mono le2
    replace hc2 := hc2.mono le2
    replace hA := hA.mono le2
    replace hB := hB.mono le2
    replace ha1 := ha1.mono le2
    refine XL.cons (XOp.assign (x1) rfl ?_)
    refine XL.nil ?_
    refine X.seq ?_
    refine X.region ?_
    have hk7 : k < os.length := by omega
    obtain ⟨nx, hnx⟩ : ∃ nx, stepsL ar rs (ts.getD k []) = nx := ⟨_, rfl⟩
    rw [hnx] at hr1
    obtain ⟨os0, hos0⟩ : ∃ o, o = os := ⟨_, rfl⟩
    have hdeep0 := hdeep
    have hgo0 := hgo
    rw [← hos0] at hdeep0 hgo0
    have hnx0 : stepsL ar rs (EL os0 k).1 = nx := by rw [hos0, ← hEt]; exact hnx
    have hdk0 := hdk hk7
    have hdo0 := hdo k hk7
    have hl0 : os0.length ≤ 60 := by rw [hos0]; exact hl
    rw [← hos0] at hdk0 hdo0
    have hk70 := hk7
    rw [← hos0] at hk70
    have hnxo : ∀ i, i < nx.length → termOk ar (nx.getD i (0, 0, [])).2.2 = true := fun i hi => by rw [← hnx0] at hi ⊢; exact steps_ok hsys hdk0 hi
    have hnxl : nx.length ≤ 1000 := by have h9 := stepsTo_len (ar := ar) (t := (EL os0 k).1) (rs := rs) hrl (EL os0 k).1.length; have h8 := termOk_len hdk0; rw [← hnx0]; show (stepsTo ar rs (EL os0 k).1 (EL os0 k).1.length).length ≤ 1000; omega
    skip
    refine XL.cons (XOp.assign (.int .i64 (0)) rfl ?_)
    refine XL.nil ?_
    refine X.block ?_
    refine X.loop (α := Nat × List FoundT × Value × RowL × List Value × Nat × Value × List Int × Value × List StepT × List Value × Nat × Value × List Int × FH) (fun xQ => [(2, .int .i64 (n)), (3, ptr b1 0), (6, ptr b2 0), (7, ptr b3 0), (8, .int .i64 (((k : Nat) : Int))), (9, x1), (10, .int .i64 (((xQ.1 : Nat) : Int)))]) (fun xQ => slH 22 1 xQ.2.2.1 xQ.2.2.2.2.2.1 xQ.2.2.2.2.1 :: intsH 2 xQ.2.2.2.2.2.2.1 xQ.2.2.2.2.2.2.2.1 :: slH 77 3 xQ.2.2.2.2.2.2.2.2.1 xQ.2.2.2.2.2.2.2.2.2.2.2.1 xQ.2.2.2.2.2.2.2.2.2.2.1 :: intsH 2 xQ.2.2.2.2.2.2.2.2.2.2.2.2.1 xQ.2.2.2.2.2.2.2.2.2.2.2.2.2.1 :: cellsH b3 [xQ.2.2.1, xQ.2.2.2.2.2.2.1, xQ.2.2.2.2.2.2.2.2.1, xQ.2.2.2.2.2.2.2.2.2.2.2.2.1, .bool (true)] 85 :: cellsH b2 [(.slice none 0 0), (.slice none 0 0), (.slice none 0 0), (.slice none 0 0), .bool (false)] 85 :: cellsH b1 [arv, rsv] 33 :: L) (fun xQ F' => xQ.2.2.2.2.2.2.2.2.2.2.2.2.2.2 = F' ∧ F2 ≤ xQ.2.2.2.2.2.2.2.2.2.2.2.2.2.2 ∧ (IsSl xQ.2.2.1) ∧ (IsSl xQ.2.2.2.2.2.2.1) ∧ (IsSl xQ.2.2.2.2.2.2.2.2.1) ∧ (IsSl xQ.2.2.2.2.2.2.2.2.2.2.2.2.1) ∧ (RowsC xQ.2.2.2.2.2.2.2.2.2.2.2.2.2.2 xQ.2.2.2.2.1 xQ.2.2.2.1) ∧ (StepsC xQ.2.2.2.2.2.2.2.2.2.2.2.2.2.2 xQ.2.2.2.2.2.2.2.2.2.2.1 xQ.2.2.2.2.2.2.2.2.2.1) ∧ (xQ.2.2.2.2.2.1 = xQ.2.2.2.1.length) ∧ (xQ.2.2.2.2.2.2.2.2.2.2.2.1 = xQ.2.2.2.2.2.2.2.2.2.1.length) ∧ (xQ.2.2.2.1 = terms xQ.2.1) ∧ (xQ.2.2.2.2.2.2.2.1 = froms xQ.2.1) ∧ (xQ.2.2.2.2.2.2.2.2.2.1 = bys xQ.2.1) ∧ (xQ.2.2.2.2.2.2.2.2.2.2.2.2.2.1 = deeps xQ.2.1) ∧ (xQ.2.1.length ≤ 60) ∧ (AllOk ar xQ.2.1) ∧ (DeepOk n xQ.2.1) ∧ (xQ.1 ≤ nx.length) ∧ (k < xQ.2.1.length) ∧ (EL xQ.2.1 k = EL os0 k) ∧ (addGo (k : Int) (EL os0 k).2.2.2 nx os0 = addGo (k : Int) (EL os0 k).2.2.2 (nx.drop xQ.1) xQ.2.1)) (fun xQ => nx.length - xQ.1) (0, os, av, ts, acs, an, bv, fs, cv, bs, ccs, cn, dv, ds, F2) ⟨rfl, rfl, rfl, rfl, rfl, rfl, rfl, trivial⟩ (Sub.cons (Sub.cons (Sub.cons (Sub.cons (Sub.cons (Sub.cons (Sub.cons (Sub.refl _)))))))) ⟨rfl, FLe.refl _, (hav), (hbv), (hcv), (hdv), (hA), (hB), (han), (hcn), (hts), (hfs), (hbs), (hds), (hl), (hok), (hdo), (by (try dsimp only) <;> omega), (by (try dsimp only); omega), (by (try dsimp only); rw [hos0]), (by (try dsimp only); rw [hos0]; rfl)⟩ ?_
    rintro ⟨q, os, av, ts, acs, an, bv, fs, cv, bs, ccs, cn, dv, ds, G2⟩ rE _ _ ⟨rfl, leG, havi, hbvi, hcvi, hdvi, hAi, hBi, hani, hcni, htsi, hfsi, hbsi, hdsi, hli, hoki, hdoi, hq, hkp, hel, hgoi⟩
    show X _ _ _ _ (envs [(2, .int .i64 (n)), (3, ptr b1 0), (6, ptr b2 0), (7, ptr b3 0), (8, .int .i64 (((k : Nat) : Int))), (9, x1), (10, .int .i64 (((q : Nat) : Int)))] rE) _ (slH 22 1 av an acs :: intsH 2 bv fs :: slH 77 3 cv cn ccs :: intsH 2 dv ds :: cellsH b3 [av, bv, cv, dv, .bool (true)] 85 :: cellsH b2 [(.slice none 0 0), (.slice none 0 0), (.slice none 0 0), (.slice none 0 0), .bool (false)] 85 :: cellsH b1 [arv, rsv] 33 :: L)
    replace leG : F2 ≤ G2 := leG
    dsimp only at havi hbvi hcvi hdvi hAi hBi hani hcni htsi hfsi hbsi hdsi hli hoki hdoi hq hkp hel hgoi
    have htl9i : ts.length = os.length := by rw [htsi]; exact terms_len
    have hfl9i : fs.length = os.length := by rw [hfsi]; exact froms_len
    have hbl9i : bs.length = os.length := by rw [hbsi]; exact bys_len
    have hdl9i : ds.length = os.length := by rw [hdsi]; exact deeps_len
    have hsok := fun (h : q < nx.length) => termOk_len (hnxo q h)
    have hdk9 : ds.getD k 0 = (EL os0 k).2.2.2 := by rw [hdsi, deeps_get hkp, hel]
    have leG2 := leG
    replace har := har.mono leG2
    replace hrs := hrs.mono leG2
    replace ht := ht.mono leG2
    replace hf1 := hf1.mono leG2
    replace hc1 := hc1.mono leG2
    replace hc2 := hc2.mono leG2
    replace hA := hA.mono leG2
    replace hB := hB.mono leG2
    replace ha1 := ha1.mono leG2
    replace hr1 := hr1.mono leG2
    refine X.seq ?_
    refine X.seq ?_
    refine X.region ?_
    refine XL.cons (XOp.move (.int .i64 (((q : Nat) : Int))) rfl ?_)
    refine XL.cons (XOp.move (x1) rfl ?_)
    refine XL.cons (XOp.lenS (v := x1) (n := (nx).length) Try.runUnderlying39 rfl hr1.slv ?_)
    refine XL.cons (XOp.lss (a := ((q : Nat) : Int)) (b := (((nx).length : Nat) : Int)) rfl rfl ?_)
    refine XL.nil ?_
    refine X.condD (p := (((q : Nat) : Int) : Int) < (((nx).length : Nat) : Int)) rfl (fun h3 => ?_) (fun h3 => ?_)
    ·refine X.skip ?_
     refine X.seq ?_
     refine X.block ?_
     refine X.seq ?_
     refine X.seq ?_
     obtain ⟨a2, ha2, hr2, hr3, hr4⟩ := hr1.rd (i := q) (by omega)
     refine X.draw [slH 22 1 av an acs, intsH 2 bv fs, slH 77 3 cv cn ccs, intsH 2 dv ds, cellsH b3 [av, bv, cv, dv, .bool (true)] 85, cellsH b2 [(.slice none 0 0), (.slice none 0 0), (.slice none 0 0), (.slice none 0 0), .bool (false)] 85, cellsH b1 [arv, rsv] 33] L 7 [[], [], [], [], [], [], []] [[], [0], [], [], [2, 3], [4], [5]] (phiL [fun us v => v = ptr b3 0, fun us v => v = av, fun us v => v = x1, fun us v => v = (.int .i64 (((q : Nat) : Int)) : Value), fun us v => v = (.pointer (some (elemA x1 (q * 3))) : Value), fun us v => v = (.pointer (some (elemA x1 (q * 3 + 2))) : Value), fun us v => v = a2]) (ownL [fun us v => [], fun us v => [], fun us v => [], fun us v => [], fun us v => [], fun us v => [], fun us v => []]) mixed rfl rfl (by kernel_rfl) ?_ ?_
     ·refine stepsP.cons (fun vals R hpZ => ?_) ?_
      ·refine XG.op (XOp.fieldP (b := b3) (0) Try.runUnderlying85 rfl Try.sizeOf49 (by decide) rfl rfl ?_)
       exact ⟨rfl, rfl, rfl⟩
      refine stepsP.cons (fun vals R hpZ => ?_) ?_
      ·rw [(envs_of_sat (l := [(0, ptr b3 0)]) ⟨hpZ 0 (by decide), trivial⟩).symm]
       refine XG.op (XOp.load1 (v := av) Try.isAgg49 rfl (Rd.own [_, _, _, _] rfl rfl) ?_)
       exact ⟨rfl, rfl, rfl⟩
      refine stepsP.cons (fun vals R hpZ => ?_) ?_
      ·refine XG.op (XOp.move (x1) rfl ?_)
       exact ⟨rfl, rfl, rfl⟩
      refine stepsP.cons (fun vals R hpZ => ?_) ?_
      ·refine XG.op (XOp.move (.int .i64 (((q : Nat) : Int))) rfl ?_)
       exact ⟨rfl, rfl, rfl⟩
      refine stepsP.cons (fun vals R hpZ => ?_) ?_
      ·rw [(envs_of_sat (l := [(2, x1), (3, (.int .i64 (((q : Nat) : Int)) : Value))]) ⟨hpZ 2 (by decide), hpZ 3 (by decide), trivial⟩).symm]
       refine XG.op (XOp.indexS (v := x1) (i := ((q : Nat) : Int)) (n := (nx).length) q Try.runUnderlying39 Try.sizeOf77 rfl rfl rfl hr1.slv (by omega) rfl ?_)
       exact ⟨rfl, rfl, rfl⟩
      refine stepsP.cons (fun vals R hpZ => ?_) ?_
      ·rw [(envs_of_sat (l := [(4, (.pointer (some (elemA x1 (q * 3))) : Value))]) ⟨hpZ 4 (by decide), trivial⟩).symm]
       refine XG.op (XOp.fieldE (v := x1) (q * 3 + 2) Try.runUnderlying77 rfl Try.sizeOf22 (by decide) rfl rfl ?_)
       exact ⟨rfl, rfl, rfl⟩
      refine stepsP.cons (fun vals R hpZ => ?_) ?_
      ·rw [(envs_of_sat (l := [(5, (.pointer (some (elemA x1 (q * 3 + 2))) : Value))]) ⟨hpZ 5 (by decide), trivial⟩).symm]
       refine XG.op (XOp.load1 (v := a2) Try.isAgg22 rfl (hr4 _) ?_)
       exact ⟨rfl, rfl, rfl⟩
      exact stepsP.nil
     ·intro vals hphi
      have e0 : vals 0 = ptr b3 0 := hphi 0 (by decide)
      have e1 : vals 1 = av := hphi 1 (by decide)
      have e2 : vals 2 = x1 := hphi 2 (by decide)
      have e3 : vals 3 = (.int .i64 (((q : Nat) : Int)) : Value) := hphi 3 (by decide)
      have e4 : vals 4 = (.pointer (some (elemA x1 (q * 3))) : Value) := hphi 4 (by decide)
      have e5 : vals 5 = (.pointer (some (elemA x1 (q * 3 + 2))) : Value) := hphi 5 (by decide)
      have e6 : vals 6 = a2 := hphi 6 (by decide)
      rw [(envs_of_sat (l := [(0, ptr b3 0), (1, av), (2, x1), (3, (.int .i64 (((q : Nat) : Int)) : Value)), (4, (.pointer (some (elemA x1 (q * 3))) : Value)), (5, (.pointer (some (elemA x1 (q * 3 + 2))) : Value)), (6, a2)]) ⟨e0, e1, e2, e3, e4, e5, e6, trivial⟩).symm]
      show XL _ _ _ _ _ _ _ (slH 22 1 av an acs :: intsH 2 bv fs :: slH 77 3 cv cn ccs :: intsH 2 dv ds :: cellsH b3 [av, bv, cv, dv, .bool (true)] 85 :: cellsH b2 [(.slice none 0 0), (.slice none 0 0), (.slice none 0 0), (.slice none 0 0), .bool (false)] 85 :: cellsH b1 [arv, rsv] 33 :: L)
      refine XL.cons (XOp.lend [] _ _ rfl (fun F3 le3 hz2 => ?_))
      have hf2 : RowsF _ av ts := (CO.fz (RowsC.mono hAi (FLe.trans le3 (FLe.refl _))) (by first | rfl | assumption | omega | (rw [List.length_append]; simp only [List.length_singleton]; omega)) hz2 : RowsF _ av ts)
      refine id (XOp.call (args := [av, a2]) Try.call68 rfl (l1TermPlace_spec hf2 ((ha2.mono le3)) (hlt := (by omega)) (htb := (fun i hi => by rw [htsi, terms_get]; have := termOk_len (hoki i (by omega)); omega)) (hlx := (by have := hsok (by omega); omega))) ?_)
      rintro _ _ _ _ ⟨rfl, rfl, rfl⟩
      show XL _ _ _ _ _ _ _ (slH 22 1 av an acs :: intsH 2 bv fs :: slH 77 3 cv cn ccs :: intsH 2 dv ds :: cellsH b3 [av, bv, cv, dv, .bool (true)] 85 :: cellsH b2 [(.slice none 0 0), (.slice none 0 0), (.slice none 0 0), (.slice none 0 0), .bool (false)] 85 :: cellsH b1 [arv, rsv] 33 :: L)
      refine XL.cons (XOp.geq (a := badG (fun y => !decide (y = ((nx.getD q (0, 0, [])).2.2))) ts) (b := 0) rfl rfl ?_)
      refine XL.nil ?_
      refine X.condD (p := (badG (fun y => !decide (y = ((nx.getD q (0, 0, [])).2.2))) ts : Int) ≥ 0) rfl (fun h4 => ?_) (fun h4 => ?_)
      ·have hbg : badG (fun y => !decide (y = (nx.getD q (0, 0, [])).2.2)) ts = foundI os (nx.getD q (0, 0, [])).2.2 := by rw [htsi]; exact foundI_terms
       have hin : isIn os (nx.getD q (0, 0, [])).2.2 = true := foundI_iff.1 (by rw [← hbg]; exact h4)
       refine X.exit (thenQ_exit (blockQ_exit ?_))
       refine X.region ?_
       refine XL.cons (XOp.move (.int .i64 (((q : Nat) : Int))) rfl ?_)
       refine XL.cons (XOp.addR (a := ((q : Nat) : Int)) (b := 1) (((q + 1 : Nat) : Int)) rfl rfl (by omega) (by omega) ?_)
       refine XL.cons (XOp.assign (.int .i64 (((q + 1 : Nat) : Int))) rfl ?_)
       refine XL.nil ?_
       exact ⟨(q + 1, os, av, ts, acs, an, bv, fs, cv, bs, ccs, cn, dv, ds, G2), _, leG2, (FLe.refl _), ⟨rfl, rfl, rfl, rfl, rfl, rfl, rfl, trivial⟩, (Sub.cons (Sub.cons (Sub.cons (Sub.cons (Sub.cons (Sub.cons (Sub.cons (Sub.refl _)))))))), ⟨rfl, leG2, (havi), (hbvi), (hcvi), (hdvi), (hAi), (hBi), (hani), (hcni), (htsi), (hfsi), (hbsi), (hdsi), (hli), (hoki), (hdoi), (by (try dsimp only) <;> omega), (hkp), (hel), (by (try dsimp only); exact hgoi.trans (add_in (by omega) hin))⟩, (by omega)⟩
      ·have hbg : badG (fun y => !decide (y = (nx.getD q (0, 0, [])).2.2)) ts = foundI os (nx.getD q (0, 0, [])).2.2 := by rw [htsi]; exact foundI_terms
       have hnin : isIn os (nx.getD q (0, 0, [])).2.2 = false := by rw [Bool.eq_false_iff]; intro h9; exact absurd (foundI_iff.2 h9) (by rw [← hbg]; exact h4)
       refine X.skip ?_
       refine X.seq ?_
       refine X.seq ?_
       refine X.region ?_
       refine XL.cons (XOp.fieldP (b := b3) (0) Try.runUnderlying85 rfl Try.sizeOf49 (by decide) rfl rfl ?_)
       refine XL.cons (XOp.load1 (v := av) Try.isAgg49 rfl (Rd.own [_, _, _, _] rfl rfl) ?_)
       refine XL.cons (XOp.lenS (v := av) (n := an) Try.runUnderlying49 rfl (SlV.own [] rfl) ?_)
       refine XL.cons (XOp.eql (a := ((an : Nat) : Int)) (b := 60) rfl rfl ?_)
       refine XL.nil ?_
       refine X.condD (p := (((an : Nat) : Int) : Int) = 60) rfl (fun h5 => ?_) (fun h5 => ?_)
       ·refine X.seq ?_
        refine X.region ?_
        refine XL.cons (XOp.fieldP (b := b3) (4) Try.runUnderlying85 rfl Try.sizeOf4 (by decide) rfl rfl ?_)
        refine XL.cons (XOp.store1 (v := .bool (false)) [_, _, _, _] _ [av, bv, cv, dv, .bool (false)] Try.sizeOf4 rfl rfl rfl rfl rfl rfl ?_)
        refine XL.nil ?_
        refine X.seq ?_
        refine X.region ?_
        refine XL.cons (XOp.loadN [av, bv, cv, dv, .bool (false)] Try.isAgg85 Try.sizeOf85 rfl rfl (Rd.ownN [_, _, _, _] rfl rfl) ?_)
        refine XL.cons (XOp.storeN (vs := [av, bv, cv, dv, .bool (false)]) [_, _, _, _, _] _ [av, bv, cv, dv, .bool (false)] Try.sizeOf85 rfl rfl rfl (ones_cons (one_sl havi) (ones_cons (one_sl hbvi) (ones_cons (one_sl hcvi) (ones_cons (one_sl hdvi) (ones_cons rfl ones_nil))))) rfl rfl rfl ?_)
        refine XL.nil ?_
        refine X.freezeF [] _ _ rfl (fun F4 le4 hz3 => ?_)
        replace har := har.mono le4
        replace hrs := hrs.mono le4
        replace ht := ht.mono le4
        replace hf1 := hf1.mono le4
        replace hc1 := hc1.mono le4
        replace hc2 := hc2.mono le4
        replace hA := hA.mono le4
        replace hB := hB.mono le4
        replace ha1 := ha1.mono le4
        replace hr1 := hr1.mono le4
        replace hAi := hAi.mono le4
        replace hBi := hBi.mono le4
        replace ha2 := ha2.mono le4
        replace hr2 := Rd.monoA hr2 le4
        replace hr3 := Rd.monoA hr3 le4
        replace hr4 := Rd.monoA hr4 le4
        have hf3 : RowsF F4 av ts := CO.fz hAi (by first | rfl | simp | omega) hz3.fz
        refine X.freezeF [] _ _ rfl (fun F5 le5 hz4 => ?_)
        replace har := har.mono le5
        replace hrs := hrs.mono le5
        replace ht := ht.mono le5
        replace hf1 := hf1.mono le5
        replace hc1 := hc1.mono le5
        replace hc2 := hc2.mono le5
        replace hA := hA.mono le5
        replace hB := hB.mono le5
        replace ha1 := ha1.mono le5
        replace hr1 := hr1.mono le5
        replace hAi := hAi.mono le5
        replace hBi := hBi.mono le5
        replace ha2 := ha2.mono le5
        replace hf3 := hf3.mono le5
        replace hr2 := Rd.monoA hr2 le5
        replace hr3 := Rd.monoA hr3 le5
        replace hr4 := Rd.monoA hr4 le5
        have hf4 : IntsF F5 bv fs := intsH.fz (xs := fs) hz4.fz
        refine X.freezeF [] _ _ rfl (fun F6 le6 hz5 => ?_)
        replace har := har.mono le6
        replace hrs := hrs.mono le6
        replace ht := ht.mono le6
        replace hf1 := hf1.mono le6
        replace hc1 := hc1.mono le6
        replace hc2 := hc2.mono le6
        replace hA := hA.mono le6
        replace hB := hB.mono le6
        replace ha1 := ha1.mono le6
        replace hr1 := hr1.mono le6
        replace hAi := hAi.mono le6
        replace hBi := hBi.mono le6
        replace ha2 := ha2.mono le6
        replace hf3 := hf3.mono le6
        replace hf4 := hf4.mono le6
        replace hr2 := Rd.monoA hr2 le6
        replace hr3 := Rd.monoA hr3 le6
        replace hr4 := Rd.monoA hr4 le6
        have hf5 : StepsF F6 cv bs := CO.fz hBi (by first | rfl | simp | omega) hz5.fz
        refine X.freezeF [] _ _ rfl (fun F7 le7 hz6 => ?_)
        replace har := har.mono le7
        replace hrs := hrs.mono le7
        replace ht := ht.mono le7
        replace hf1 := hf1.mono le7
        replace hc1 := hc1.mono le7
        replace hc2 := hc2.mono le7
        replace hA := hA.mono le7
        replace hB := hB.mono le7
        replace ha1 := ha1.mono le7
        replace hr1 := hr1.mono le7
        replace hAi := hAi.mono le7
        replace hBi := hBi.mono le7
        replace ha2 := ha2.mono le7
        replace hf3 := hf3.mono le7
        replace hf4 := hf4.mono le7
        replace hf5 := hf5.mono le7
        replace hr2 := Rd.monoA hr2 le7
        replace hr3 := Rd.monoA hr3 le7
        replace hr4 := Rd.monoA hr4 le7
        have hf6 : IntsF F7 dv ds := intsH.fz (xs := ds) hz6.fz
        refine X.ret (thenQ_ret (blockQ_ret (thenQ_ret (thenQ_ret (blockQ_ret (blockQ_ret (thenQ_ret (thenQ_ret (blockQ_ret (thenQ_ret (retEnd (L' := L) [.agg #[av, bv, cv, dv, .bool (false)]] (.agg #[av, bv, cv, dv, .bool (false)]) (.cell rfl (loadNV [av, bv, cv, dv, .bool (false)] Try.isAgg85 Try.sizeOf85 rfl (Rd.ownN [_] rfl rfl)) .nil) rfl (FLe.trans (FLe.trans (FLe.trans (FLe.trans (FLe.trans (FLe.trans (FLe.trans le1 leG1) le2) leG2) le4) le5) le6) le7) (FLe.refl _) (Sub.drop (Sub.drop (Sub.drop (Sub.refl _)))) ?_)))))))))))
        have h9 := hgoi.trans (add_full (by omega) hnin (by omega))
        have h8 := reach_stop (ar := ar) (rs := rs) (n := n) (f := 60 - k - 1) hk70 (by omega) hdeep0 (by rw [hnx0, h9])
        rw [hnx0, h9] at h8
        have e9 : reachL ar rs t n = (os, false) := hgo0.trans h8
        rw [e9]
        exact ⟨_, _, _, _, rfl, by rw [← htsi]; exact hf3, by rw [← hfsi]; exact hf4, by rw [← hbsi]; exact hf5, by rw [← hdsi]; exact hf6, rfl⟩
       ·refine X.skip ?_
        refine X.seq ?_
        refine X.draw [slH 22 1 av an acs, intsH 2 bv fs, slH 77 3 cv cn ccs, intsH 2 dv ds, cellsH b3 [av, bv, cv, dv, .bool (true)] 85, cellsH b2 [(.slice none 0 0), (.slice none 0 0), (.slice none 0 0), (.slice none 0 0), .bool (false)] 85, cellsH b1 [arv, rsv] 33] L 8 [[], [], [], [], [], [], [], []] [[], [0], [], [], [2, 3], [4], [5], [6]] (phiL [fun us v => v = ptr b3 0, fun us v => v = av, fun us v => v = x1, fun us v => v = (.int .i64 (((q : Nat) : Int)) : Value), fun us v => v = (.pointer (some (elemA x1 (q * 3))) : Value), fun us v => v = (.pointer (some (elemA x1 (q * 3 + 2))) : Value), fun us v => v = a2, fun us v => ∃ b, v = .slice (some ⟨b, 0, none⟩) 1 1]) (ownL [fun us v => [], fun us v => [], fun us v => [], fun us v => [], fun us v => [], fun us v => [], fun us v => [], fun us v => [slH 22 1 v 1 [a2]]]) mixed rfl rfl (by kernel_rfl) ?_ ?_
        ·refine stepsP.cons (fun vals R hpZ => ?_) ?_
         ·refine XG.op (XOp.fieldP (b := b3) (0) Try.runUnderlying85 rfl Try.sizeOf49 (by decide) rfl rfl ?_)
          exact ⟨rfl, rfl, rfl⟩
         refine stepsP.cons (fun vals R hpZ => ?_) ?_
         ·rw [(envs_of_sat (l := [(0, ptr b3 0)]) ⟨hpZ 0 (by decide), trivial⟩).symm]
          refine XG.op (XOp.load1 (v := av) Try.isAgg49 rfl (Rd.own [_, _, _, _] rfl rfl) ?_)
          exact ⟨rfl, rfl, rfl⟩
         refine stepsP.cons (fun vals R hpZ => ?_) ?_
         ·refine XG.op (XOp.move (x1) rfl ?_)
          exact ⟨rfl, rfl, rfl⟩
         refine stepsP.cons (fun vals R hpZ => ?_) ?_
         ·refine XG.op (XOp.move (.int .i64 (((q : Nat) : Int))) rfl ?_)
          exact ⟨rfl, rfl, rfl⟩
         refine stepsP.cons (fun vals R hpZ => ?_) ?_
         ·rw [(envs_of_sat (l := [(2, x1), (3, (.int .i64 (((q : Nat) : Int)) : Value))]) ⟨hpZ 2 (by decide), hpZ 3 (by decide), trivial⟩).symm]
          refine XG.op (XOp.indexS (v := x1) (i := ((q : Nat) : Int)) (n := (nx).length) q Try.runUnderlying39 Try.sizeOf77 rfl rfl rfl hr1.slv (by omega) rfl ?_)
          exact ⟨rfl, rfl, rfl⟩
         refine stepsP.cons (fun vals R hpZ => ?_) ?_
         ·rw [(envs_of_sat (l := [(4, (.pointer (some (elemA x1 (q * 3))) : Value))]) ⟨hpZ 4 (by decide), trivial⟩).symm]
          refine XG.op (XOp.fieldE (v := x1) (q * 3 + 2) Try.runUnderlying77 rfl Try.sizeOf22 (by decide) rfl rfl ?_)
          exact ⟨rfl, rfl, rfl⟩
         refine stepsP.cons (fun vals R hpZ => ?_) ?_
         ·rw [(envs_of_sat (l := [(5, (.pointer (some (elemA x1 (q * 3 + 2))) : Value))]) ⟨hpZ 5 (by decide), trivial⟩).symm]
          refine XG.op (XOp.load1 (v := a2) Try.isAgg22 rfl (hr4 _) ?_)
          exact ⟨rfl, rfl, rfl⟩
         refine stepsP.cons (fun vals R hpZ => ?_) ?_
         ·rw [(envs_of_sat (l := [(6, a2)]) ⟨hpZ 6 (by decide), trivial⟩).symm]
          refine XG.op (XOp.buildSlice (s := 1) [a2] [(.slice none 0 0)] [(0, [a2])] Try.runUnderlying49 Try.sizeOf22 Try.zeroValue22 rfl (by decide) rfl (.cons (cells_one (IntsF.isSl ha2)) CellsAre.nil) rfl ?_)
          intro v7 hv6
          exact ⟨rfl, hv6, rfl⟩
         exact stepsP.nil
        ·intro vals hphi
         have e0 : vals 0 = ptr b3 0 := hphi 0 (by decide)
         have e1 : vals 1 = av := hphi 1 (by decide)
         have e2 : vals 2 = x1 := hphi 2 (by decide)
         have e3 : vals 3 = (.int .i64 (((q : Nat) : Int)) : Value) := hphi 3 (by decide)
         have e4 : vals 4 = (.pointer (some (elemA x1 (q * 3))) : Value) := hphi 4 (by decide)
         have e5 : vals 5 = (.pointer (some (elemA x1 (q * 3 + 2))) : Value) := hphi 5 (by decide)
         have e6 : vals 6 = a2 := hphi 6 (by decide)
         have f7 : ∃ b, (vals 7) = .slice (some ⟨b, 0, none⟩) 1 1 := hphi 7 (by decide)
         generalize hu7 : vals 7 = u1 at f7
         rw [(envs_of_sat (l := [(0, ptr b3 0), (1, av), (2, x1), (3, (.int .i64 (((q : Nat) : Int)) : Value)), (4, (.pointer (some (elemA x1 (q * 3))) : Value)), (5, (.pointer (some (elemA x1 (q * 3 + 2))) : Value)), (6, a2), (7, u1)]) ⟨e0, e1, e2, e3, e4, e5, e6, hu7, trivial⟩).symm]
         show XL _ _ _ _ _ _ _ (slH 22 1 u1 1 [a2] :: slH 22 1 av an acs :: intsH 2 bv fs :: slH 77 3 cv cn ccs :: intsH 2 dv ds :: cellsH b3 [av, bv, cv, dv, .bool (true)] 85 :: cellsH b2 [(.slice none 0 0), (.slice none 0 0), (.slice none 0 0), (.slice none 0 0), .bool (false)] 85 :: cellsH b1 [arv, rsv] 33 :: L)
         refine XL.cons (XOp.append (m := 1) (bytes := 24) (cs := acs) [_] _ [a2] Try.runUnderlying49 Try.typeInfo22 rfl rfl rfl rfl rfl rfl rfl (SlV.own [] rfl) rfl (Rd.lit [] rfl) (ones_cons (one_sl (IntsF.isSl ha2)) ones_nil) (by (try simp only [List.length_append, List.length_nil, List.length_cons, List.length_singleton]); omega) (by (try simp only [List.length_append, List.length_nil, List.length_cons, List.length_singleton]); omega) ?_)
         intro v8 hs2 hn1 hm1
         have hc3 := RowsC.snoc hAi ha2
         refine XL.cons (XOp.fieldP (b := b3) (0) Try.runUnderlying85 rfl Try.sizeOf49 (by decide) rfl rfl ?_)
         refine XL.cons (XOp.store1 (v := v8) [_, _, _, _, _] _ [v8, bv, cv, dv, .bool (true)] Try.sizeOf49 rfl rfl (one_sl hs2) rfl rfl rfl ?_)
         refine XL.nil ?_
         refine X.seq ?_
         refine X.region ?_
         refine XL.cons (XOp.fieldP (b := b3) (1) Try.runUnderlying85 rfl Try.sizeOf22 (by decide) rfl rfl ?_)
         refine XL.cons (XOp.load1 (v := bv) Try.isAgg22 rfl (Rd.own [_, _, _, _, _] rfl rfl) ?_)
         refine XL.cons (XOp.move (.int .i64 (((k : Nat) : Int))) rfl ?_)
         refine XL.cons (XOp.buildSlice (s := 1) [.int .i64 (((k : Nat) : Int))] [.int .i64 (0)] [(0, [.int .i64 (((k : Nat) : Int))])] Try.runUnderlying22 Try.sizeOf2 Try.zeroValue2 rfl (by decide) rfl (.cons rfl CellsAre.nil) rfl ?_)
         intro v9 hv7
         refine XL.cons (XOp.append1 (u := ((k : Nat) : Int)) [_, _, _] _ Try.runUnderlying22 Try.typeInfo2 rfl rfl rfl rfl rfl rfl (SlV.own [] rfl) (Rd.sl [] rfl rfl) (by (try simp only [List.length_append, List.length_nil, List.length_cons, List.length_singleton, List.length_take, List.length_drop]); omega) ?_)
         intro v10 hs3 hn2
         refine XL.cons (XOp.fieldP (b := b3) (1) Try.runUnderlying85 rfl Try.sizeOf22 (by decide) rfl rfl ?_)
         refine XL.cons (XOp.store1 (v := v10) [_, _, _, _, _, _] _ [v8, v10, cv, dv, .bool (true)] Try.sizeOf22 rfl rfl (one_sl hs3) rfl rfl rfl ?_)
         refine XL.nil ?_
         refine X.seq ?_
         refine X.draw [slH 2 1 v9 1 [.int .i64 (((k : Nat) : Int))], slH 22 1 u1 1 [a2], slH 22 1 v8 ((an) + 1) (acs ++ [a2]), intsH 2 v10 (fs ++ [((k : Nat) : Int)]), slH 77 3 cv cn ccs, intsH 2 dv ds, cellsH b3 [v8, v10, cv, dv, .bool (true)] 85, cellsH b2 [(.slice none 0 0), (.slice none 0 0), (.slice none 0 0), (.slice none 0 0), .bool (false)] 85, cellsH b1 [arv, rsv] 33] L 7 [[], [], [], [], [], [], []] [[], [0], [], [], [2, 3], [4], [5]] (phiL [fun us v => v = ptr b3 2, fun us v => v = cv, fun us v => v = x1, fun us v => v = (.int .i64 (((q : Nat) : Int)) : Value), fun us v => v = (.pointer (some (elemA x1 (q * 3))) : Value), fun us v => v = (.agg #[.int .i64 ((nx.getD q (0, 0, [])).1), .int .i64 ((nx.getD q (0, 0, [])).2.1), a2] : Value), fun us v => ∃ b, v = .slice (some ⟨b, 0, none⟩) 1 1]) (ownL [fun us v => [], fun us v => [], fun us v => [], fun us v => [], fun us v => [], fun us v => [], fun us v => [slH 77 3 v 1 [.int .i64 ((nx.getD q (0, 0, [])).1), .int .i64 ((nx.getD q (0, 0, [])).2.1), a2]]]) mixed rfl rfl (by kernel_rfl) ?_ ?_
         ·refine stepsP.cons (fun vals R hpZ => ?_) ?_
          ·refine XG.op (XOp.fieldP (b := b3) (2) Try.runUnderlying85 rfl Try.sizeOf39 (by decide) rfl rfl ?_)
           exact ⟨rfl, rfl, rfl⟩
          refine stepsP.cons (fun vals R hpZ => ?_) ?_
          ·rw [(envs_of_sat (l := [(0, ptr b3 2)]) ⟨hpZ 0 (by decide), trivial⟩).symm]
           refine XG.op (XOp.load1 (v := cv) Try.isAgg39 rfl (Rd.own [_, _, _, _, _, _] rfl rfl) ?_)
           exact ⟨rfl, rfl, rfl⟩
          refine stepsP.cons (fun vals R hpZ => ?_) ?_
          ·refine XG.op (XOp.move (x1) rfl ?_)
           exact ⟨rfl, rfl, rfl⟩
          refine stepsP.cons (fun vals R hpZ => ?_) ?_
          ·refine XG.op (XOp.move (.int .i64 (((q : Nat) : Int))) rfl ?_)
           exact ⟨rfl, rfl, rfl⟩
          refine stepsP.cons (fun vals R hpZ => ?_) ?_
          ·rw [(envs_of_sat (l := [(2, x1), (3, (.int .i64 (((q : Nat) : Int)) : Value))]) ⟨hpZ 2 (by decide), hpZ 3 (by decide), trivial⟩).symm]
           refine XG.op (XOp.indexS (v := x1) (i := ((q : Nat) : Int)) (n := (nx).length) q Try.runUnderlying39 Try.sizeOf77 rfl rfl rfl hr1.slv (by omega) rfl ?_)
           exact ⟨rfl, rfl, rfl⟩
          refine stepsP.cons (fun vals R hpZ => ?_) ?_
          ·rw [(envs_of_sat (l := [(4, (.pointer (some (elemA x1 (q * 3))) : Value))]) ⟨hpZ 4 (by decide), trivial⟩).symm]
           refine XG.op (XOp.loadN [.int .i64 ((nx.getD q (0, 0, [])).1), .int .i64 ((nx.getD q (0, 0, [])).2.1), a2] Try.isAgg77 Try.sizeOf77 rfl rfl (Rd.three (hr2 _) (hr3 _) (hr4 _)) ?_)
           exact ⟨rfl, rfl, rfl⟩
          refine stepsP.cons (fun vals R hpZ => ?_) ?_
          ·rw [(envs_of_sat (l := [(5, (.agg #[.int .i64 ((nx.getD q (0, 0, [])).1), .int .i64 ((nx.getD q (0, 0, [])).2.1), a2] : Value))]) ⟨hpZ 5 (by decide), trivial⟩).symm]
           refine XG.op (XOp.buildSlice (s := 3) [.int .i64 ((nx.getD q (0, 0, [])).1), .int .i64 ((nx.getD q (0, 0, [])).2.1), a2] [.int .i64 (0), .int .i64 (0), (.slice none 0 0)] [(0, [.int .i64 ((nx.getD q (0, 0, [])).1), .int .i64 ((nx.getD q (0, 0, [])).2.1), a2])] Try.runUnderlying39 Try.sizeOf77 Try.zeroValue77 rfl (by decide) rfl (.cons rfl CellsAre.nil) rfl ?_)
           intro v12 hv9
           exact ⟨rfl, hv9, rfl⟩
          exact stepsP.nil
         ·intro vals hphi
          have e0 : vals 0 = ptr b3 2 := hphi 0 (by decide)
          have e1 : vals 1 = cv := hphi 1 (by decide)
          have e2 : vals 2 = x1 := hphi 2 (by decide)
          have e3 : vals 3 = (.int .i64 (((q : Nat) : Int)) : Value) := hphi 3 (by decide)
          have e4 : vals 4 = (.pointer (some (elemA x1 (q * 3))) : Value) := hphi 4 (by decide)
          have e5 : vals 5 = (.agg #[.int .i64 ((nx.getD q (0, 0, [])).1), .int .i64 ((nx.getD q (0, 0, [])).2.1), a2] : Value) := hphi 5 (by decide)
          have f6 : ∃ b, (vals 6) = .slice (some ⟨b, 0, none⟩) 1 1 := hphi 6 (by decide)
          generalize hu6 : vals 6 = u2 at f6
          rw [(envs_of_sat (l := [(0, ptr b3 2), (1, cv), (2, x1), (3, (.int .i64 (((q : Nat) : Int)) : Value)), (4, (.pointer (some (elemA x1 (q * 3))) : Value)), (5, (.agg #[.int .i64 ((nx.getD q (0, 0, [])).1), .int .i64 ((nx.getD q (0, 0, [])).2.1), a2] : Value)), (6, u2)]) ⟨e0, e1, e2, e3, e4, e5, hu6, trivial⟩).symm]
          show XL _ _ _ _ _ _ _ (slH 77 3 u2 1 [.int .i64 ((nx.getD q (0, 0, [])).1), .int .i64 ((nx.getD q (0, 0, [])).2.1), a2] :: slH 2 1 v9 1 [.int .i64 (((k : Nat) : Int))] :: slH 22 1 u1 1 [a2] :: slH 22 1 v8 ((an) + 1) (acs ++ [a2]) :: intsH 2 v10 (fs ++ [((k : Nat) : Int)]) :: slH 77 3 cv cn ccs :: intsH 2 dv ds :: cellsH b3 [v8, v10, cv, dv, .bool (true)] 85 :: cellsH b2 [(.slice none 0 0), (.slice none 0 0), (.slice none 0 0), (.slice none 0 0), .bool (false)] 85 :: cellsH b1 [arv, rsv] 33 :: L)
          refine XL.cons (XOp.append (m := 1) (bytes := 40) (cs := ccs) [_, _, _, _, _] _ [.int .i64 ((nx.getD q (0, 0, [])).1), .int .i64 ((nx.getD q (0, 0, [])).2.1), a2] Try.runUnderlying39 Try.typeInfo77 rfl rfl rfl rfl rfl rfl rfl (SlV.own [] rfl) rfl (Rd.lit [] rfl) (ones_cons rfl (ones_cons rfl (ones_cons (one_sl (IntsF.isSl ha2)) ones_nil))) (by (try simp only [List.length_append, List.length_nil, List.length_cons, List.length_singleton]); omega) (by (try simp only [List.length_append, List.length_nil, List.length_cons, List.length_singleton]); omega) ?_)
          intro v13 hs4 hn3 hm2
          have hc4 := StepsC.snoc hBi (i := (nx.getD q (0, 0, [])).1) (j := (nx.getD q (0, 0, [])).2.1) ha2
          refine XL.cons (XOp.fieldP (b := b3) (2) Try.runUnderlying85 rfl Try.sizeOf39 (by decide) rfl rfl ?_)
          refine XL.cons (XOp.store1 (v := v13) [_, _, _, _, _, _, _] _ [v8, v10, v13, dv, .bool (true)] Try.sizeOf39 rfl rfl (one_sl hs4) rfl rfl rfl ?_)
          refine XL.nil ?_
          refine X.draw [slH 77 3 u2 1 [.int .i64 ((nx.getD q (0, 0, [])).1), .int .i64 ((nx.getD q (0, 0, [])).2.1), a2], slH 2 1 v9 1 [.int .i64 (((k : Nat) : Int))], slH 22 1 u1 1 [a2], slH 22 1 v8 ((an) + 1) (acs ++ [a2]), intsH 2 v10 (fs ++ [((k : Nat) : Int)]), slH 77 3 v13 ((cn) + 1) (ccs ++ [.int .i64 ((nx.getD q (0, 0, [])).1), .int .i64 ((nx.getD q (0, 0, [])).2.1), a2]), intsH 2 dv ds, cellsH b3 [v8, v10, v13, dv, .bool (true)] 85, cellsH b2 [(.slice none 0 0), (.slice none 0 0), (.slice none 0 0), (.slice none 0 0), .bool (false)] 85, cellsH b1 [arv, rsv] 33] L 9 [[], [], [], [], [], [], [], [], []] [[], [0], [], [2], [], [3, 4], [5], [6], [7]] (phiL [fun us v => v = ptr b3 3, fun us v => v = dv, fun us v => v = ptr b3 3, fun us v => v = dv, fun us v => v = (.int .i64 (((k : Nat) : Int)) : Value), fun us v => v = (.pointer (some (elemA dv (k))) : Value), fun us v => v = (.int .i64 (ds.getD k 0) : Value), fun us v => v = (.int .i64 ((ds.getD k 0) + 1) : Value), fun us v => ∃ b, v = .slice (some ⟨b, 0, none⟩) 1 1]) (ownL [fun us v => [], fun us v => [], fun us v => [], fun us v => [], fun us v => [], fun us v => [], fun us v => [], fun us v => [], fun us v => [slH 2 1 v 1 [.int .i64 ((ds.getD k 0) + 1)]]]) mixed rfl rfl (by kernel_rfl) ?_ ?_
          ·refine stepsP.cons (fun vals R hpZ => ?_) ?_
           ·refine XG.op (XOp.fieldP (b := b3) (3) Try.runUnderlying85 rfl Try.sizeOf22 (by decide) rfl rfl ?_)
            exact ⟨rfl, rfl, rfl⟩
           refine stepsP.cons (fun vals R hpZ => ?_) ?_
           ·rw [(envs_of_sat (l := [(0, ptr b3 3)]) ⟨hpZ 0 (by decide), trivial⟩).symm]
            refine XG.op (XOp.load1 (v := dv) Try.isAgg22 rfl (Rd.own [_, _, _, _, _, _, _] rfl rfl) ?_)
            exact ⟨rfl, rfl, rfl⟩
           refine stepsP.cons (fun vals R hpZ => ?_) ?_
           ·refine XG.op (XOp.fieldP (b := b3) (3) Try.runUnderlying85 rfl Try.sizeOf22 (by decide) rfl rfl ?_)
            exact ⟨rfl, rfl, rfl⟩
           refine stepsP.cons (fun vals R hpZ => ?_) ?_
           ·rw [(envs_of_sat (l := [(2, ptr b3 3)]) ⟨hpZ 2 (by decide), trivial⟩).symm]
            refine XG.op (XOp.load1 (v := dv) Try.isAgg22 rfl (Rd.own [_, _, _, _, _, _, _] rfl rfl) ?_)
            exact ⟨rfl, rfl, rfl⟩
           refine stepsP.cons (fun vals R hpZ => ?_) ?_
           ·refine XG.op (XOp.move (.int .i64 (((k : Nat) : Int))) rfl ?_)
            exact ⟨rfl, rfl, rfl⟩
           refine stepsP.cons (fun vals R hpZ => ?_) ?_
           ·rw [(envs_of_sat (l := [(3, dv), (4, (.int .i64 (((k : Nat) : Int)) : Value))]) ⟨hpZ 3 (by decide), hpZ 4 (by decide), trivial⟩).symm]
            refine XG.op (XOp.indexS (v := dv) (i := ((k : Nat) : Int)) (n := (ds).length) k Try.runUnderlying22 Try.sizeOf2 rfl rfl rfl (intsH.slv [_, _, _, _, _, _] rfl) (by omega) (Nat.mul_one _) ?_)
            exact ⟨rfl, rfl, rfl⟩
           refine stepsP.cons (fun vals R hpZ => ?_) ?_
           ·rw [(envs_of_sat (l := [(5, (.pointer (some (elemA dv (k))) : Value))]) ⟨hpZ 5 (by decide), trivial⟩).symm]
            refine XG.op (XOp.load1 (v := .int .i64 (ds.getD k 0)) Try.isAgg2 rfl (intsH.rd [_, _, _, _, _, _] rfl (by omega)) ?_)
            exact ⟨rfl, rfl, rfl⟩
           refine stepsP.cons (fun vals R hpZ => ?_) ?_
           ·rw [(envs_of_sat (l := [(6, (.int .i64 (ds.getD k 0) : Value))]) ⟨hpZ 6 (by decide), trivial⟩).symm]
            refine XG.op (XOp.addR (a := ds.getD k 0) (b := 1) ((ds.getD k 0) + 1) rfl rfl (by omega) (by omega) ?_)
            exact ⟨rfl, rfl, rfl⟩
           refine stepsP.cons (fun vals R hpZ => ?_) ?_
           ·rw [(envs_of_sat (l := [(7, (.int .i64 ((ds.getD k 0) + 1) : Value))]) ⟨hpZ 7 (by decide), trivial⟩).symm]
            refine XG.op (XOp.buildSlice (s := 1) [.int .i64 ((ds.getD k 0) + 1)] [.int .i64 (0)] [(0, [.int .i64 ((ds.getD k 0) + 1)])] Try.runUnderlying22 Try.sizeOf2 Try.zeroValue2 rfl (by decide) rfl (.cons rfl CellsAre.nil) rfl ?_)
            intro v15 hv11
            exact ⟨rfl, hv11, rfl⟩
           exact stepsP.nil
          ·intro vals hphi
           have e0 : vals 0 = ptr b3 3 := hphi 0 (by decide)
           have e1 : vals 1 = dv := hphi 1 (by decide)
           have e2 : vals 2 = ptr b3 3 := hphi 2 (by decide)
           have e3 : vals 3 = dv := hphi 3 (by decide)
           have e4 : vals 4 = (.int .i64 (((k : Nat) : Int)) : Value) := hphi 4 (by decide)
           have e5 : vals 5 = (.pointer (some (elemA dv (k))) : Value) := hphi 5 (by decide)
           have e6 : vals 6 = (.int .i64 (ds.getD k 0) : Value) := hphi 6 (by decide)
           have e7 : vals 7 = (.int .i64 ((ds.getD k 0) + 1) : Value) := hphi 7 (by decide)
           have f8 : ∃ b, (vals 8) = .slice (some ⟨b, 0, none⟩) 1 1 := hphi 8 (by decide)
           generalize hu8 : vals 8 = u3 at f8
           rw [(envs_of_sat (l := [(0, ptr b3 3), (1, dv), (2, ptr b3 3), (3, dv), (4, (.int .i64 (((k : Nat) : Int)) : Value)), (5, (.pointer (some (elemA dv (k))) : Value)), (6, (.int .i64 (ds.getD k 0) : Value)), (7, (.int .i64 ((ds.getD k 0) + 1) : Value)), (8, u3)]) ⟨e0, e1, e2, e3, e4, e5, e6, e7, hu8, trivial⟩).symm]
           show XL _ _ _ _ _ _ _ (slH 2 1 u3 1 [.int .i64 ((ds.getD k 0) + 1)] :: slH 77 3 u2 1 [.int .i64 ((nx.getD q (0, 0, [])).1), .int .i64 ((nx.getD q (0, 0, [])).2.1), a2] :: slH 2 1 v9 1 [.int .i64 (((k : Nat) : Int))] :: slH 22 1 u1 1 [a2] :: slH 22 1 v8 ((an) + 1) (acs ++ [a2]) :: intsH 2 v10 (fs ++ [((k : Nat) : Int)]) :: slH 77 3 v13 ((cn) + 1) (ccs ++ [.int .i64 ((nx.getD q (0, 0, [])).1), .int .i64 ((nx.getD q (0, 0, [])).2.1), a2]) :: intsH 2 dv ds :: cellsH b3 [v8, v10, v13, dv, .bool (true)] 85 :: cellsH b2 [(.slice none 0 0), (.slice none 0 0), (.slice none 0 0), (.slice none 0 0), .bool (false)] 85 :: cellsH b1 [arv, rsv] 33 :: L)
           refine XL.cons (XOp.append1 (u := (ds.getD k 0) + 1) [_, _, _, _, _, _, _] _ Try.runUnderlying22 Try.typeInfo2 rfl rfl rfl rfl rfl rfl (SlV.own [] rfl) (Rd.sl [] rfl rfl) (by (try simp only [List.length_append, List.length_nil, List.length_cons, List.length_singleton, List.length_take, List.length_drop]); omega) ?_)
           intro v16 hs5 hn4
           refine XL.cons (XOp.fieldP (b := b3) (3) Try.runUnderlying85 rfl Try.sizeOf22 (by decide) rfl rfl ?_)
           refine XL.cons (XOp.store1 (v := v16) [_, _, _, _, _, _, _, _] _ [v8, v10, v13, v16, .bool (true)] Try.sizeOf22 rfl rfl (one_sl hs5) rfl rfl rfl ?_)
           refine XL.nil ?_
           refine X.region ?_
           refine XL.cons (XOp.move (.int .i64 (((q : Nat) : Int))) rfl ?_)
           refine XL.cons (XOp.addR (a := ((q : Nat) : Int)) (b := 1) (((q + 1 : Nat) : Int)) rfl rfl (by omega) (by omega) ?_)
           refine XL.cons (XOp.assign (.int .i64 (((q + 1 : Nat) : Int))) rfl ?_)
           refine XL.nil ?_
           exact ⟨(q + 1, os ++ [((nx.getD q (0, 0, [])).2.2, (k : Int), nx.getD q (0, 0, []), (EL os0 k).2.2.2 + 1)], v8, ts ++ [(nx.getD q (0, 0, [])).2.2], acs ++ [a2], (an) + 1, v10, fs ++ [((k : Nat) : Int)], v13, bs ++ [((nx.getD q (0, 0, [])).1, (nx.getD q (0, 0, [])).2.1, (nx.getD q (0, 0, [])).2.2)], ccs ++ [.int .i64 ((nx.getD q (0, 0, [])).1), .int .i64 ((nx.getD q (0, 0, [])).2.1), a2], (cn) + 1, v16, ds ++ [(ds.getD k 0) + 1], G2), _, leG2, (FLe.refl _), ⟨rfl, rfl, rfl, rfl, rfl, rfl, rfl, trivial⟩, (Sub.drop (Sub.drop (Sub.drop (Sub.drop (Sub.cons (Sub.cons (Sub.cons (Sub.cons (Sub.cons (Sub.cons (Sub.cons (Sub.refl _)))))))))))), ⟨rfl, leG2, (hs2), (hs3), (hs4), (hs5), (hc3), (hc4), (by (try dsimp only); rw [List.length_append, List.length_singleton]; omega), (by (try dsimp only); rw [List.length_append, List.length_singleton]; omega), (by (try dsimp only); rw [terms_snoc, htsi]), (by (try dsimp only); rw [froms_snoc, hfsi]), (by (try dsimp only); rw [bys_snoc, hbsi]), (by (try dsimp only); rw [deeps_snoc, ← hdsi, hdk9]), (by (try dsimp only); rw [List.length_append, List.length_singleton]; omega), (hoki.snoc (hnxo q (by omega))), (hdoi.snoc (by dsimp only; omega)), (by (try dsimp only) <;> omega), (by (try dsimp only); rw [List.length_append, List.length_singleton]; omega), (by (try dsimp only); rw [EL_snoc hkp]; exact hel), (by (try dsimp only); exact hgoi.trans (add_new (by omega) hnin (by omega)))⟩, (by omega)⟩
    ·refine X.exit (thenQ_exit (thenQ_exit (blockQ_exit ?_)))
     refine X.region ?_
     refine XL.cons (XOp.move (.int .i64 (((k : Nat) : Int))) rfl ?_)
     refine XL.cons (XOp.addR (a := ((k : Nat) : Int)) (b := 1) (((k + 1 : Nat) : Int)) rfl rfl (by omega) (by omega) ?_)
     refine XL.cons (XOp.assign (.int .i64 (((k + 1 : Nat) : Int))) rfl ?_)
     refine XL.nil ?_
     exact ⟨(k + 1, os, av, ts, acs, an, bv, fs, cv, bs, ccs, cn, dv, ds, G2), _, (FLe.trans (FLe.trans leG1 le2) leG2), (FLe.refl _), ⟨rfl, rfl, rfl, rfl, rfl, trivial⟩, (Sub.cons (Sub.cons (Sub.cons (Sub.cons (Sub.cons (Sub.cons (Sub.cons (Sub.refl _)))))))), ⟨rfl, (FLe.trans (FLe.trans leG1 le2) leG2), (havi), (hbvi), (hcvi), (hdvi), (hAi), (hBi), (hani), (hcni), (htsi), (hfsi), (hbsi), (hdsi), (hli), (hoki), (hdoi), (by (try dsimp only); omega), (by (try dsimp only); have h9 := hgoi.trans (add_end (by omega)); have h8 := reach_more (ar := ar) (rs := rs) (n := n) (f := 60 - k - 1) hk70 (by omega) hdeep0 (by rw [hnx0, h9]); rw [hnx0, h9] at h8; exact hgo0.trans h8)⟩, (by (try dsimp only); omega)⟩
 ·refine X.exit (thenQ_exit (thenQ_exit (blockQ_exit ?_)))
  refine X.seq ?_
  refine X.region ?_
  refine XL.cons (XOp.loadN [av, bv, cv, dv, .bool (true)] Try.isAgg85 Try.sizeOf85 rfl rfl (Rd.ownN [_, _, _, _] rfl rfl) ?_)
  refine XL.cons (XOp.storeN (vs := [av, bv, cv, dv, .bool (true)]) [_, _, _, _, _] _ [av, bv, cv, dv, .bool (true)] Try.sizeOf85 rfl rfl rfl (ones_cons (one_sl hav) (ones_cons (one_sl hbv) (ones_cons (one_sl hcv) (ones_cons (one_sl hdv) (ones_cons rfl ones_nil))))) rfl rfl rfl ?_)
  refine XL.nil ?_
  refine X.freezeF [] _ _ rfl (fun F8 le8 hz7 => ?_)
  replace har := har.mono le8
  replace hrs := hrs.mono le8
  replace ht := ht.mono le8
  replace hf1 := hf1.mono le8
  replace hc1 := hc1.mono le8
  replace hc2 := hc2.mono le8
  replace hA := hA.mono le8
  replace hB := hB.mono le8
  have hf7 : RowsF F8 av ts := CO.fz hA (by first | rfl | simp | omega) hz7.fz
  refine X.freezeF [] _ _ rfl (fun F9 le9 hz8 => ?_)
  replace har := har.mono le9
  replace hrs := hrs.mono le9
  replace ht := ht.mono le9
  replace hf1 := hf1.mono le9
  replace hc1 := hc1.mono le9
  replace hc2 := hc2.mono le9
  replace hA := hA.mono le9
  replace hB := hB.mono le9
  replace hf7 := hf7.mono le9
  have hf8 : IntsF F9 bv fs := intsH.fz (xs := fs) hz8.fz
  refine X.freezeF [] _ _ rfl (fun F10 le10 hz9 => ?_)
  replace har := har.mono le10
  replace hrs := hrs.mono le10
  replace ht := ht.mono le10
  replace hf1 := hf1.mono le10
  replace hc1 := hc1.mono le10
  replace hc2 := hc2.mono le10
  replace hA := hA.mono le10
  replace hB := hB.mono le10
  replace hf7 := hf7.mono le10
  replace hf8 := hf8.mono le10
  have hf9 : StepsF F10 cv bs := CO.fz hB (by first | rfl | simp | omega) hz9.fz
  refine X.freezeF [] _ _ rfl (fun F11 le11 hz10 => ?_)
  replace har := har.mono le11
  replace hrs := hrs.mono le11
  replace ht := ht.mono le11
  replace hf1 := hf1.mono le11
  replace hc1 := hc1.mono le11
  replace hc2 := hc2.mono le11
  replace hA := hA.mono le11
  replace hB := hB.mono le11
  replace hf7 := hf7.mono le11
  replace hf8 := hf8.mono le11
  replace hf9 := hf9.mono le11
  have hf10 : IntsF F11 dv ds := intsH.fz (xs := ds) hz10.fz
  refine X.ret (retEnd (L' := L) [.agg #[av, bv, cv, dv, .bool (true)]] (.agg #[av, bv, cv, dv, .bool (true)]) (.cell rfl (loadNV [av, bv, cv, dv, .bool (true)] Try.isAgg85 Try.sizeOf85 rfl (Rd.ownN [_] rfl rfl)) .nil) rfl (FLe.trans (FLe.trans (FLe.trans (FLe.trans (FLe.trans le1 leG1) le8) le9) le10) le11) (FLe.refl _) (Sub.drop (Sub.drop (Sub.drop (Sub.refl _)))) ?_)
  have e9 : reachL ar rs t n = (os, true) := hgo.trans (reach_done (by omega) hl)
  rw [e9]
  exact ⟨_, _, _, _, rfl, by rw [← hts]; exact hf7, by rw [← hfs]; exact hf8, by rw [← hbs]; exact hf9, by rw [← hds]; exact hf10, rfl⟩

/- spec.l1CopyTerms -/
theorem l1CopyTerms_spec {F : FH} {L : List HP} {tsv : Value} {ts : List (List Int)} (hts : RowsF F tsv ts) (hlt : ts.length ≤ 4000000) (htb : ∀ i, i < ts.length → (ts.getD i []).length ≤ 4000000) :
    Does Try.prog 78 [tsv] F (L) (fun v F' L' => ∃ (a : Value), (a : Value) = v ∧ (RowsF F' a ts) ∧ L = L') := by
 refine Does.of_X Try.func78 rfl rfl rfl ?_
 refine X.seq ?_
 refine X.region ?_
 refine XL.cons (XOp.assign ((.slice none 0 0)) rfl ?_)
 refine XL.nil ?_
 refine X.seq ?_
 refine X.region ?_
 refine XL.cons (XOp.buildSlice (s := 1) [] [(.slice none 0 0)] [] Try.runUnderlying49 Try.sizeOf22 Try.zeroValue22 rfl (by decide) rfl CellsAre.nil rfl ?_)
 intro v1 hv1
 refine XL.cons (XOp.assign (v1) rfl ?_)
 refine XL.nil ?_
 refine X.seq ?_
 refine X.seq ?_
 refine X.region ?_
 refine XL.cons (XOp.assign (.int .i64 (0)) rfl ?_)
 refine XL.nil ?_
 refine X.block ?_
 refine X.loop (α := Nat × Value × RowL × List Value × FH) (fun xQ => [(0, tsv), (3, xQ.2.1), (4, .int .i64 (((xQ.1 : Nat) : Int)))]) (fun xQ => slH 22 1 xQ.2.1 xQ.1 xQ.2.2.2.1 :: L) (fun xQ F' => xQ.2.2.2.2 = F' ∧ F ≤ xQ.2.2.2.2 ∧ (IsSl xQ.2.1) ∧ (xQ.1 ≤ ts.length) ∧ (RowsC xQ.2.2.2.2 xQ.2.2.2.1 xQ.2.2.1) ∧ (xQ.2.2.1 = ts.take xQ.1)) (fun xQ => ts.length - xQ.1) (0, v1, [], [], F) ⟨rfl, rfl, rfl, trivial⟩ (Sub.cons (Sub.refl _)) ⟨rfl, FLe.refl _, ((isSl_lit hv1)), (by (try dsimp only) <;> omega), (CO.nil), (rfl)⟩ ?_
 rintro ⟨k, ov, os, ocs, G1⟩ rE _ _ ⟨rfl, leG, hov, hk, hC, hos⟩
 show X _ _ _ _ (envs [(0, tsv), (3, ov), (4, .int .i64 (((k : Nat) : Int)))] rE) _ (slH 22 1 ov k ocs :: L)
 replace leG : F ≤ G1 := leG
 dsimp only at hov hk hC hos
 have htbk := htb k
 have hol : os.length = k := by rw [hos, List.length_take]; omega
 have leG1 := leG
 replace hts := hts.mono leG1
 refine X.seq ?_
 refine X.seq ?_
 refine X.region ?_
 refine XL.cons (XOp.move (.int .i64 (((k : Nat) : Int))) rfl ?_)
 refine XL.cons (XOp.move (tsv) rfl ?_)
 refine XL.cons (XOp.lenS (v := tsv) (n := (ts).length) Try.runUnderlying49 rfl hts.slv ?_)
 refine XL.cons (XOp.lss (a := ((k : Nat) : Int)) (b := (((ts).length : Nat) : Int)) rfl rfl ?_)
 refine XL.nil ?_
 refine X.condD (p := (((k : Nat) : Int) : Int) < (((ts).length : Nat) : Int)) rfl (fun h1 => ?_) (fun h1 => ?_)
 ·refine X.skip ?_
  refine X.seq ?_
  refine X.block ?_
  refine X.region ?_
  refine XL.cons (XOp.move (ov) rfl ?_)
  refine XL.cons (XOp.move (tsv) rfl ?_)
  refine XL.cons (XOp.move (.int .i64 (((k : Nat) : Int))) rfl ?_)
  refine XL.cons (XOp.indexS (v := tsv) (i := ((k : Nat) : Int)) (n := (ts).length) k Try.runUnderlying49 Try.sizeOf22 rfl rfl rfl hts.slv (by omega) (Nat.mul_one _) ?_)
  obtain ⟨a1, ha1, hr1⟩ := hts.rd (i := k) (by omega)
  refine XL.cons (XOp.load1 (v := a1) Try.isAgg22 rfl (hr1 _) ?_)
  refine XL.cons (XOp.frzF <| XOp.call (args := [a1]) Try.call49 rfl (l1Copy_spec ha1 (hlt := (htbk (by omega)))) ?_)
  rintro v2 _ _ _ ⟨rfl, hs1, rfl⟩
  refine ⟨_, _, rfl, fun F1 le1 hz1 => ?_⟩
  replace hts := hts.mono le1
  replace hC := hC.mono le1
  replace ha1 := ha1.mono le1
  replace hr1 := Rd.monoA hr1 le1
  have hf1 : IntsF F1 v2 ((((ts.getD k [])))) := intsH.fz (xs := (((ts.getD k [])))) hz1.fz
  refine XL.cons (XOp.buildSlice (s := 1) [v2] [(.slice none 0 0)] [(0, [v2])] Try.runUnderlying49 Try.sizeOf22 Try.zeroValue22 rfl (by decide) rfl (.cons (cells_one (IntsF.isSl hf1)) CellsAre.nil) rfl ?_)
  intro v3 hv2
  refine XL.cons (XOp.append (m := 1) (bytes := 24) (cs := ocs) [_] _ [v2] Try.runUnderlying49 Try.typeInfo22 rfl rfl rfl rfl rfl rfl rfl (SlV.own [] rfl) rfl (Rd.lit [] rfl) (ones_cons (one_sl (IntsF.isSl hf1)) ones_nil) (by (try simp only [List.length_append, List.length_nil, List.length_cons, List.length_singleton]); omega) (by (try simp only [List.length_append, List.length_nil, List.length_cons, List.length_singleton]); omega) ?_)
  intro v4 hs2 hn1 hm1
  have hc1 := RowsC.snoc hC hf1
  refine XL.cons (XOp.assign (v4) rfl ?_)
  refine XL.nil ?_
  refine X.region ?_
  refine XL.cons (XOp.move (.int .i64 (((k : Nat) : Int))) rfl ?_)
  refine XL.cons (XOp.addR (a := ((k : Nat) : Int)) (b := 1) (((k + 1 : Nat) : Int)) rfl rfl (by omega) (by omega) ?_)
  refine XL.cons (XOp.assign (.int .i64 (((k + 1 : Nat) : Int))) rfl ?_)
  refine XL.nil ?_
  exact ⟨(k + 1, v4, os ++ [(((ts.getD k [])))], ocs ++ [v2], F1), _, (FLe.trans leG1 le1), (FLe.refl _), ⟨rfl, rfl, rfl, trivial⟩, (Sub.drop (Sub.cons (Sub.refl _))), ⟨rfl, (FLe.trans leG1 le1), (hs2), (by (try dsimp only) <;> omega), (hc1), (by (try dsimp only); rw [hos, take_succ_getD [] (by omega)])⟩, (by omega)⟩
 ·refine X.exit (thenQ_exit (thenQ_exit (blockQ_exit ?_)))
  refine X.seq ?_
  refine X.region ?_
  refine XL.cons (XOp.move (ov) rfl ?_)
  refine XL.cons (XOp.assign (ov) rfl ?_)
  refine XL.nil ?_
  refine X.freezeF [] _ _ rfl (fun F2 le2 hz2 => ?_)
  replace hts := hts.mono le2
  replace hC := hC.mono le2
  have hf2 : RowsF F2 ov os := CO.fz hC (by first | rfl | simp | omega) hz2.fz
  refine X.ret (retEnd (L' := L) [ov] (ov) (.tmp rfl .nil) rfl (FLe.trans leG1 le2) (FLe.refl _) (Sub.refl _) ?_)
  have e1 : os = ts := by rw [hos, show k = ts.length from by omega, List.take_length]
  subst e1
  exact ⟨_, rfl, hf2, rfl⟩

/- spec.ReachOf -/
set_option maxRecDepth 20000 in
theorem sReachOf_spec {F : FH} {L : List HP} {arv : Value} {ar : List Int} (har : IntsF F arv ar) {rsv : Value} {rs : List (List Int × List Int)} (hrs : PairsF F rsv rs) {tv : Value} {t : List Int} (ht : IntsF F tv t) {n : Int} (hla : ar.length ≤ 4000000) (hlr : rs.length ≤ 4000000) (hrb : ∀ i, i < rs.length → (rs.getD i ([], [])).1.length ≤ 4000000 ∧ (rs.getD i ([], [])).2.length ≤ 4000000) (hlt : t.length ≤ 4000000) :
    Does Try.prog 39 [.agg #[arv, rsv], tv, .int .i64 (n)] F (L) (fun v F' L' => ∃ (a : Value), (.tuple #[a, .bool ((reachF ar rs t n).2)] : Value) = v ∧ (RowsF F' a (terms (reachF ar rs t n).1)) ∧ L = L') := by
 refine Does.of_X Try.func39 rfl rfl rfl ?_
 refine X.seq ?_
 refine X.region ?_
 refine XL.cons (XOp.box [arv, rsv] rfl rfl ?_)
 intro b1
 refine XL.cons (XOp.assign ((.slice none 0 0)) rfl ?_)
 refine XL.cons (XOp.assign (.bool (false)) rfl ?_)
 refine XL.nil ?_
 refine X.seq ?_
 refine X.seq ?_
 refine X.region ?_
 refine XL.cons (XOp.loadN [arv, rsv] Try.isAgg33 Try.sizeOf33 rfl rfl (Rd.ownN [] rfl rfl) ?_)
 refine XL.cons (XOp.move (tv) rfl ?_)
 refine XL.cons (XOp.move (.int .i64 (n)) rfl ?_)
 refine XL.cons (XOp.call (args := [.agg #[arv, rsv], tv, .int .i64 (n)]) Try.call48 rfl (l9Right_spec (n := n) har hrs ht (hla := (by first | assumption | rfl | omega | (left; simp; done) | (right; simp; done))) (hlr := (by first | assumption | rfl | omega | (left; simp; done) | (right; simp; done))) (hrb := (by first | assumption | rfl | omega | (left; simp; done) | (right; simp; done))) (hlt := (by first | assumption | rfl | omega | (left; simp; done) | (right; simp; done)))) ?_)
 rintro _ _ _ _ ⟨rfl, rfl, rfl⟩
 refine XL.cons (XOp.notB (b := reachOkL ar rs n [t]) rfl ?_)
 refine XL.nil ?_
 refine X.cond (t := !(reachOkL ar rs n [t])) rfl (fun h1 => ?_) (fun h1 => ?_)
 ·have hro : reachOkL ar rs n [t] = false := by simpa using h1
  refine X.seq ?_
  refine X.region ?_
  refine XL.cons (XOp.buildSlice (s := 1) [] [(.slice none 0 0)] [] Try.runUnderlying49 Try.sizeOf22 Try.zeroValue22 rfl (by decide) rfl CellsAre.nil rfl ?_)
  intro v1 hv1
  refine XL.cons (XOp.assign (v1) rfl ?_)
  refine XL.cons (XOp.assign (.bool (false)) rfl ?_)
  refine XL.nil ?_
  have hc1 : RowsC F [] ([] : List (List Int)) := (CO.nil : RowsC F [] [])
  refine X.freezeF [] _ _ rfl (fun F1 le1 hz1 => ?_)
  replace har := har.mono le1
  replace hrs := hrs.mono le1
  replace ht := ht.mono le1
  replace hc1 := hc1.mono le1
  have hf1 : RowsF F1 v1 (([] : List (List Int))) := CO.fz hc1 (by first | rfl | simp | omega) hz1.fz
  refine X.ret (thenQ_ret (retEnd (L' := L) [v1, .bool (false)] (.tuple #[v1, .bool (false)]) (.tmp rfl (.tmp rfl .nil)) rfl le1 (FLe.refl _) (Sub.drop (Sub.refl _)) ?_))
  rw [reachF_no hro]
  exact ⟨_, rfl, hf1, rfl⟩
 ·have hro : reachOkL ar rs n [t] = true := by simpa using h1
  have hr3 := reachOk_iff.1 hro
  have hsys := hr3.1.1
  have ho := hr3.1.2
  have hro2 := reachL_ok (n := n) hsys ho
  have hro3 := hro2.1
  have htl5 : (terms (reachL ar rs t n).1).length ≤ 60 := by rw [terms_len]; exact hro3
  have htb5 : ∀ i, i < (terms (reachL ar rs t n).1).length → ((terms (reachL ar rs t n).1).getD i []).length ≤ 4000000 := fun i hi => by rw [terms_get]; rw [terms_len] at hi; have := termOk_len (hro2.2 i hi); omega
  refine X.skip ?_
  refine X.seq ?_
  refine X.region ?_
  refine XL.cons (XOp.loadN [arv, rsv] Try.isAgg33 Try.sizeOf33 rfl rfl (Rd.ownN [] rfl rfl) ?_)
  refine XL.cons (XOp.move (tv) rfl ?_)
  refine XL.cons (XOp.move (.int .i64 (n)) rfl ?_)
  refine XL.cons (XOp.call (args := [.agg #[arv, rsv], tv, .int .i64 (n)]) Try.call64 rfl (l9Find_spec (n := n) har hrs ht (hsys := (by first | assumption | rfl | omega | (left; simp; done) | (right; simp; done))) (ho := (by first | assumption | rfl | omega | (left; simp; done) | (right; simp; done))) (hn20 := (by first | assumption | rfl | omega | (left; simp; done) | (right; simp; done)))) ?_)
  rintro _ F2 _ le2 ⟨x1, x2, x3, x4, rfl, hr1, hr2, hr3, hr4, rfl⟩
  replace har := har.mono le2
  replace hrs := hrs.mono le2
  replace ht := ht.mono le2
  refine XL.cons (XOp.alloc [(.slice none 0 0), (.slice none 0 0), (.slice none 0 0), (.slice none 0 0), .bool (false)] Try.zeroValue85 rfl ?_)
  intro b2
  refine XL.cons (XOp.storeN (vs := [x1, x2, x3, x4, .bool ((reachL ar rs t n).2)]) [] _ [x1, x2, x3, x4, .bool ((reachL ar rs t n).2)] Try.sizeOf85 rfl rfl rfl (ones_cons (one_sl (RowsF.isSl hr1)) (ones_cons (one_sl (IntsF.isSl hr2)) (ones_cons (one_sl (StepsF.isSl hr3)) (ones_cons (one_sl (IntsF.isSl hr4)) (ones_cons rfl ones_nil))))) rfl rfl rfl ?_)
  refine XL.nil ?_
  refine X.seq ?_
  refine X.drawG [cellsH b2 [x1, x2, x3, x4, .bool ((reachL ar rs t n).2)] 85, cellsH b1 [arv, rsv] 33] L 6 [[], [], [], [], [], [2]] [[], [0], [1], [], [3], [2]] [[], [], [], [], [], []] (phiG [fun FF us v => v = ptr b2 0, fun FF us v => v = x1, fun FF us v => ((v) : Value) = v ∧ (RowsF FF (v) (terms (reachL ar rs t n).1)), fun FF us v => v = ptr b2 4, fun FF us v => v = (.bool ((reachL ar rs t n).2) : Value), fun FF us v => v = ((us.getD 0 undef))]) (ownL [fun us v => [], fun us v => [], fun us v => [], fun us v => [], fun us v => [], fun us v => []]) mixed rfl rfl (by kernel_rfl) (by kernel_rfl) (MonoG.get (MonoG.cons (fun le h => h) (MonoG.cons (fun le h => h) (MonoG.cons (fun le h => ⟨h.1, h.2.mono le⟩) (MonoG.cons (fun le h => h) (MonoG.cons (fun le h => h) (MonoG.cons (fun le h => h) MonoG.nil))))))) ?_ ?_
  ·refine stepsG.cons (fun vals Fs R leFs hpZ => ?_) ?_
   ·refine XG.op (XOp.fieldP (b := b2) (0) Try.runUnderlying85 rfl Try.sizeOf49 (by decide) rfl rfl ?_)
    exact ⟨rfl, rfl⟩
   refine stepsG.cons (fun vals Fs R leFs hpZ => ?_) ?_
   ·have e0 : vals 0 = ptr b2 0 := hpZ 0 (by decide)
    replace har := har.mono leFs
    replace hrs := hrs.mono leFs
    replace ht := ht.mono leFs
    replace hr1 := hr1.mono leFs
    replace hr2 := hr2.mono leFs
    replace hr3 := hr3.mono leFs
    replace hr4 := hr4.mono leFs
    rw [(envs_of_sat (l := [(0, ptr b2 0)]) ⟨e0, trivial⟩).symm]
    refine XG.op (XOp.load1 (v := x1) Try.isAgg49 rfl (Rd.own [] rfl rfl) ?_)
    exact ⟨rfl, rfl⟩
   refine stepsG.cons (fun vals Fs R leFs hpZ => ?_) ?_
   ·have e1 : vals 1 = x1 := hpZ 1 (by decide)
    replace har := har.mono leFs
    replace hrs := hrs.mono leFs
    replace ht := ht.mono leFs
    replace hr1 := hr1.mono leFs
    replace hr2 := hr2.mono leFs
    replace hr3 := hr3.mono leFs
    replace hr4 := hr4.mono leFs
    rw [(envs_of_sat (l := [(1, x1)]) ⟨e1, trivial⟩).symm]
    refine XG.op (XOp.call (args := [x1]) Try.call78 rfl (l1CopyTerms_spec hr1 (hlt := (by omega)) (htb := (htb5))) ?_)
    rintro _ F4 _ le4 ⟨x6, rfl, hr6, rfl⟩
    replace har := har.mono le4
    replace hrs := hrs.mono le4
    replace ht := ht.mono le4
    replace hr1 := hr1.mono le4
    replace hr2 := hr2.mono le4
    replace hr3 := hr3.mono le4
    replace hr4 := hr4.mono le4
    exact ⟨⟨rfl, hr6⟩, rfl⟩
   refine stepsG.cons (fun vals Fs R leFs hpZ => ?_) ?_
   ·refine XG.op (XOp.fieldP (b := b2) (4) Try.runUnderlying85 rfl Try.sizeOf4 (by decide) rfl rfl ?_)
    exact ⟨rfl, rfl⟩
   refine stepsG.cons (fun vals Fs R leFs hpZ => ?_) ?_
   ·have e3 : vals 3 = ptr b2 4 := hpZ 3 (by decide)
    replace har := har.mono leFs
    replace hrs := hrs.mono leFs
    replace ht := ht.mono leFs
    replace hr1 := hr1.mono leFs
    replace hr2 := hr2.mono leFs
    replace hr3 := hr3.mono leFs
    replace hr4 := hr4.mono leFs
    rw [(envs_of_sat (l := [(3, ptr b2 4)]) ⟨e3, trivial⟩).symm]
    refine XG.op (XOp.load1 (v := .bool ((reachL ar rs t n).2)) Try.isAgg4 rfl (Rd.own [] rfl rfl) ?_)
    exact ⟨rfl, rfl⟩
   refine stepsG.cons (fun vals Fs R leFs hpZ => ?_) ?_
   ·obtain ⟨e2, f2_1hr⟩ := hpZ 2 (by decide)
    rw [(envs_of_sat (l := [(2, ((vals 2)))]) ⟨(e2).symm, trivial⟩).symm]
    refine XG.op (XOp.assign (((vals 2))) rfl ?_)
    exact ⟨rfl, rfl⟩
   exact stepsG.nil
  ·intro vals F5 le5 hphi
   have e0 : vals 0 = ptr b2 0 := hphi 0 (by decide)
   have e1 : vals 1 = x1 := hphi 1 (by decide)
   obtain ⟨e2, f2_1hr⟩ := hphi 2 (by decide)
   have e3 : vals 3 = ptr b2 4 := hphi 3 (by decide)
   have e4 : vals 4 = (.bool ((reachL ar rs t n).2) : Value) := hphi 4 (by decide)
   have e5 : vals 5 = ((vals 2)) := hphi 5 (by decide)
   generalize hu1 : ((vals 2)) = u1 at e0 e1 e2 f2_1hr e3 e4 e5
   rw [(envs_of_sat (l := [(0, ptr b2 0), (1, x1), (2, u1), (3, ptr b2 4), (4, (.bool ((reachL ar rs t n).2) : Value)), (5, u1)]) ⟨e0, e1, hu1, e3, e4, e5, trivial⟩).symm]
   replace har := har.mono le5
   replace hrs := hrs.mono le5
   replace ht := ht.mono le5
   replace hr1 := hr1.mono le5
   replace hr2 := hr2.mono le5
   replace hr3 := hr3.mono le5
   replace hr4 := hr4.mono le5
   show XL _ _ _ _ _ _ _ (cellsH b2 [x1, x2, x3, x4, .bool ((reachL ar rs t n).2)] 85 :: cellsH b1 [arv, rsv] 33 :: L)
   refine XL.cons (XOp.assign (.bool ((reachL ar rs t n).2)) rfl ?_)
   refine XL.nil ?_
   refine X.ret (retEnd (L' := L) [u1, .bool ((reachL ar rs t n).2)] (.tuple #[u1, .bool ((reachL ar rs t n).2)]) (.tmp rfl (.tmp rfl .nil)) rfl (FLe.trans le2 le5) (FLe.refl _) (Sub.drop (Sub.drop (Sub.refl _))) ?_)
   rw [reachF_yes hro]
   exact ⟨_, rfl, f2_1hr, rfl⟩
end Go.Proofs.Ytiaanelimbmniaa
set_option linter.unusedSimpArgs false
set_option linter.unusedVariables false
namespace Go.Proofs.Ytiaanelimbmniaa
open Go X M

/- spec.l9Walk -/
theorem l9Walk_spec {F : FH} {L : List HP} {x1v x2v x3v x4v : Value} {al : List FoundT} {ab : Bool} (hx1 : RowsF F x1v (terms al)) (hx2 : IntsF F x2v (froms al)) (hx3 : StepsF F x3v (bys al)) (hx4 : IntsF F x4v (deeps al)) {k : Nat} (hk : k < al.length) (hll : al.length ≤ 60) (hlk : Link al) (hbd : ∀ i, i < al.length → (EL al i).1.length ≤ 60) :
    Does Try.prog 69 [.agg #[x1v, x2v, x3v, x4v, .bool (ab)], .int .i64 (((k : Nat) : Int))] F (L) (fun v F' L' => ∃ (a : Value), ∃ (b : Value), (.agg #[a, b] : Value) = v ∧ (IntsF F' a (EL al 0).1) ∧ (StepsF F' b (walkL al k)) ∧ (Fresh F F' (star [intsH 2 a (EL al 0).1, stepsD 2 77 b (walkL al k)])) ∧ L = L') := by
 refine Does.of_X Try.func69 rfl rfl rfl ?_
 have htl9 : (terms al).length = al.length := terms_len
 have hfl9 : (froms al).length = al.length := froms_len
 have hbl9 : (bys al).length = al.length := bys_len
 have ht0 : ((terms al).getD 0 []).length ≤ 60 := by rw [terms_get]; exact hbd 0 (by omega)
 refine X.seq ?_
 refine X.region ?_
 refine XL.cons (XOp.box [x1v, x2v, x3v, x4v, .bool (ab)] rfl rfl ?_)
 intro b1
 refine XL.cons (XOp.alloc [(.slice none 0 0), (.slice none 0 0)] Try.zeroValue41 rfl ?_)
 intro b2
 refine XL.nil ?_
 refine X.seq ?_
 refine X.region ?_
 refine XL.cons (XOp.buildSlice (s := 3) [] [.int .i64 (0), .int .i64 (0), (.slice none 0 0)] [] Try.runUnderlying39 Try.sizeOf77 Try.zeroValue77 rfl (by decide) rfl CellsAre.nil rfl ?_)
 intro v1 hv1
 refine XL.cons (XOp.assign (v1) rfl ?_)
 refine XL.nil ?_
 refine X.seq ?_
 refine X.block ?_
 refine X.loop (α := Nat × Value × List StepT × List Value × Nat) (fun xQ => [(1, .int .i64 (((xQ.1 : Nat) : Int))), (2, ptr b1 0), (4, ptr b2 0), (5, xQ.2.1)]) (fun xQ => slH 77 3 xQ.2.1 xQ.2.2.2.2 xQ.2.2.2.1 :: cellsH b2 [(.slice none 0 0), (.slice none 0 0)] 41 :: cellsH b1 [x1v, x2v, x3v, x4v, .bool (ab)] 85 :: L) (fun xQ F' => F = F' ∧ (xQ.1 < al.length) ∧ (IsSl xQ.2.1) ∧ (StepsC F xQ.2.2.2.1 xQ.2.2.1) ∧ (xQ.2.2.2.2 = xQ.2.2.1.length) ∧ (xQ.2.2.2.2 + xQ.1 ≤ k) ∧ (backL al k = xQ.2.2.1 ++ backL al xQ.1)) (fun xQ => xQ.1) (k, v1, [], [], 0) ⟨rfl, rfl, rfl, rfl, trivial⟩ (Sub.cons (Sub.cons (Sub.cons (Sub.refl _)))) ⟨rfl, (hk), ((isSl_lit hv1)), (CO.nil), (rfl), (by (try dsimp only) <;> omega), (rfl)⟩ ?_
 rintro ⟨j, bv, bs, bcs, bm⟩ rE _ _ ⟨rfl, hj, hbv, hB, hbm, hmj, hbk⟩
 show X _ _ _ _ (envs [(1, .int .i64 (((j : Nat) : Int))), (2, ptr b1 0), (4, ptr b2 0), (5, bv)] rE) _ (slH 77 3 bv bm bcs :: cellsH b2 [(.slice none 0 0), (.slice none 0 0)] 41 :: cellsH b1 [x1v, x2v, x3v, x4v, .bool (ab)] 85 :: L)
 dsimp only at hj hbv hB hbm hmj hbk
 have hlj := fun (h : 0 < j) => hlk.2 j h hj
 have hfj : ((froms al).getD j 0) = (EL al j).2.1 := froms_get hj
 have hljx : 0 < j → 0 ≤ ((froms al).getD j 0) ∧ ((froms al).getD j 0) < (j : Int) := fun h => ⟨by rw [hfj]; exact (hlj h).1, by rw [hfj]; exact (hlj h).2.1⟩
 have hlj0 : j = 0 → ((froms al).getD j 0) = -1 := fun h => by rw [hfj, h]; exact hlk.1.2.1
 refine X.seq ?_
 refine X.seq ?_
 refine X.region ?_
 refine XL.cons (XOp.fieldP (b := b1) (1) Try.runUnderlying85 rfl Try.sizeOf22 (by decide) rfl rfl ?_)
 refine XL.cons (XOp.load1 (v := x2v) Try.isAgg22 rfl (Rd.own [_, _] rfl rfl) ?_)
 refine XL.cons (XOp.move (.int .i64 (((j : Nat) : Int))) rfl ?_)
 refine XL.cons (XOp.indexS (v := x2v) (i := ((j : Nat) : Int)) (n := (froms al).length) j Try.runUnderlying22 Try.sizeOf2 rfl rfl rfl hx2.slv (by omega) (Nat.mul_one _) ?_)
 refine XL.cons (XOp.load1 (v := .int .i64 ((froms al).getD j 0)) Try.isAgg2 rfl (hx2.rd (by omega)) ?_)
 refine XL.cons (XOp.geq (a := (froms al).getD j 0) (b := 0) rfl rfl ?_)
 refine XL.nil ?_
 refine X.condD (p := ((froms al).getD j 0 : Int) ≥ 0) rfl (fun h1 => ?_) (fun h1 => ?_)
 ·refine X.skip ?_
  refine X.block ?_
  refine X.seq ?_
  refine X.region ?_
  refine XL.cons (XOp.move (bv) rfl ?_)
  refine XL.cons (XOp.fieldP (b := b1) (2) Try.runUnderlying85 rfl Try.sizeOf39 (by decide) rfl rfl ?_)
  refine XL.cons (XOp.load1 (v := x3v) Try.isAgg39 rfl (Rd.own [_, _] rfl rfl) ?_)
  refine XL.cons (XOp.move (.int .i64 (((j : Nat) : Int))) rfl ?_)
  refine XL.cons (XOp.indexS (v := x3v) (i := ((j : Nat) : Int)) (n := (bys al).length) j Try.runUnderlying39 Try.sizeOf77 rfl rfl rfl hx3.slv (by omega) rfl ?_)
  obtain ⟨a1, ha1, hr1, hr2, hr3⟩ := hx3.rd (i := j) (by omega)
  refine XL.cons (XOp.loadN [.int .i64 (((bys al).getD j (0, 0, [])).1), .int .i64 (((bys al).getD j (0, 0, [])).2.1), a1] Try.isAgg77 Try.sizeOf77 rfl rfl (Rd.three (hr1 _) (hr2 _) (hr3 _)) ?_)
  refine XL.cons (XOp.buildSlice (s := 3) [.int .i64 (((bys al).getD j (0, 0, [])).1), .int .i64 (((bys al).getD j (0, 0, [])).2.1), a1] [.int .i64 (0), .int .i64 (0), (.slice none 0 0)] [(0, [.int .i64 (((bys al).getD j (0, 0, [])).1), .int .i64 (((bys al).getD j (0, 0, [])).2.1), a1])] Try.runUnderlying39 Try.sizeOf77 Try.zeroValue77 rfl (by decide) rfl (.cons rfl CellsAre.nil) rfl ?_)
  intro v2 hv2
  refine XL.cons (XOp.append (m := 1) (bytes := 40) (cs := bcs) [_] _ [.int .i64 (((bys al).getD j (0, 0, [])).1), .int .i64 (((bys al).getD j (0, 0, [])).2.1), a1] Try.runUnderlying39 Try.typeInfo77 rfl rfl rfl rfl rfl rfl rfl (SlV.own [] rfl) rfl (Rd.lit [] rfl) (ones_cons rfl (ones_cons rfl (ones_cons (one_sl (IntsF.isSl ha1)) ones_nil))) (by (try simp only [List.length_append, List.length_nil, List.length_cons, List.length_singleton]); omega) (by (try simp only [List.length_append, List.length_nil, List.length_cons, List.length_singleton]); omega) ?_)
  intro v3 hs1 hn1 hm1
  have hc1 := StepsC.snoc hB (i := ((bys al).getD j (0, 0, [])).1) (j := ((bys al).getD j (0, 0, [])).2.1) ha1
  refine XL.cons (XOp.assign (v3) rfl ?_)
  refine XL.nil ?_
  refine X.region ?_
  refine XL.cons (XOp.fieldP (b := b1) (1) Try.runUnderlying85 rfl Try.sizeOf22 (by decide) rfl rfl ?_)
  refine XL.cons (XOp.load1 (v := x2v) Try.isAgg22 rfl (Rd.own [_, _, _] rfl rfl) ?_)
  refine XL.cons (XOp.move (.int .i64 (((j : Nat) : Int))) rfl ?_)
  refine XL.cons (XOp.indexS (v := x2v) (i := ((j : Nat) : Int)) (n := (froms al).length) j Try.runUnderlying22 Try.sizeOf2 rfl rfl rfl hx2.slv (by omega) (Nat.mul_one _) ?_)
  refine XL.cons (XOp.load1 (v := .int .i64 ((froms al).getD j 0)) Try.isAgg2 rfl (hx2.rd (by omega)) ?_)
  refine XL.cons (XOp.assign (.int .i64 ((froms al).getD j 0)) rfl ?_)
  refine XL.nil ?_
  exact ⟨(((froms al).getD j 0).toNat, v3, bs ++ [(((bys al).getD j (0, 0, [])).1, ((bys al).getD j (0, 0, [])).2.1, ((bys al).getD j (0, 0, [])).2.2)], bcs ++ [.int .i64 (((bys al).getD j (0, 0, [])).1), .int .i64 (((bys al).getD j (0, 0, [])).2.1), a1], (bm) + 1), _, FLe.refl _, (FLe.refl _), ⟨(congrArg (Value.int .i64) (by have := hljx (by omega); (try dsimp only); omega)), rfl, rfl, rfl, trivial⟩, (Sub.drop (Sub.cons (Sub.cons (Sub.cons (Sub.refl _))))), ⟨rfl, (by have := hljx (by omega); (try dsimp only); omega), (hs1), (hc1), (by (try dsimp only); rw [List.length_append, List.length_singleton]; omega), (by have := hljx (by omega); (try dsimp only); omega), (by (try dsimp only); rw [hbk, backL_succ hlk (by omega) hj, List.append_assoc, bys_get hj, hfj]; rfl)⟩, (by have := hljx (by omega); (try dsimp only); omega)⟩
 ·refine X.exit (thenQ_exit (thenQ_exit (blockQ_exit ?_)))
  refine X.seq ?_
  refine X.region ?_
  refine XL.cons (XOp.fieldP (b := b1) (0) Try.runUnderlying85 rfl Try.sizeOf49 (by decide) rfl rfl ?_)
  refine XL.cons (XOp.load1 (v := x1v) Try.isAgg49 rfl (Rd.own [_, _] rfl rfl) ?_)
  refine XL.cons (XOp.indexS (v := x1v) (i := 0) (n := (terms al).length) 0 Try.runUnderlying49 Try.sizeOf22 rfl rfl rfl hx1.slv (by omega) (Nat.mul_one _) ?_)
  obtain ⟨a2, ha2, hr4⟩ := hx1.rd (i := 0) (by omega)
  refine XL.cons (XOp.load1 (v := a2) Try.isAgg22 rfl (hr4 _) ?_)
  refine XL.cons (XOp.frzF <| XOp.call (args := [a2]) Try.call49 rfl (l1Copy_spec ha2 (hlt := (by first | omega | (rw [hi9 (by omega)]; have := htbi (by omega); omega)))) ?_)
  rintro v4 _ _ _ ⟨rfl, hs2, rfl⟩
  refine ⟨_, _, rfl, fun F1 le1 hz1 => ?_⟩
  replace hx1 := hx1.mono le1
  replace hx2 := hx2.mono le1
  replace hx3 := hx3.mono le1
  replace hx4 := hx4.mono le1
  replace hB := hB.mono le1
  replace ha2 := ha2.mono le1
  replace hr4 := Rd.monoA hr4 le1
  have hf1 : IntsF F1 v4 (((((terms al).getD 0 [])))) := intsH.fz (xs := ((((terms al).getD 0 [])))) hz1.fz
  refine XL.cons (XOp.build [v4, (.slice none 0 0)] [(.slice none 0 0), (.slice none 0 0)] [(0, 1), (1, 1)] [(0, [v4])] Try.runUnderlying41 Try.zeroValue41 rfl (.cons rfl Try.sizeOf22 (.cons rfl Try.sizeOf39 PlacesAre.nil)) rfl (.cons (cells_one (IntsF.isSl hf1)) CellsAre.nil) ?_)
  refine XL.cons (XOp.alloc [(.slice none 0 0), (.slice none 0 0)] Try.zeroValue41 rfl ?_)
  intro b3
  refine XL.cons (XOp.storeN (vs := [v4, (.slice none 0 0)]) [] _ [v4, (.slice none 0 0)] Try.sizeOf41 rfl rfl rfl (ones_cons (one_sl (IntsF.isSl hf1)) (ones_cons rfl ones_nil)) rfl rfl rfl ?_)
  refine XL.nil ?_
  refine X.seq ?_
  refine X.seq ?_
  refine X.region ?_
  have hj0 : j = 0 := by omega
  have hssb : bs = backL al k := by rw [hbk, hj0, backL_zero, List.append_nil]
  have htb : ∀ i, i < bs.length → (bs.getD i (0, 0, [])).2.2.length ≤ 60 := fun i hi => by
   obtain ⟨q, hq, he⟩ := backL_mem hlk k k (Nat.le_refl _) hk (bs.getD i (0, 0, [])) (by rw [← hssb]; simp [List.getD, hi])
   rw [he]; exact hbd q hq
  have hbl : bs.length ≤ 60 := by omega
  refine XL.cons (XOp.move (bv) rfl ?_)
  refine XL.cons (XOp.lenS (v := bv) (n := bm) Try.runUnderlying39 rfl (SlV.own [_] rfl) ?_)
  refine XL.cons (XOp.subR (a := ((bm : Nat) : Int)) (b := 1) ((((bm : Nat) : Int)) - 1) rfl rfl (by omega) (by omega) ?_)
  refine XL.cons (XOp.assign (.int .i64 ((((bm : Nat) : Int)) - 1)) rfl ?_)
  refine XL.nil ?_
  refine X.block ?_
  refine X.loop (α := Nat × Value × List StepT × List Value × List HP × Nat × FH) (fun xQ => [(4, ptr b2 0), (5, bv), (6, ptr b3 0), (7, .int .i64 ((xQ.1 : Int) - 1))]) (fun xQ => slH 77 3 xQ.2.1 xQ.2.2.2.2.2.1 xQ.2.2.2.1 :: cellsH b3 [v4, xQ.2.1] 41 :: slH 77 3 bv bm bcs :: cellsH b2 [(.slice none 0 0), (.slice none 0 0)] 41 :: cellsH b1 [x1v, x2v, x3v, x4v, .bool (ab)] 85 :: L) (fun xQ F' => xQ.2.2.2.2.2.2 = F' ∧ F1 ≤ xQ.2.2.2.2.2.2 ∧ (xQ.1 ≤ bs.length) ∧ (IsSl xQ.2.1) ∧ (StepsC xQ.2.2.2.2.2.2 xQ.2.2.2.1 xQ.2.2.1) ∧ (xQ.2.2.2.2.2.1 = xQ.2.2.1.length) ∧ (DeepL 3 (StepO 2) xQ.2.2.2.1 xQ.2.2.1 xQ.2.2.2.2.1) ∧ (Fresh F1 xQ.2.2.2.2.2.2 (star xQ.2.2.2.2.1)) ∧ (xQ.2.2.1 = (bs.drop xQ.1).reverse) ∧ (xQ.2.2.2.2.2.1 + xQ.1 = bs.length)) (fun xQ => xQ.1) (bs.length, (.slice none 0 0), [], [], [], 0, F1) ⟨rfl, rfl, rfl, (congrArg (Value.int .i64) (by (try dsimp only); omega)), trivial⟩ (Sub.trans (Sub.addNil 77 3 _ _) (Sub.cons (Sub.cons (Sub.cons (Sub.cons (Sub.cons (Sub.refl _))))))) ⟨rfl, FLe.refl _, (by (try dsimp only) <;> omega), (⟨_, _, _, rfl⟩), (CO.nil), (rfl), (DeepL.nil), (Fresh.nilL), (by (try dsimp only); simp), (by (try dsimp only); omega)⟩ ?_
  rintro ⟨i, sv, ss, cs, Ls, m, G1⟩ rE _ _ ⟨rfl, leG, hi, hsv, hC, hm, hD, hZ, hss, hmi⟩
  show X _ _ _ _ (envs [(4, ptr b2 0), (5, bv), (6, ptr b3 0), (7, .int .i64 ((i : Int) - 1))] rE) _ (slH 77 3 sv m cs :: cellsH b3 [v4, sv] 41 :: slH 77 3 bv bm bcs :: cellsH b2 [(.slice none 0 0), (.slice none 0 0)] 41 :: cellsH b1 [x1v, x2v, x3v, x4v, .bool (ab)] 85 :: L)
  replace leG : F1 ≤ G1 := leG
  dsimp only at hi hsv hC hm hD hZ hss hmi
  have htbi := htb (i - 1)
  have hi9 : 0 < i → ((i : Int) - 1).toNat = i - 1 := fun h => by omega
  have hdr9 := fun (h : 0 < i) => drop_rev ((0, 0, []) : StepT) (l := bs) (k := i - 1) (by omega)
  have leG1 := leG
  replace hx1 := hx1.mono leG1
  replace hx2 := hx2.mono leG1
  replace hx3 := hx3.mono leG1
  replace hx4 := hx4.mono leG1
  replace hB := hB.mono leG1
  replace ha2 := ha2.mono leG1
  replace hf1 := hf1.mono leG1
  refine X.seq ?_
  refine X.seq ?_
  refine X.region ?_
  refine XL.cons (XOp.move (.int .i64 ((i : Int) - 1)) rfl ?_)
  refine XL.cons (XOp.geq (a := (i : Int) - 1) (b := 0) rfl rfl ?_)
  refine XL.nil ?_
  refine X.condD (p := ((i : Int) - 1 : Int) ≥ 0) rfl (fun h2 => ?_) (fun h2 => ?_)
  ·refine X.skip ?_
   refine X.seq ?_
   refine X.block ?_
   obtain ⟨a3, ha3, he1, he2, he3⟩ := hB.get (i := ((i : Int) - 1).toNat) (by omega)
   refine X.drawG [slH 77 3 sv m cs, cellsH b3 [v4, sv] 41, slH 77 3 bv bm bcs, cellsH b2 [(.slice none 0 0), (.slice none 0 0)] 41, cellsH b1 [x1v, x2v, x3v, x4v, .bool (ab)] 85] L 20 [[], [], [], [], [], [], [], [], [], [], [], [], [], [], [], [], [], [], [17], [17]] [[], [0], [], [], [2, 3], [4], [5], [], [], [7, 8], [9], [10], [], [], [12, 13], [14], [15], [16], [6, 11, 17], [17, 18]] [[], [], [], [], [], [], [], [], [], [], [], [], [], [], [], [], [], [], [], []] (phiG [fun FF us v => v = ptr b3 1, fun FF us v => v = sv, fun FF us v => v = bv, fun FF us v => v = (.int .i64 ((i : Int) - 1) : Value), fun FF us v => v = (.pointer (some (elemA bv ((((i : Int) - 1).toNat) * 3))) : Value), fun FF us v => v = (.pointer (some (elemA bv ((((i : Int) - 1).toNat) * 3))) : Value), fun FF us v => v = (.int .i64 ((bs.getD (((i : Int) - 1).toNat) (0, 0, [])).1) : Value), fun FF us v => v = bv, fun FF us v => v = (.int .i64 ((i : Int) - 1) : Value), fun FF us v => v = (.pointer (some (elemA bv ((((i : Int) - 1).toNat) * 3))) : Value), fun FF us v => v = (.pointer (some (elemA bv ((((i : Int) - 1).toNat) * 3 + 1))) : Value), fun FF us v => v = (.int .i64 ((bs.getD (((i : Int) - 1).toNat) (0, 0, [])).2.1) : Value), fun FF us v => v = bv, fun FF us v => v = (.int .i64 ((i : Int) - 1) : Value), fun FF us v => v = (.pointer (some (elemA bv ((((i : Int) - 1).toNat) * 3))) : Value), fun FF us v => v = (.pointer (some (elemA bv ((((i : Int) - 1).toNat) * 3 + 2))) : Value), fun FF us v => v = a3, fun FF us v => ((v) : Value) = v ∧ (IntsF FF (v) (((bs.getD (((i : Int) - 1).toNat) (0, 0, [])).2.2))) ∧ (FrIntsF G1 FF 2 (v) (((bs.getD (((i : Int) - 1).toNat) (0, 0, [])).2.2))), fun FF us v => v = (.agg #[.int .i64 ((bs.getD (((i : Int) - 1).toNat) (0, 0, [])).1), .int .i64 ((bs.getD (((i : Int) - 1).toNat) (0, 0, [])).2.1), ((us.getD 0 undef))] : Value), fun FF us v => ∃ b, v = .slice (some ⟨b, 0, none⟩) 1 1]) (ownL [fun us v => [], fun us v => [], fun us v => [], fun us v => [], fun us v => [], fun us v => [], fun us v => [], fun us v => [], fun us v => [], fun us v => [], fun us v => [], fun us v => [], fun us v => [], fun us v => [], fun us v => [], fun us v => [], fun us v => [], fun us v => [], fun us v => [], fun us v => [slH 77 3 v 1 [.int .i64 ((bs.getD (((i : Int) - 1).toNat) (0, 0, [])).1), .int .i64 ((bs.getD (((i : Int) - 1).toNat) (0, 0, [])).2.1), ((us.getD 0 undef))]]]) mixed rfl rfl (by kernel_rfl) (by kernel_rfl) (MonoG.get (MonoG.cons (fun le h => h) (MonoG.cons (fun le h => h) (MonoG.cons (fun le h => h) (MonoG.cons (fun le h => h) (MonoG.cons (fun le h => h) (MonoG.cons (fun le h => h) (MonoG.cons (fun le h => h) (MonoG.cons (fun le h => h) (MonoG.cons (fun le h => h) (MonoG.cons (fun le h => h) (MonoG.cons (fun le h => h) (MonoG.cons (fun le h => h) (MonoG.cons (fun le h => h) (MonoG.cons (fun le h => h) (MonoG.cons (fun le h => h) (MonoG.cons (fun le h => h) (MonoG.cons (fun le h => h) (MonoG.cons (fun le h => ⟨h.1, h.2.1.mono le, h.2.2.mono le⟩) (MonoG.cons (fun le h => h) (MonoG.cons (fun le h => h) MonoG.nil))))))))))))))))))))) ?_ ?_
   ·refine stepsG.cons (fun vals Fs R leFs hpZ => ?_) ?_
    ·refine XG.op (XOp.fieldP (b := b3) (1) Try.runUnderlying41 rfl Try.sizeOf39 (by decide) rfl rfl ?_)
     exact ⟨rfl, rfl⟩
    refine stepsG.cons (fun vals Fs R leFs hpZ => ?_) ?_
    ·have e0 : vals 0 = ptr b3 1 := hpZ 0 (by decide)
     replace hx1 := hx1.mono leFs
     replace hx2 := hx2.mono leFs
     replace hx3 := hx3.mono leFs
     replace hx4 := hx4.mono leFs
     replace hB := hB.mono leFs
     replace ha2 := ha2.mono leFs
     replace hf1 := hf1.mono leFs
     replace hC := hC.mono leFs
     replace ha3 := ha3.mono leFs
     rw [(envs_of_sat (l := [(0, ptr b3 1)]) ⟨e0, trivial⟩).symm]
     refine XG.op (XOp.load1 (v := sv) Try.isAgg39 rfl (Rd.own [_] rfl rfl) ?_)
     exact ⟨rfl, rfl⟩
    refine stepsG.cons (fun vals Fs R leFs hpZ => ?_) ?_
    ·refine XG.op (XOp.move (bv) rfl ?_)
     exact ⟨rfl, rfl⟩
    refine stepsG.cons (fun vals Fs R leFs hpZ => ?_) ?_
    ·refine XG.op (XOp.move (.int .i64 ((i : Int) - 1)) rfl ?_)
     exact ⟨rfl, rfl⟩
    refine stepsG.cons (fun vals Fs R leFs hpZ => ?_) ?_
    ·have e2 : vals 2 = bv := hpZ 2 (by decide)
     have e3 : vals 3 = (.int .i64 ((i : Int) - 1) : Value) := hpZ 3 (by decide)
     replace hx1 := hx1.mono leFs
     replace hx2 := hx2.mono leFs
     replace hx3 := hx3.mono leFs
     replace hx4 := hx4.mono leFs
     replace hB := hB.mono leFs
     replace ha2 := ha2.mono leFs
     replace hf1 := hf1.mono leFs
     replace hC := hC.mono leFs
     replace ha3 := ha3.mono leFs
     rw [(envs_of_sat (l := [(2, bv), (3, (.int .i64 ((i : Int) - 1) : Value))]) ⟨e2, e3, trivial⟩).symm]
     refine XG.op (XOp.indexS (v := bv) (i := (i : Int) - 1) (n := bm) (((i : Int) - 1).toNat) Try.runUnderlying39 Try.sizeOf77 rfl rfl (by omega) (SlV.own [_, _] rfl) (by omega) rfl ?_)
     exact ⟨rfl, rfl⟩
    refine stepsG.cons (fun vals Fs R leFs hpZ => ?_) ?_
    ·have e4 : vals 4 = (.pointer (some (elemA bv ((((i : Int) - 1).toNat) * 3))) : Value) := hpZ 4 (by decide)
     rw [(envs_of_sat (l := [(4, (.pointer (some (elemA bv ((((i : Int) - 1).toNat) * 3))) : Value))]) ⟨e4, trivial⟩).symm]
     refine XG.op (XOp.fieldE (v := bv) ((((i : Int) - 1).toNat) * 3) Try.runUnderlying77 rfl Try.sizeOf2 (by decide) rfl rfl ?_)
     exact ⟨rfl, rfl⟩
    refine stepsG.cons (fun vals Fs R leFs hpZ => ?_) ?_
    ·have e5 : vals 5 = (.pointer (some (elemA bv ((((i : Int) - 1).toNat) * 3))) : Value) := hpZ 5 (by decide)
     replace hx1 := hx1.mono leFs
     replace hx2 := hx2.mono leFs
     replace hx3 := hx3.mono leFs
     replace hx4 := hx4.mono leFs
     replace hB := hB.mono leFs
     replace ha2 := ha2.mono leFs
     replace hf1 := hf1.mono leFs
     replace hC := hC.mono leFs
     replace ha3 := ha3.mono leFs
     rw [(envs_of_sat (l := [(5, (.pointer (some (elemA bv ((((i : Int) - 1).toNat) * 3))) : Value))]) ⟨e5, trivial⟩).symm]
     refine XG.op (XOp.load1 (v := .int .i64 ((bs.getD (((i : Int) - 1).toNat) (0, 0, [])).1)) Try.isAgg2 rfl (Rd.sl [_, _] rfl he1) ?_)
     exact ⟨rfl, rfl⟩
    refine stepsG.cons (fun vals Fs R leFs hpZ => ?_) ?_
    ·refine XG.op (XOp.move (bv) rfl ?_)
     exact ⟨rfl, rfl⟩
    refine stepsG.cons (fun vals Fs R leFs hpZ => ?_) ?_
    ·refine XG.op (XOp.move (.int .i64 ((i : Int) - 1)) rfl ?_)
     exact ⟨rfl, rfl⟩
    refine stepsG.cons (fun vals Fs R leFs hpZ => ?_) ?_
    ·have e7 : vals 7 = bv := hpZ 7 (by decide)
     have e8 : vals 8 = (.int .i64 ((i : Int) - 1) : Value) := hpZ 8 (by decide)
     replace hx1 := hx1.mono leFs
     replace hx2 := hx2.mono leFs
     replace hx3 := hx3.mono leFs
     replace hx4 := hx4.mono leFs
     replace hB := hB.mono leFs
     replace ha2 := ha2.mono leFs
     replace hf1 := hf1.mono leFs
     replace hC := hC.mono leFs
     replace ha3 := ha3.mono leFs
     rw [(envs_of_sat (l := [(7, bv), (8, (.int .i64 ((i : Int) - 1) : Value))]) ⟨e7, e8, trivial⟩).symm]
     refine XG.op (XOp.indexS (v := bv) (i := (i : Int) - 1) (n := bm) (((i : Int) - 1).toNat) Try.runUnderlying39 Try.sizeOf77 rfl rfl (by omega) (SlV.own [_, _] rfl) (by omega) rfl ?_)
     exact ⟨rfl, rfl⟩
    refine stepsG.cons (fun vals Fs R leFs hpZ => ?_) ?_
    ·have e9 : vals 9 = (.pointer (some (elemA bv ((((i : Int) - 1).toNat) * 3))) : Value) := hpZ 9 (by decide)
     rw [(envs_of_sat (l := [(9, (.pointer (some (elemA bv ((((i : Int) - 1).toNat) * 3))) : Value))]) ⟨e9, trivial⟩).symm]
     refine XG.op (XOp.fieldE (v := bv) ((((i : Int) - 1).toNat) * 3 + 1) Try.runUnderlying77 rfl Try.sizeOf2 (by decide) rfl rfl ?_)
     exact ⟨rfl, rfl⟩
    refine stepsG.cons (fun vals Fs R leFs hpZ => ?_) ?_
    ·have e10 : vals 10 = (.pointer (some (elemA bv ((((i : Int) - 1).toNat) * 3 + 1))) : Value) := hpZ 10 (by decide)
     replace hx1 := hx1.mono leFs
     replace hx2 := hx2.mono leFs
     replace hx3 := hx3.mono leFs
     replace hx4 := hx4.mono leFs
     replace hB := hB.mono leFs
     replace ha2 := ha2.mono leFs
     replace hf1 := hf1.mono leFs
     replace hC := hC.mono leFs
     replace ha3 := ha3.mono leFs
     rw [(envs_of_sat (l := [(10, (.pointer (some (elemA bv ((((i : Int) - 1).toNat) * 3 + 1))) : Value))]) ⟨e10, trivial⟩).symm]
     refine XG.op (XOp.load1 (v := .int .i64 ((bs.getD (((i : Int) - 1).toNat) (0, 0, [])).2.1)) Try.isAgg2 rfl (Rd.sl [_, _] rfl he2) ?_)
     exact ⟨rfl, rfl⟩
    refine stepsG.cons (fun vals Fs R leFs hpZ => ?_) ?_
    ·refine XG.op (XOp.move (bv) rfl ?_)
     exact ⟨rfl, rfl⟩
    refine stepsG.cons (fun vals Fs R leFs hpZ => ?_) ?_
    ·refine XG.op (XOp.move (.int .i64 ((i : Int) - 1)) rfl ?_)
     exact ⟨rfl, rfl⟩
    refine stepsG.cons (fun vals Fs R leFs hpZ => ?_) ?_
    ·have e12 : vals 12 = bv := hpZ 12 (by decide)
     have e13 : vals 13 = (.int .i64 ((i : Int) - 1) : Value) := hpZ 13 (by decide)
     replace hx1 := hx1.mono leFs
     replace hx2 := hx2.mono leFs
     replace hx3 := hx3.mono leFs
     replace hx4 := hx4.mono leFs
     replace hB := hB.mono leFs
     replace ha2 := ha2.mono leFs
     replace hf1 := hf1.mono leFs
     replace hC := hC.mono leFs
     replace ha3 := ha3.mono leFs
     rw [(envs_of_sat (l := [(12, bv), (13, (.int .i64 ((i : Int) - 1) : Value))]) ⟨e12, e13, trivial⟩).symm]
     refine XG.op (XOp.indexS (v := bv) (i := (i : Int) - 1) (n := bm) (((i : Int) - 1).toNat) Try.runUnderlying39 Try.sizeOf77 rfl rfl (by omega) (SlV.own [_, _] rfl) (by omega) rfl ?_)
     exact ⟨rfl, rfl⟩
    refine stepsG.cons (fun vals Fs R leFs hpZ => ?_) ?_
    ·have e14 : vals 14 = (.pointer (some (elemA bv ((((i : Int) - 1).toNat) * 3))) : Value) := hpZ 14 (by decide)
     rw [(envs_of_sat (l := [(14, (.pointer (some (elemA bv ((((i : Int) - 1).toNat) * 3))) : Value))]) ⟨e14, trivial⟩).symm]
     refine XG.op (XOp.fieldE (v := bv) ((((i : Int) - 1).toNat) * 3 + 2) Try.runUnderlying77 rfl Try.sizeOf22 (by decide) rfl rfl ?_)
     exact ⟨rfl, rfl⟩
    refine stepsG.cons (fun vals Fs R leFs hpZ => ?_) ?_
    ·have e15 : vals 15 = (.pointer (some (elemA bv ((((i : Int) - 1).toNat) * 3 + 2))) : Value) := hpZ 15 (by decide)
     replace hx1 := hx1.mono leFs
     replace hx2 := hx2.mono leFs
     replace hx3 := hx3.mono leFs
     replace hx4 := hx4.mono leFs
     replace hB := hB.mono leFs
     replace ha2 := ha2.mono leFs
     replace hf1 := hf1.mono leFs
     replace hC := hC.mono leFs
     replace ha3 := ha3.mono leFs
     rw [(envs_of_sat (l := [(15, (.pointer (some (elemA bv ((((i : Int) - 1).toNat) * 3 + 2))) : Value))]) ⟨e15, trivial⟩).symm]
     refine XG.op (XOp.load1 (v := a3) Try.isAgg22 rfl (Rd.sl [_, _] rfl he3) ?_)
     exact ⟨rfl, rfl⟩
    refine stepsG.cons (fun vals Fs R leFs hpZ => ?_) ?_
    ·have e16 : vals 16 = a3 := hpZ 16 (by decide)
     replace hx1 := hx1.mono leFs
     replace hx2 := hx2.mono leFs
     replace hx3 := hx3.mono leFs
     replace hx4 := hx4.mono leFs
     replace hB := hB.mono leFs
     replace ha2 := ha2.mono leFs
     replace hf1 := hf1.mono leFs
     replace hC := hC.mono leFs
     replace ha3 := ha3.mono leFs
     rw [(envs_of_sat (l := [(16, a3)]) ⟨e16, trivial⟩).symm]
     refine XG.op (XOp.frzF <| XOp.call (args := [a3]) Try.call49 rfl (l1Copy_spec ha3 (hlt := (by first | omega | (rw [hi9 (by omega)]; have := htbi (by omega); omega)))) ?_)
     rintro v7 _ _ _ ⟨rfl, hs4, rfl⟩
     refine ⟨_, _, rfl, fun F2 le2 hz2 => ?_⟩
     replace hx1 := hx1.mono le2
     replace hx2 := hx2.mono le2
     replace hx3 := hx3.mono le2
     replace hx4 := hx4.mono le2
     replace hB := hB.mono le2
     replace ha2 := ha2.mono le2
     replace hf1 := hf1.mono le2
     replace hC := hC.mono le2
     replace ha3 := ha3.mono le2
     have hf2 : IntsF F2 v7 ((((bs.getD (((i : Int) - 1).toNat) (0, 0, [])).2.2))) := intsH.fz (xs := (((bs.getD (((i : Int) - 1).toNat) (0, 0, [])).2.2))) hz2.fz
     exact ⟨⟨rfl, hf2, (hz2.base leFs)⟩, rfl⟩
    refine stepsG.cons (fun vals Fs R leFs hpZ => ?_) ?_
    ·have e6 : vals 6 = (.int .i64 ((bs.getD (((i : Int) - 1).toNat) (0, 0, [])).1) : Value) := hpZ 6 (by decide)
     have e11 : vals 11 = (.int .i64 ((bs.getD (((i : Int) - 1).toNat) (0, 0, [])).2.1) : Value) := hpZ 11 (by decide)
     obtain ⟨e17, f17_1ha, f17_1hz⟩ := hpZ 17 (by decide)
     replace hx1 := hx1.mono leFs
     replace hx2 := hx2.mono leFs
     replace hx3 := hx3.mono leFs
     replace hx4 := hx4.mono leFs
     replace hB := hB.mono leFs
     replace ha2 := ha2.mono leFs
     replace hf1 := hf1.mono leFs
     replace hC := hC.mono leFs
     replace ha3 := ha3.mono leFs
     rw [(envs_of_sat (l := [(6, (.int .i64 ((bs.getD (((i : Int) - 1).toNat) (0, 0, [])).1) : Value)), (11, (.int .i64 ((bs.getD (((i : Int) - 1).toNat) (0, 0, [])).2.1) : Value)), (17, ((vals 17)))]) ⟨e6, e11, (e17).symm, trivial⟩).symm]
     refine XG.op (XOp.build [.int .i64 ((bs.getD (((i : Int) - 1).toNat) (0, 0, [])).1), .int .i64 ((bs.getD (((i : Int) - 1).toNat) (0, 0, [])).2.1), ((vals 17))] [.int .i64 (0), .int .i64 (0), (.slice none 0 0)] [(0, 1), (1, 1), (2, 1)] [(0, [.int .i64 ((bs.getD (((i : Int) - 1).toNat) (0, 0, [])).1)]), (1, [.int .i64 ((bs.getD (((i : Int) - 1).toNat) (0, 0, [])).2.1)]), (2, [((vals 17))])] Try.runUnderlying77 Try.zeroValue77 rfl (.cons rfl Try.sizeOf2 (.cons rfl Try.sizeOf2 (.cons rfl Try.sizeOf22 PlacesAre.nil))) rfl (.cons rfl (.cons rfl (.cons (cells_one (IntsF.isSl f17_1ha)) CellsAre.nil))) ?_)
     exact ⟨rfl, rfl⟩
    refine stepsG.cons (fun vals Fs R leFs hpZ => ?_) ?_
    ·obtain ⟨e17, f17_1ha, f17_1hz⟩ := hpZ 17 (by decide)
     have e18 : vals 18 = (.agg #[.int .i64 ((bs.getD (((i : Int) - 1).toNat) (0, 0, [])).1), .int .i64 ((bs.getD (((i : Int) - 1).toNat) (0, 0, [])).2.1), ((vals 17))] : Value) := hpZ 18 (by decide)
     replace hx1 := hx1.mono leFs
     replace hx2 := hx2.mono leFs
     replace hx3 := hx3.mono leFs
     replace hx4 := hx4.mono leFs
     replace hB := hB.mono leFs
     replace ha2 := ha2.mono leFs
     replace hf1 := hf1.mono leFs
     replace hC := hC.mono leFs
     replace ha3 := ha3.mono leFs
     rw [(envs_of_sat (l := [(17, ((vals 17))), (18, (.agg #[.int .i64 ((bs.getD (((i : Int) - 1).toNat) (0, 0, [])).1), .int .i64 ((bs.getD (((i : Int) - 1).toNat) (0, 0, [])).2.1), ((vals 17))] : Value))]) ⟨(e17).symm, e18, trivial⟩).symm]
     refine XG.op (XOp.buildSlice (s := 3) [.int .i64 ((bs.getD (((i : Int) - 1).toNat) (0, 0, [])).1), .int .i64 ((bs.getD (((i : Int) - 1).toNat) (0, 0, [])).2.1), ((vals 17))] [.int .i64 (0), .int .i64 (0), (.slice none 0 0)] [(0, [.int .i64 ((bs.getD (((i : Int) - 1).toNat) (0, 0, [])).1), .int .i64 ((bs.getD (((i : Int) - 1).toNat) (0, 0, [])).2.1), ((vals 17))])] Try.runUnderlying39 Try.sizeOf77 Try.zeroValue77 rfl (by decide) rfl (.cons rfl CellsAre.nil) rfl ?_)
     intro v8 hv4
     exact ⟨hv4, rfl⟩
    exact stepsG.nil
   ·intro vals F3 le3 hphi
    have e0 : vals 0 = ptr b3 1 := hphi 0 (by decide)
    have e1 : vals 1 = sv := hphi 1 (by decide)
    have e2 : vals 2 = bv := hphi 2 (by decide)
    have e3 : vals 3 = (.int .i64 ((i : Int) - 1) : Value) := hphi 3 (by decide)
    have e4 : vals 4 = (.pointer (some (elemA bv ((((i : Int) - 1).toNat) * 3))) : Value) := hphi 4 (by decide)
    have e5 : vals 5 = (.pointer (some (elemA bv ((((i : Int) - 1).toNat) * 3))) : Value) := hphi 5 (by decide)
    have e6 : vals 6 = (.int .i64 ((bs.getD (((i : Int) - 1).toNat) (0, 0, [])).1) : Value) := hphi 6 (by decide)
    have e7 : vals 7 = bv := hphi 7 (by decide)
    have e8 : vals 8 = (.int .i64 ((i : Int) - 1) : Value) := hphi 8 (by decide)
    have e9 : vals 9 = (.pointer (some (elemA bv ((((i : Int) - 1).toNat) * 3))) : Value) := hphi 9 (by decide)
    have e10 : vals 10 = (.pointer (some (elemA bv ((((i : Int) - 1).toNat) * 3 + 1))) : Value) := hphi 10 (by decide)
    have e11 : vals 11 = (.int .i64 ((bs.getD (((i : Int) - 1).toNat) (0, 0, [])).2.1) : Value) := hphi 11 (by decide)
    have e12 : vals 12 = bv := hphi 12 (by decide)
    have e13 : vals 13 = (.int .i64 ((i : Int) - 1) : Value) := hphi 13 (by decide)
    have e14 : vals 14 = (.pointer (some (elemA bv ((((i : Int) - 1).toNat) * 3))) : Value) := hphi 14 (by decide)
    have e15 : vals 15 = (.pointer (some (elemA bv ((((i : Int) - 1).toNat) * 3 + 2))) : Value) := hphi 15 (by decide)
    have e16 : vals 16 = a3 := hphi 16 (by decide)
    obtain ⟨e17, f17_1ha, f17_1hz⟩ := hphi 17 (by decide)
    have e18 : vals 18 = (.agg #[.int .i64 ((bs.getD (((i : Int) - 1).toNat) (0, 0, [])).1), .int .i64 ((bs.getD (((i : Int) - 1).toNat) (0, 0, [])).2.1), ((vals 17))] : Value) := hphi 18 (by decide)
    have f19 : ∃ b, (vals 19) = .slice (some ⟨b, 0, none⟩) 1 1 := hphi 19 (by decide)
    generalize hu1 : ((vals 17)) = u1 at e0 e1 e2 e3 e4 e5 e6 e7 e8 e9 e10 e11 e12 e13 e14 e15 e16 e17 f17_1ha f17_1hz e18 f19
    generalize hu19 : vals 19 = u2 at e0 e1 e2 e3 e4 e5 e6 e7 e8 e9 e10 e11 e12 e13 e14 e15 e16 e17 f17_1ha f17_1hz e18 f19
    rw [(envs_of_sat (l := [(0, ptr b3 1), (1, sv), (2, bv), (3, (.int .i64 ((i : Int) - 1) : Value)), (4, (.pointer (some (elemA bv ((((i : Int) - 1).toNat) * 3))) : Value)), (5, (.pointer (some (elemA bv ((((i : Int) - 1).toNat) * 3))) : Value)), (6, (.int .i64 ((bs.getD (((i : Int) - 1).toNat) (0, 0, [])).1) : Value)), (7, bv), (8, (.int .i64 ((i : Int) - 1) : Value)), (9, (.pointer (some (elemA bv ((((i : Int) - 1).toNat) * 3))) : Value)), (10, (.pointer (some (elemA bv ((((i : Int) - 1).toNat) * 3 + 1))) : Value)), (11, (.int .i64 ((bs.getD (((i : Int) - 1).toNat) (0, 0, [])).2.1) : Value)), (12, bv), (13, (.int .i64 ((i : Int) - 1) : Value)), (14, (.pointer (some (elemA bv ((((i : Int) - 1).toNat) * 3))) : Value)), (15, (.pointer (some (elemA bv ((((i : Int) - 1).toNat) * 3 + 2))) : Value)), (16, a3), (17, u1), (18, (.agg #[.int .i64 ((bs.getD (((i : Int) - 1).toNat) (0, 0, [])).1), .int .i64 ((bs.getD (((i : Int) - 1).toNat) (0, 0, [])).2.1), u1] : Value)), (19, u2)]) ⟨e0, e1, e2, e3, e4, e5, e6, e7, e8, e9, e10, e11, e12, e13, e14, e15, e16, hu1, e18, hu19, trivial⟩).symm]
    replace hx1 := hx1.mono le3
    replace hx2 := hx2.mono le3
    replace hx3 := hx3.mono le3
    replace hx4 := hx4.mono le3
    replace hB := hB.mono le3
    replace ha2 := ha2.mono le3
    replace hf1 := hf1.mono le3
    replace hC := hC.mono le3
    replace ha3 := ha3.mono le3
    show XL _ _ _ _ _ _ _ (slH 77 3 u2 1 [.int .i64 ((bs.getD (((i : Int) - 1).toNat) (0, 0, [])).1), .int .i64 ((bs.getD (((i : Int) - 1).toNat) (0, 0, [])).2.1), u1] :: slH 77 3 sv m cs :: cellsH b3 [v4, sv] 41 :: slH 77 3 bv bm bcs :: cellsH b2 [(.slice none 0 0), (.slice none 0 0)] 41 :: cellsH b1 [x1v, x2v, x3v, x4v, .bool (ab)] 85 :: L)
    refine XL.cons (XOp.append (m := 1) (bytes := 40) (cs := cs) [_] _ [.int .i64 ((bs.getD (((i : Int) - 1).toNat) (0, 0, [])).1), .int .i64 ((bs.getD (((i : Int) - 1).toNat) (0, 0, [])).2.1), u1] Try.runUnderlying39 Try.typeInfo77 rfl rfl rfl rfl rfl rfl rfl (SlV.own [] rfl) rfl (Rd.lit [] rfl) (ones_cons rfl (ones_cons rfl (ones_cons (one_sl (IntsF.isSl f17_1ha)) ones_nil))) (by (try simp only [List.length_append, List.length_nil, List.length_cons, List.length_singleton]); omega) (by (try simp only [List.length_append, List.length_nil, List.length_cons, List.length_singleton]); omega) ?_)
    intro v9 hs5 hn2 hm2
    have hc2 := StepsC.snoc hC (i := (bs.getD (((i : Int) - 1).toNat) (0, 0, [])).1) (j := (bs.getD (((i : Int) - 1).toNat) (0, 0, [])).2.1) f17_1ha
    skip
    refine XL.cons (XOp.fieldP (b := b3) (1) Try.runUnderlying41 rfl Try.sizeOf39 (by decide) rfl rfl ?_)
    refine XL.cons (XOp.store1 (v := v9) [_, _] _ [v4, v9] Try.sizeOf39 rfl rfl (one_sl hs5) rfl rfl rfl ?_)
    refine XL.nil ?_
    refine X.region ?_
    refine XL.cons (XOp.move (.int .i64 ((i : Int) - 1)) rfl ?_)
    refine XL.cons (XOp.subR (a := (i : Int) - 1) (b := 1) (((i : Int) - 1) - 1) rfl rfl (by omega) (by omega) ?_)
    refine XL.cons (XOp.assign (.int .i64 (((i : Int) - 1) - 1)) rfl ?_)
    refine XL.nil ?_
    exact ⟨(i - 1, v9, ss ++ [((bs.getD (((i : Int) - 1).toNat) (0, 0, [])).1, (bs.getD (((i : Int) - 1).toNat) (0, 0, [])).2.1, (((bs.getD (((i : Int) - 1).toNat) (0, 0, [])).2.2)))], cs ++ [.int .i64 ((bs.getD (((i : Int) - 1).toNat) (0, 0, [])).1), .int .i64 ((bs.getD (((i : Int) - 1).toNat) (0, 0, [])).2.1), u1], Ls ++ [intsH 2 u1 ((((bs.getD (((i : Int) - 1).toNat) (0, 0, [])).2.2)))], (m) + 1, F3), _, (FLe.trans leG1 le3), (FLe.refl _), ⟨rfl, rfl, rfl, (congrArg (Value.int .i64) (by (try dsimp only); omega)), trivial⟩, (Sub.drop (Sub.cons (Sub.cons (Sub.cons (Sub.cons (Sub.cons (Sub.refl _))))))), ⟨rfl, (FLe.trans leG1 le3), (by (try dsimp only) <;> omega), (hs5), (hc2), (by (try dsimp only); rw [List.length_append]; simp only [List.length_singleton]; omega), (DeepL.snoc hD rfl ⟨_, rfl, rfl⟩), ((Fresh.app hZ leG1 (Fresh.one f17_1hz) le3)), (by (try dsimp only); have h9 := hdr9 (by omega); rw [show i - 1 + 1 = i from by omega] at h9; rw [hss, h9, hi9 (by omega)]), (by (try dsimp only); omega)⟩, (by (try dsimp only); omega)⟩
  ·refine X.exit (thenQ_exit (thenQ_exit (blockQ_exit ?_)))
   refine X.seq ?_
   refine X.region ?_
   refine XL.cons (XOp.loadN [v4, sv] Try.isAgg41 Try.sizeOf41 rfl rfl (Rd.ownN [_] rfl rfl) ?_)
   refine XL.cons (XOp.storeN (vs := [v4, sv]) [_, _, _] _ [v4, sv] Try.sizeOf41 rfl rfl rfl (ones_cons (one_sl (IntsF.isSl hf1)) (ones_cons (one_sl hsv) ones_nil)) rfl rfl rfl ?_)
   refine XL.nil ?_
   refine X.freezeF [] _ _ rfl (fun F4 le4 hz3 => ?_)
   replace hx1 := hx1.mono le4
   replace hx2 := hx2.mono le4
   replace hx3 := hx3.mono le4
   replace hx4 := hx4.mono le4
   replace hB := hB.mono le4
   replace ha2 := ha2.mono le4
   replace hf1 := hf1.mono le4
   replace hC := hC.mono le4
   have hf3 : StepsF F4 sv ss := CO.fz hC (by first | rfl | simp | omega) hz3.fz
   refine X.ret (retEnd (L' := L) [.agg #[v4, sv]] (.agg #[v4, sv]) (.cell rfl (loadNV [v4, sv] Try.isAgg41 Try.sizeOf41 rfl (Rd.ownN [_, _] rfl rfl)) .nil) rfl (FLe.trans (FLe.trans le1 leG1) le4) (FLe.refl _) (Sub.drop (Sub.drop (Sub.drop (Sub.drop (Sub.refl _))))) ?_)
   have e9 : ss = walkL al k := by rw [hss, show i = 0 from by omega, List.drop_zero, hssb]; rfl
   rw [← e9, ← terms_get 0]
   exact ⟨_, _, rfl, hf1, hf3, (Fresh.app (Fresh.one hz1) le1 (Fresh.one (Fresh.deep hD hZ leG1 hz3 (by omega) le4)) (FLe.trans leG1 le4)), rfl⟩

/- spec.WalkTo -/
set_option maxRecDepth 20000 in
theorem sWalkTo_spec {F : FH} {L : List HP} {arv : Value} {ar : List Int} (har : IntsF F arv ar) {rsv : Value} {rs : List (List Int × List Int)} (hrs : PairsF F rsv rs) {tv : Value} {t : List Int} (ht : IntsF F tv t) {uv : Value} {u : List Int} (hu : IntsF F uv u) {n : Int} (hla : ar.length ≤ 4000000) (hlr : rs.length ≤ 4000000) (hrb : ∀ i, i < rs.length → (rs.getD i ([], [])).1.length ≤ 4000000 ∧ (rs.getD i ([], [])).2.length ≤ 4000000) (hlt : t.length ≤ 4000000) (hlu : u.length ≤ 4000000) :
    Does Try.prog 31 [.agg #[arv, rsv], tv, uv, .int .i64 (n)] F (L) (fun v F' L' => ∃ (a : Value), ∃ (b : Value), (.tuple #[.agg #[a, b], .bool ((walkToF ar rs t u n).2.2)] : Value) = v ∧ (IntsF F' a (walkToF ar rs t u n).1) ∧ (StepsF F' b (walkToF ar rs t u n).2.1) ∧ (Fresh F F' (star [intsH 2 a (walkToF ar rs t u n).1, stepsD 2 77 b (walkToF ar rs t u n).2.1])) ∧ L = L') := by
 refine Does.of_X Try.func31 rfl rfl rfl ?_
 refine X.seq ?_
 refine X.region ?_
 refine XL.cons (XOp.box [arv, rsv] rfl rfl ?_)
 intro b1
 refine XL.cons (XOp.alloc [(.slice none 0 0), (.slice none 0 0)] Try.zeroValue41 rfl ?_)
 intro b2
 refine XL.cons (XOp.assign (.bool (false)) rfl ?_)
 refine XL.nil ?_
 refine X.seq ?_
 refine X.seq ?_
 refine X.region ?_
 refine XL.cons (XOp.loadN [arv, rsv] Try.isAgg33 Try.sizeOf33 rfl rfl (Rd.ownN [_] rfl rfl) ?_)
 refine XL.cons (XOp.move (tv) rfl ?_)
 refine XL.cons (XOp.move (.int .i64 (n)) rfl ?_)
 refine XL.cons (XOp.call (args := [.agg #[arv, rsv], tv, .int .i64 (n)]) Try.call48 rfl (l9Right_spec (n := n) har hrs ht (hla := (by first | assumption | rfl | omega | (left; simp; done) | (right; simp; done))) (hlr := (by first | assumption | rfl | omega | (left; simp; done) | (right; simp; done))) (hrb := (by first | assumption | rfl | omega | (left; simp; done) | (right; simp; done))) (hlt := (by first | assumption | rfl | omega | (left; simp; done) | (right; simp; done)))) ?_)
 rintro _ _ _ _ ⟨rfl, rfl, rfl⟩
 refine XL.cons (XOp.notB (b := reachOkL ar rs n [t]) rfl ?_)
 refine XL.cons (XOp.move (.bool (!(reachOkL ar rs n [t]))) rfl ?_)
 by_cases h1 : (!(reachOkL ar rs n [t])) = true
 ·have hro : reachOkL ar rs n [t, u] = false := by rw [reachOk2]; simp_all
  refine XL.no (t := 17) rfl (congrArg Value.bool h1) ?_
  refine XL.no (t := 17) rfl (congrArg Value.bool h1) ?_
  refine XL.no (t := 17) rfl (congrArg Value.bool h1) ?_
  refine XL.no (t := 17) rfl (congrArg Value.bool h1) ?_
  refine XL.no (t := 17) rfl (congrArg Value.bool h1) ?_
  refine XL.cons (XOp.pickT (.bool (true)) (congrArg Value.bool h1) rfl ?_)
  refine XL.nil ?_
  refine X.condT rfl ?_
  refine X.seq ?_
  refine X.region ?_
  refine XL.cons (XOp.build [(.slice none 0 0), (.slice none 0 0)] [(.slice none 0 0), (.slice none 0 0)] [(0, 1), (1, 1)] [] Try.runUnderlying41 Try.zeroValue41 rfl (.cons rfl Try.sizeOf22 (.cons rfl Try.sizeOf39 PlacesAre.nil)) rfl CellsAre.nil ?_)
  refine XL.cons (XOp.storeN (vs := [(.slice none 0 0), (.slice none 0 0)]) [] _ [(.slice none 0 0), (.slice none 0 0)] Try.sizeOf41 rfl rfl rfl (ones_cons rfl (ones_cons rfl ones_nil)) rfl rfl rfl ?_)
  refine XL.cons (XOp.assign (.bool (false)) rfl ?_)
  refine XL.nil ?_
  refine X.ret (thenQ_ret (retEnd (L' := L) [.agg #[(.slice none 0 0), (.slice none 0 0)], .bool (false)] (.tuple #[.agg #[(.slice none 0 0), (.slice none 0 0)], .bool (false)]) (.cell rfl (loadNV [(.slice none 0 0), (.slice none 0 0)] Try.isAgg41 Try.sizeOf41 rfl (Rd.ownN [] rfl rfl)) (.tmp rfl .nil)) rfl (FLe.refl _) (FLe.refl _) (Sub.drop (Sub.drop (Sub.refl _))) ?_))
  have e : walkToF ar rs t u n = ([], [], false) := walkToF_no hro
  exact ⟨_, _, by rw [e], by rw [e]; exact IntsF.nilV, by rw [e]; exact SlOf.nilV, by rw [e]; exact Fresh.empty nilWalk, rfl⟩
 ·rw [Bool.not_eq_true] at h1
  refine XL.yes (t := 17) rfl (congrArg Value.bool h1) (XOp.loadN [arv, rsv] Try.isAgg33 Try.sizeOf33 rfl rfl (Rd.ownN [_] rfl rfl) ?_)
  refine XL.yes (t := 17) rfl (congrArg Value.bool h1) (XOp.move (uv) rfl ?_)
  refine XL.yes (t := 17) rfl (congrArg Value.bool h1) (XOp.move (.int .i64 (n)) rfl ?_)
  refine XL.yes (t := 17) rfl (congrArg Value.bool h1) (XOp.call (args := [.agg #[arv, rsv], uv, .int .i64 (n)]) Try.call48 rfl (l9Right_spec (n := n) har hrs hu (hla := (by first | assumption | rfl | omega | (left; simp; done) | (right; simp; done))) (hlr := (by first | assumption | rfl | omega | (left; simp; done) | (right; simp; done))) (hrb := (by first | assumption | rfl | omega | (left; simp; done) | (right; simp; done))) (hlt := (by first | assumption | rfl | omega | (left; simp; done) | (right; simp; done)))) ?_)
  rintro _ _ _ _ ⟨rfl, rfl, rfl⟩
  refine XL.yes (t := 17) rfl (congrArg Value.bool h1) (XOp.notB (b := reachOkL ar rs n [u]) rfl ?_)
  refine XL.cons (XOp.pickF (.bool (!(reachOkL ar rs n [u]))) (congrArg Value.bool h1) rfl ?_)
  refine XL.nil ?_
  refine X.cond (t := !(reachOkL ar rs n [u])) rfl (fun h2 => ?_) (fun h2 => ?_)
  ·have hro : reachOkL ar rs n [t, u] = false := by rw [reachOk2]; simp_all
   refine X.seq ?_
   refine X.region ?_
   refine XL.cons (XOp.build [(.slice none 0 0), (.slice none 0 0)] [(.slice none 0 0), (.slice none 0 0)] [(0, 1), (1, 1)] [] Try.runUnderlying41 Try.zeroValue41 rfl (.cons rfl Try.sizeOf22 (.cons rfl Try.sizeOf39 PlacesAre.nil)) rfl CellsAre.nil ?_)
   refine XL.cons (XOp.storeN (vs := [(.slice none 0 0), (.slice none 0 0)]) [] _ [(.slice none 0 0), (.slice none 0 0)] Try.sizeOf41 rfl rfl rfl (ones_cons rfl (ones_cons rfl ones_nil)) rfl rfl rfl ?_)
   refine XL.cons (XOp.assign (.bool (false)) rfl ?_)
   refine XL.nil ?_
   refine X.ret (thenQ_ret (retEnd (L' := L) [.agg #[(.slice none 0 0), (.slice none 0 0)], .bool (false)] (.tuple #[.agg #[(.slice none 0 0), (.slice none 0 0)], .bool (false)]) (.cell rfl (loadNV [(.slice none 0 0), (.slice none 0 0)] Try.isAgg41 Try.sizeOf41 rfl (Rd.ownN [] rfl rfl)) (.tmp rfl .nil)) rfl (FLe.refl _) (FLe.refl _) (Sub.drop (Sub.drop (Sub.refl _))) ?_))
   have e : walkToF ar rs t u n = ([], [], false) := walkToF_no hro
   exact ⟨_, _, by rw [e], by rw [e]; exact IntsF.nilV, by rw [e]; exact SlOf.nilV, by rw [e]; exact Fresh.empty nilWalk, rfl⟩
  ·have hro : reachOkL ar rs n [t, u] = true := by rw [reachOk2]; simp_all
   have hr3 := reachOk2_iff.1 hro
   have hsys := hr3.1.1
   have ho := hr3.1.2.1
   have hou := hr3.1.2.2
   have hn20 := hr3.2
   have hgd := reachL_good (ar := ar) (rs := rs) (t := t) (n := n) hn20.1
   have hrk := reachL_ok (n := n) hsys ho
   have hrl := hrk.1
   have hrd : ∀ i, i < (reachL ar rs t n).1.length → (EL (reachL ar rs t n).1 i).1.length ≤ 60 := fun i hi => (termOk_len (hrk.2 i hi)).2
   have htz : (terms (reachL ar rs t n).1).length = (reachL ar rs t n).1.length := terms_len
   have htq : ∀ i, i < (terms (reachL ar rs t n).1).length → ((terms (reachL ar rs t n).1).getD i []).length ≤ 4000000 := fun i hi => by rw [terms_get]; have := hrd i (by omega); omega
   have hfi : badG (fun y => !decide (y = u)) (terms (reachL ar rs t n).1) = (foundI (reachL ar rs t n).1 u) := foundI_terms
   have hfl := fun (h : 0 ≤ (foundI (reachL ar rs t n).1 u)) => (foundI_lt h).1
   refine X.skip ?_
   refine X.seq ?_
   refine X.region ?_
   refine XL.cons (XOp.loadN [arv, rsv] Try.isAgg33 Try.sizeOf33 rfl rfl (Rd.ownN [_] rfl rfl) ?_)
   refine XL.cons (XOp.move (tv) rfl ?_)
   refine XL.cons (XOp.move (.int .i64 (n)) rfl ?_)
   refine XL.cons (XOp.call (args := [.agg #[arv, rsv], tv, .int .i64 (n)]) Try.call64 rfl (l9Find_spec (n := n) har hrs ht (hsys := (by first | assumption | rfl | omega | (left; simp; done) | (right; simp; done))) (ho := (by first | assumption | rfl | omega | (left; simp; done) | (right; simp; done))) (hn20 := (by first | assumption | rfl | omega | (left; simp; done) | (right; simp; done)))) ?_)
   rintro _ F1 _ le1 ⟨x1, x2, x3, x4, rfl, hr1, hr2, hr3, hr4, rfl⟩
   replace har := har.mono le1
   replace hrs := hrs.mono le1
   replace ht := ht.mono le1
   replace hu := hu.mono le1
   refine XL.cons (XOp.alloc [(.slice none 0 0), (.slice none 0 0), (.slice none 0 0), (.slice none 0 0), .bool (false)] Try.zeroValue85 rfl ?_)
   intro b3
   refine XL.cons (XOp.storeN (vs := [x1, x2, x3, x4, .bool ((reachL ar rs t n).2)]) [] _ [x1, x2, x3, x4, .bool ((reachL ar rs t n).2)] Try.sizeOf85 rfl rfl rfl (ones_cons (one_sl (RowsF.isSl hr1)) (ones_cons (one_sl (IntsF.isSl hr2)) (ones_cons (one_sl (StepsF.isSl hr3)) (ones_cons (one_sl (IntsF.isSl hr4)) (ones_cons rfl ones_nil))))) rfl rfl rfl ?_)
   refine XL.nil ?_
   refine X.seq ?_
   refine X.region ?_
   refine XL.cons (XOp.fieldP (b := b3) (0) Try.runUnderlying85 rfl Try.sizeOf49 (by decide) rfl rfl ?_)
   refine XL.cons (XOp.load1 (v := x1) Try.isAgg49 rfl (Rd.own [] rfl rfl) ?_)
   refine XL.cons (XOp.move (uv) rfl ?_)
   refine XL.cons (XOp.call (args := [x1, uv]) Try.call68 rfl (l1TermPlace_spec hr1 hu (hlt := (by omega)) (htb := (htq)) (hlx := (by first | assumption | rfl | omega | (left; simp; done) | (right; simp; done)))) ?_)
   rintro _ _ _ _ ⟨rfl, rfl, rfl⟩
   refine XL.cons (XOp.assign (.int .i64 (badG (fun y => !decide (y = u)) (terms (reachL ar rs t n).1))) rfl ?_)
   refine XL.nil ?_
   refine X.seq ?_
   refine X.seq ?_
   refine X.region ?_
   refine XL.cons (XOp.move (.int .i64 (badG (fun y => !decide (y = u)) (terms (reachL ar rs t n).1))) rfl ?_)
   refine XL.cons (XOp.lss (a := badG (fun y => !decide (y = u)) (terms (reachL ar rs t n).1)) (b := 0) rfl rfl ?_)
   refine XL.nil ?_
   refine X.condD (p := (badG (fun y => !decide (y = u)) (terms (reachL ar rs t n).1) : Int) < 0) rfl (fun h3 => ?_) (fun h3 => ?_)
   ·refine X.seq ?_
    refine X.region ?_
    refine XL.cons (XOp.build [(.slice none 0 0), (.slice none 0 0)] [(.slice none 0 0), (.slice none 0 0)] [(0, 1), (1, 1)] [] Try.runUnderlying41 Try.zeroValue41 rfl (.cons rfl Try.sizeOf22 (.cons rfl Try.sizeOf39 PlacesAre.nil)) rfl CellsAre.nil ?_)
    refine XL.cons (XOp.storeN (vs := [(.slice none 0 0), (.slice none 0 0)]) [_] _ [(.slice none 0 0), (.slice none 0 0)] Try.sizeOf41 rfl rfl rfl (ones_cons rfl (ones_cons rfl ones_nil)) rfl rfl rfl ?_)
    refine XL.cons (XOp.assign (.bool (false)) rfl ?_)
    refine XL.nil ?_
    refine X.ret (thenQ_ret (retEnd (L' := L) [.agg #[(.slice none 0 0), (.slice none 0 0)], .bool (false)] (.tuple #[.agg #[(.slice none 0 0), (.slice none 0 0)], .bool (false)]) (.cell rfl (loadNV [(.slice none 0 0), (.slice none 0 0)] Try.isAgg41 Try.sizeOf41 rfl (Rd.ownN [_] rfl rfl)) (.tmp rfl .nil)) rfl le1 (FLe.refl _) (Sub.drop (Sub.drop (Sub.drop (Sub.refl _)))) ?_))
    have e : walkToF ar rs t u n = ([], [], false) := (walkToF_yes hro).trans (walkTo0_no (by omega))
    exact ⟨_, _, by rw [e], by rw [e]; exact IntsF.nilV, by rw [e]; exact SlOf.nilV, by rw [e]; exact Fresh.empty nilWalk, rfl⟩
   ·refine X.skip ?_
    refine X.seq ?_
    refine X.region ?_
    refine XL.cons (XOp.loadN [x1, x2, x3, x4, .bool ((reachL ar rs t n).2)] Try.isAgg85 Try.sizeOf85 rfl rfl (Rd.ownN [] rfl rfl) ?_)
    refine XL.cons (XOp.move (.int .i64 (badG (fun y => !decide (y = u)) (terms (reachL ar rs t n).1))) rfl ?_)
    refine XL.cons (XOp.call (args := [.agg #[x1, x2, x3, x4, .bool ((reachL ar rs t n).2)], .int .i64 (((badG (fun y => !decide (y = u)) (terms (reachL ar rs t n).1)).toNat : Nat) : Int)]) Try.call69 (by rw [show (((badG (fun y => !decide (y = u)) (terms (reachL ar rs t n).1)).toNat : Nat) : Int) = badG (fun y => !decide (y = u)) (terms (reachL ar rs t n).1) from by omega]; rfl) (l9Walk_spec (k := (badG (fun y => !decide (y = u)) (terms (reachL ar rs t n).1)).toNat) hr1 hr2 hr3 hr4 (hk := (by rw [hfi]; exact hfl (by omega))) (hll := (hrl)) (hlk := (hgd.1)) (hbd := (hrd))) ?_)
    rintro _ F2 _ le2 ⟨x5, x6, rfl, hr5, hr6, hr7, rfl⟩
    replace har := har.mono le2
    replace hrs := hrs.mono le2
    replace ht := ht.mono le2
    replace hu := hu.mono le2
    replace hr1 := hr1.mono le2
    replace hr2 := hr2.mono le2
    replace hr3 := hr3.mono le2
    replace hr4 := hr4.mono le2
    refine XL.cons (XOp.storeN (vs := [x5, x6]) [_] _ [x5, x6] Try.sizeOf41 rfl rfl rfl (ones_cons (one_sl (IntsF.isSl hr5)) (ones_cons (one_sl (StepsF.isSl hr6)) ones_nil)) rfl rfl rfl ?_)
    refine XL.cons (XOp.assign (.bool (true)) rfl ?_)
    refine XL.nil ?_
    refine X.ret (retEnd (L' := L) [.agg #[x5, x6], .bool (true)] (.tuple #[.agg #[x5, x6], .bool (true)]) (.cell rfl (loadNV [x5, x6] Try.isAgg41 Try.sizeOf41 rfl (Rd.ownN [_] rfl rfl)) (.tmp rfl .nil)) rfl (FLe.trans le1 le2) (FLe.refl _) (Sub.drop (Sub.drop (Sub.drop (Sub.refl _)))) ?_)
    have e : walkToF ar rs t u n = ((EL (reachL ar rs t n).1 0).1, walkL (reachL ar rs t n).1 (badG (fun y => !decide (y = u)) (terms (reachL ar rs t n).1)).toNat, true) := by rw [walkToF_yes hro, walkTo0_yes (by omega), hgd.2.2.2, hfi]
    exact ⟨_, _, by rw [e], by rw [e]; exact hr5, by rw [e]; exact hr6, by rw [e]; exact (hr7.base le1), rfl⟩
end Go.Proofs.Ytiaanelimbmniaa
