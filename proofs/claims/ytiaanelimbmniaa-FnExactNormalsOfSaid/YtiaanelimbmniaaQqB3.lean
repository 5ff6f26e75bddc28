/-
  Walks, one after the other (part 4).
-/
import Derived.Test.YtiaanelimbmniaaQqB2
import Derived.Test.YtiaanelimbmniaaX18
import Derived.Test.YtiaanelimbmniaaX19
import Derived.Test.YtiaanelimbmniaaP19
import Derived.Test.YtiaanelimbmniaaP20
set_option linter.unusedSimpArgs false
set_option linter.unusedVariables false
namespace Go.Proofs.Ytiaanelimbmniaa
open Go X M

/- spec.l7Steps -/
theorem l7Steps_spec {F : FH} {L : List HP} {arv : Value} {ar : List Int} (har : IntsF F arv ar) {rsv : Value} {rs : List (List Int × List Int)} (hrs : PairsF F rsv rs) {tv : Value} {t : List Int} (ht : IntsF F tv t) (hsys : sysOk ar rs = true) (ho : termOk ar t = true) :
    Does Try.prog 82 [.agg #[arv, rsv], tv] F (L) (fun v F' L' => ∃ (a : Value), (a : Value) = v ∧ (StepsF F' a (stepsL ar rs t)) ∧ L = L') := by
 refine Does.of_X Try.func82 rfl rfl rfl ?_
 have hnn := notNil_of_pos ht (by have := termOk_len ho; omega)
 have htl := termOk_len ho
 have hrl := (sysOk_iff.1 hsys).2.1
 have hsig := (sysOk_iff.1 hsys).1
 have hsl := sigOk_spec hsig
 refine X.seq ?_
 refine X.region ?_
 refine XL.cons (XOp.box [arv, rsv] rfl rfl ?_)
 intro b1
 refine XL.cons (XOp.assign ((.slice none 0 0)) rfl ?_)
 refine XL.nil ?_
 refine X.seq ?_
 refine X.region ?_
 refine XL.cons (XOp.buildSlice (s := 3) [] [.int .i64 (0), .int .i64 (0), (.slice none 0 0)] [] Try.runUnderlying39 Try.sizeOf77 Try.zeroValue77 rfl (by decide) rfl CellsAre.nil rfl ?_)
 intro v1 hv1
 refine XL.cons (XOp.assign (v1) rfl ?_)
 refine XL.nil ?_
 refine X.seq ?_
 refine X.seq ?_
 refine X.region ?_
 refine XL.cons (XOp.assign (.int .i64 (0)) rfl ?_)
 refine XL.nil ?_
 refine X.block ?_
 refine X.loop (α := Nat × Value × List StepT × List Value × Nat × FH) (fun xQ => [(1, tv), (2, ptr b1 0), (5, xQ.2.1), (6, .int .i64 (((xQ.1 : Nat) : Int)))]) (fun xQ => slH 77 3 xQ.2.1 xQ.2.2.2.2.1 xQ.2.2.2.1 :: cellsH b1 [arv, rsv] 33 :: L) (fun xQ F' => xQ.2.2.2.2.2 = F' ∧ F ≤ xQ.2.2.2.2.2 ∧ (xQ.1 ≤ t.length) ∧ (IsSl xQ.2.1) ∧ (StepsC xQ.2.2.2.2.2 xQ.2.2.2.1 xQ.2.2.1) ∧ (xQ.2.2.2.2.1 = xQ.2.2.1.length) ∧ (xQ.2.2.1 = stepsTo ar rs t xQ.1)) (fun xQ => t.length - xQ.1) (0, v1, [], [], 0, F) ⟨rfl, rfl, rfl, rfl, trivial⟩ (Sub.cons (Sub.cons (Sub.refl _))) ⟨rfl, FLe.refl _, (by (try dsimp only) <;> omega), ((isSl_lit hv1)), (CO.nil), (rfl), (rfl)⟩ ?_
 rintro ⟨k, sv, ss, cs, m, G1⟩ rE _ _ ⟨rfl, leG, hk, hsv, hC, hm, hss⟩
 show X _ _ _ _ (envs [(1, tv), (2, ptr b1 0), (5, sv), (6, .int .i64 (((k : Nat) : Int)))] rE) _ (slH 77 3 sv m cs :: cellsH b1 [arv, rsv] 33 :: L)
 replace leG : F ≤ G1 := leG
 dsimp only at hk hsv hC hm hss
 have hsl1 := stepsTo_len (ar := ar) (t := t) (rs := rs) hrl k
 have hss0 := hss
 have leG1 := leG
 replace har := har.mono leG1
 replace hrs := hrs.mono leG1
 replace ht := ht.mono leG1
 refine X.seq ?_
 refine X.seq ?_
 refine X.region ?_
 refine XL.cons (XOp.move (.int .i64 (((k : Nat) : Int))) rfl ?_)
 refine XL.cons (XOp.move (tv) rfl ?_)
 refine XL.cons (XOp.lenS (v := tv) (n := (t).length) Try.runUnderlying22 rfl ht.slv ?_)
 refine XL.cons (XOp.lss (a := ((k : Nat) : Int)) (b := (((t).length : Nat) : Int)) rfl rfl ?_)
 refine XL.nil ?_
 refine X.condD (p := (((k : Nat) : Int) : Int) < (((t).length : Nat) : Int)) rfl (fun h1 => ?_) (fun h1 => ?_)
 ·refine X.skip ?_
  refine X.seq ?_
  refine X.block ?_
  refine X.seq ?_
  refine X.region ?_
  refine XL.cons (XOp.assign (.int .i64 (0)) rfl ?_)
  refine XL.nil ?_
  refine X.block ?_
  refine X.loop (α := Nat × Value × List StepT × List Value × Nat × FH) (fun xQ => [(1, tv), (2, ptr b1 0), (5, xQ.2.1), (6, .int .i64 (((k : Nat) : Int))), (7, .int .i64 (((xQ.1 : Nat) : Int)))]) (fun xQ => slH 77 3 xQ.2.1 xQ.2.2.2.2.1 xQ.2.2.2.1 :: cellsH b1 [arv, rsv] 33 :: L) (fun xQ F' => xQ.2.2.2.2.2 = F' ∧ G1 ≤ xQ.2.2.2.2.2 ∧ (xQ.1 ≤ rs.length) ∧ (IsSl xQ.2.1) ∧ (StepsC xQ.2.2.2.2.2 xQ.2.2.2.1 xQ.2.2.1) ∧ (xQ.2.2.2.2.1 = xQ.2.2.1.length) ∧ (xQ.2.2.1 = stepsTo ar rs t k ++ stepsRow ar rs t k xQ.1)) (fun xQ => rs.length - xQ.1) (0, sv, ss, cs, m, G1) ⟨rfl, rfl, rfl, rfl, rfl, trivial⟩ (Sub.cons (Sub.cons (Sub.refl _))) ⟨rfl, FLe.refl _, (by (try dsimp only) <;> omega), (hsv), (hC), (hm), (by (try dsimp only); rw [hss0]; simp [stepsRow])⟩ ?_
  rintro ⟨r, sv, ss, cs, m, G2⟩ rE _ _ ⟨rfl, leG, hr, hsvi, hCi, hmi, hssi⟩
  show X _ _ _ _ (envs [(1, tv), (2, ptr b1 0), (5, sv), (6, .int .i64 (((k : Nat) : Int))), (7, .int .i64 (((r : Nat) : Int)))] rE) _ (slH 77 3 sv m cs :: cellsH b1 [arv, rsv] 33 :: L)
  replace leG : G1 ≤ G2 := leG
  dsimp only at hr hsvi hCi hmi hssi
  have hsl2 := stepsRow_len (ar := ar) (rs := rs) (t := t) (p := k) r
  have hssl : ss.length ≤ 1000 := by rw [hssi, List.length_append]; omega
  have leG2 := leG
  replace har := har.mono leG2
  replace hrs := hrs.mono leG2
  replace ht := ht.mono leG2
  replace hC := hC.mono leG2
  refine X.seq ?_
  refine X.seq ?_
  refine X.region ?_
  refine XL.cons (XOp.move (.int .i64 (((r : Nat) : Int))) rfl ?_)
  refine XL.cons (XOp.fieldP (b := b1) (1) Try.runUnderlying33 rfl Try.sizeOf31 (by decide) rfl rfl ?_)
  refine XL.cons (XOp.load1 (v := rsv) Try.isAgg31 rfl (Rd.own [_] rfl rfl) ?_)
  refine XL.cons (XOp.lenS (v := rsv) (n := (rs).length) Try.runUnderlying31 rfl hrs.slv ?_)
  refine XL.cons (XOp.lss (a := ((r : Nat) : Int)) (b := (((rs).length : Nat) : Int)) rfl rfl ?_)
  refine XL.nil ?_
  refine X.condD (p := (((r : Nat) : Int) : Int) < (((rs).length : Nat) : Int)) rfl (fun h2 => ?_) (fun h2 => ?_)
  ·refine X.skip ?_
   refine X.seq ?_
   refine X.block ?_
   refine X.seq ?_
   refine X.region ?_
   refine XL.cons (XOp.loadN [arv, rsv] Try.isAgg33 Try.sizeOf33 rfl rfl (Rd.ownN [_] rfl rfl) ?_)
   refine XL.cons (XOp.move (tv) rfl ?_)
   refine XL.cons (XOp.move (.int .i64 (((k : Nat) : Int))) rfl ?_)
   refine XL.cons (XOp.move (.int .i64 (((r : Nat) : Int))) rfl ?_)
   refine XL.cons (XOp.call (args := [.agg #[arv, rsv], tv, .int .i64 ((k : Nat) : Int), .int .i64 ((r : Nat) : Int)]) Try.call89 rfl (l7Step_spec (p := k) (r := r) har hrs ht (hsys := (by first | assumption | rfl | omega | (left; simp; done) | (right; simp; done))) (ho := (by first | assumption | rfl | omega | (left; simp; done) | (right; simp; done))) (hp := (by first | assumption | rfl | omega | (left; simp; done) | (right; simp; done))) (hr := (by first | assumption | rfl | omega | (left; simp; done) | (right; simp; done)))) ?_)
   rintro _ F1 _ le1 ⟨x1, rfl, hr1, rfl⟩
   replace har := har.mono le1
   replace hrs := hrs.mono le1
   replace ht := ht.mono le1
   replace hC := hC.mono le1
   replace hCi := hCi.mono le1
   refine XL.cons (XOp.move (.tuple #[x1, .bool ((stepL ar rs t k r).isSome)]) rfl ?_)
   refine XL.cons (XOp.extract (x1) rfl rfl ?_)
   refine XL.cons (XOp.extract (.bool ((stepL ar rs t k r).isSome)) rfl rfl ?_)
   refine XL.cons (XOp.assign (x1) rfl ?_)
   refine XL.cons (XOp.assign (.bool ((stepL ar rs t k r).isSome)) rfl ?_)
   refine XL.nil ?_
   refine X.seq ?_
   refine X.region ?_
   refine XL.cons (XOp.move (.bool ((stepL ar rs t k r).isSome)) rfl ?_)
   refine XL.nil ?_
   refine X.cond (t := (stepL ar rs t k r).isSome) rfl (fun h3 => ?_) (fun h3 => ?_)
   ·have hone : stepOne ar rs t k r = [((k : Int), (r : Int), (stepL ar rs t k r).getD [])] := (one_some h3).1
    refine X.region ?_
    refine XL.cons (XOp.move (sv) rfl ?_)
    refine XL.cons (XOp.move (.int .i64 (((k : Nat) : Int))) rfl ?_)
    refine XL.cons (XOp.move (.int .i64 (((r : Nat) : Int))) rfl ?_)
    refine XL.cons (XOp.move (x1) rfl ?_)
    refine XL.cons (XOp.build [.int .i64 (((k : Nat) : Int)), .int .i64 (((r : Nat) : Int)), x1] [.int .i64 (0), .int .i64 (0), (.slice none 0 0)] [(0, 1), (1, 1), (2, 1)] [(0, [.int .i64 (((k : Nat) : Int))]), (1, [.int .i64 (((r : Nat) : Int))]), (2, [x1])] Try.runUnderlying77 Try.zeroValue77 rfl (.cons rfl Try.sizeOf2 (.cons rfl Try.sizeOf2 (.cons rfl Try.sizeOf22 PlacesAre.nil))) rfl (.cons rfl (.cons rfl (.cons (cells_one (IntsF.isSl hr1)) CellsAre.nil))) ?_)
    refine XL.cons (XOp.buildSlice (s := 3) [.int .i64 (((k : Nat) : Int)), .int .i64 (((r : Nat) : Int)), x1] [.int .i64 (0), .int .i64 (0), (.slice none 0 0)] [(0, [.int .i64 (((k : Nat) : Int)), .int .i64 (((r : Nat) : Int)), x1])] Try.runUnderlying39 Try.sizeOf77 Try.zeroValue77 rfl (by decide) rfl (.cons rfl CellsAre.nil) rfl ?_)
    intro v2 hv2
    refine XL.cons (XOp.append (m := 1) (bytes := 40) (cs := cs) [_] _ [.int .i64 (((k : Nat) : Int)), .int .i64 (((r : Nat) : Int)), x1] Try.runUnderlying39 Try.typeInfo77 rfl rfl rfl rfl rfl rfl rfl (SlV.own [] rfl) rfl (Rd.lit [] rfl) (ones_cons rfl (ones_cons rfl (ones_cons (one_sl (IntsF.isSl hr1)) ones_nil))) (by (try simp only [List.length_append, List.length_nil, List.length_cons, List.length_singleton]); omega) (by (try simp only [List.length_append, List.length_nil, List.length_cons, List.length_singleton]); omega) ?_)
    intro v3 hs1 hn1 hm1
    have hc1 := StepsC.snoc hCi (i := ((k : Nat) : Int)) (j := ((r : Nat) : Int)) hr1
    refine XL.cons (XOp.assign (v3) rfl ?_)
    refine XL.nil ?_
    refine X.region ?_
    refine XL.cons (XOp.move (.int .i64 (((r : Nat) : Int))) rfl ?_)
    refine XL.cons (XOp.addR (a := ((r : Nat) : Int)) (b := 1) (((r + 1 : Nat) : Int)) rfl rfl (by omega) (by omega) ?_)
    refine XL.cons (XOp.assign (.int .i64 (((r + 1 : Nat) : Int))) rfl ?_)
    refine XL.nil ?_
    exact ⟨(r + 1, v3, ss ++ [(((k : Nat) : Int), ((r : Nat) : Int), (stepL ar rs t k r).getD [])], cs ++ [.int .i64 (((k : Nat) : Int)), .int .i64 (((r : Nat) : Int)), x1], (m) + 1, F1), _, (FLe.trans leG2 le1), (FLe.refl _), ⟨rfl, rfl, rfl, rfl, rfl, trivial⟩, (Sub.drop (Sub.cons (Sub.cons (Sub.refl _)))), ⟨rfl, (FLe.trans leG2 le1), (by (try dsimp only) <;> omega), (hs1), (hc1), (by (try dsimp only); (try rw [List.length_append, List.length_singleton]); omega), (by (try dsimp only); rw [hssi, stepsRow_succ, hone]; simp)⟩, (by omega)⟩
   ·have hone : stepOne ar rs t k r = [] := stepOne_no h3
    refine X.skip ?_
    refine X.region ?_
    refine XL.cons (XOp.move (.int .i64 (((r : Nat) : Int))) rfl ?_)
    refine XL.cons (XOp.addR (a := ((r : Nat) : Int)) (b := 1) (((r + 1 : Nat) : Int)) rfl rfl (by omega) (by omega) ?_)
    refine XL.cons (XOp.assign (.int .i64 (((r + 1 : Nat) : Int))) rfl ?_)
    refine XL.nil ?_
    exact ⟨(r + 1, sv, ss, cs, m, F1), _, (FLe.trans leG2 le1), (FLe.refl _), ⟨rfl, rfl, rfl, rfl, rfl, trivial⟩, (Sub.cons (Sub.cons (Sub.refl _))), ⟨rfl, (FLe.trans leG2 le1), (by (try dsimp only) <;> omega), (hsvi), (hCi), (by (try dsimp only); (try rw [List.length_append, List.length_singleton]); omega), (by (try dsimp only); rw [hssi, stepsRow_succ, hone]; simp)⟩, (by omega)⟩
  ·refine X.exit (thenQ_exit (thenQ_exit (blockQ_exit ?_)))
   refine X.region ?_
   refine XL.cons (XOp.move (.int .i64 (((k : Nat) : Int))) rfl ?_)
   refine XL.cons (XOp.addR (a := ((k : Nat) : Int)) (b := 1) (((k + 1 : Nat) : Int)) rfl rfl (by omega) (by omega) ?_)
   refine XL.cons (XOp.assign (.int .i64 (((k + 1 : Nat) : Int))) rfl ?_)
   refine XL.nil ?_
   exact ⟨(k + 1, sv, ss, cs, m, G2), _, (FLe.trans leG1 leG2), (FLe.refl _), ⟨rfl, rfl, rfl, rfl, trivial⟩, (Sub.cons (Sub.cons (Sub.refl _))), ⟨rfl, (FLe.trans leG1 leG2), (by (try dsimp only) <;> omega), (hsvi), (hCi), (hmi), (by (try dsimp only); rw [hssi, stepsTo_succ, show r = rs.length from by omega])⟩, (by omega)⟩
 ·refine X.exit (thenQ_exit (thenQ_exit (blockQ_exit ?_)))
  refine X.seq ?_
  refine X.region ?_
  refine XL.cons (XOp.move (sv) rfl ?_)
  refine XL.cons (XOp.assign (sv) rfl ?_)
  refine XL.nil ?_
  refine X.freezeF [] _ _ rfl (fun F2 le2 hz1 => ?_)
  replace har := har.mono le2
  replace hrs := hrs.mono le2
  replace ht := ht.mono le2
  replace hC := hC.mono le2
  have hf1 : StepsF F2 sv ss := CO.fz hC (by first | rfl | simp | omega) hz1.fz
  refine X.ret (retEnd (L' := L) [sv] (sv) (.tmp rfl .nil) rfl (FLe.trans leG1 le2) (FLe.refl _) (Sub.drop (Sub.refl _)) ?_)
  have e1 : stepsL ar rs t = ss := by rw [hss, show k = t.length from by omega]; rfl
  rw [e1]
  exact ⟨_, rfl, hf1, rfl⟩

/- spec.l1TermPlace -/
theorem l1TermPlace_spec {F : FH} {L : List HP} {tsv : Value} {ts : List (List Int)} (hts : RowsF F tsv ts) {xv : Value} {x : List Int} (hx : IntsF F xv x) (hlt : ts.length ≤ 4000000) (htb : ∀ i, i < ts.length → (ts.getD i []).length ≤ 4000000) (hlx : x.length ≤ 4000000) :
    Does Try.prog 68 [tsv, xv] F (L) (fun v F' L' => (.int .i64 (badG (fun y => !decide (y = x)) ts) : Value) = v ∧ F = F' ∧ L = L') := by
 refine Does.of_X Try.func68 rfl rfl rfl ?_
 refine X.seq ?_
 refine X.region ?_
 refine XL.cons (XOp.assign (.int .i64 (0)) rfl ?_)
 refine XL.nil ?_
 refine X.seq ?_
 refine X.seq ?_
 refine X.region ?_
 refine XL.cons (XOp.assign (.int .i64 (0)) rfl ?_)
 refine XL.nil ?_
 refine X.block ?_
 refine X.loop (α := Nat) (fun k => [(0, tsv), (1, xv), (5, .int .i64 (((k : Nat) : Int)))]) (fun k => L) (fun k F' => F = F' ∧ (k ≤ ts.length) ∧ (∀ i, i < k → (fun y => !decide (y = x)) (ts.getD i []) = true)) (fun k => ts.length - k) 0 ⟨rfl, rfl, rfl, trivial⟩ (Sub.refl _) ⟨rfl, (by (try dsimp only) <;> omega), (fun i hi => absurd hi (by omega))⟩ ?_
 rintro k rE _ _ ⟨rfl, hk, hall⟩
 show X _ _ _ _ (envs [(0, tsv), (1, xv), (5, .int .i64 (((k : Nat) : Int)))] rE) _ (L)
 have htbk := htb k
 refine X.seq ?_
 refine X.seq ?_
 refine X.region ?_
 refine XL.cons (XOp.move (.int .i64 (((k : Nat) : Int))) rfl ?_)
 refine XL.cons (XOp.move (tsv) rfl ?_)
 refine XL.cons (XOp.lenS (v := tsv) (n := (ts).length) Try.runUnderlying49 rfl hts.slv ?_)
 refine XL.cons (XOp.lss (a := ((k : Nat) : Int)) (b := (((ts).length : Nat) : Int)) rfl rfl ?_)
 refine XL.nil ?_
 refine X.condD (p := (((k : Nat) : Int) : Int) < (((ts).length : Nat) : Int)) rfl (fun h1 => ?_) (fun h1 => ?_)
 ·refine X.skip ?_
  refine X.seq ?_
  refine X.block ?_
  refine X.seq ?_
  refine X.region ?_
  refine XL.cons (XOp.move (tsv) rfl ?_)
  refine XL.cons (XOp.move (.int .i64 (((k : Nat) : Int))) rfl ?_)
  refine XL.cons (XOp.indexS (v := tsv) (i := ((k : Nat) : Int)) (n := (ts).length) k Try.runUnderlying49 Try.sizeOf22 rfl rfl rfl hts.slv (by omega) (Nat.mul_one _) ?_)
  obtain ⟨a1, ha1, hr1⟩ := hts.rd (i := k) (by omega)
  refine XL.cons (XOp.load1 (v := a1) Try.isAgg22 rfl (hr1 _) ?_)
  refine XL.cons (XOp.move (xv) rfl ?_)
  refine XL.cons (XOp.call (args := [a1, xv]) Try.call101 rfl (SameTerm_spec ha1 hx (hbd := (by first | assumption | rfl | omega | (left; simp; done) | (right; simp; done)))) ?_)
  rintro _ _ _ _ ⟨rfl, rfl, rfl⟩
  refine XL.nil ?_
  refine X.condD (p := ((ts.getD k [])) = x) rfl (fun h2 => ?_) (fun h2 => ?_)
  ·refine X.seq ?_
   refine X.region ?_
   refine XL.cons (XOp.move (.int .i64 (((k : Nat) : Int))) rfl ?_)
   refine XL.cons (XOp.assign (.int .i64 (((k : Nat) : Int))) rfl ?_)
   refine XL.nil ?_
   refine X.ret (blockQ_ret (thenQ_ret (thenQ_ret (blockQ_ret (thenQ_ret (retEnd (L' := L) [.int .i64 (((k : Nat) : Int))] (.int .i64 (((k : Nat) : Int))) (.tmp rfl .nil) rfl (FLe.refl _) (FLe.refl _) (Sub.refl _) ?_))))))
   exact ⟨(congrArg (Value.int .i64) (badG_at [] (by omega) (by simp_all) hall)), rfl, rfl⟩
  ·refine X.skip ?_
   refine X.region ?_
   refine XL.cons (XOp.move (.int .i64 (((k : Nat) : Int))) rfl ?_)
   refine XL.cons (XOp.addR (a := ((k : Nat) : Int)) (b := 1) (((k + 1 : Nat) : Int)) rfl rfl (by omega) (by omega) ?_)
   refine XL.cons (XOp.assign (.int .i64 (((k + 1 : Nat) : Int))) rfl ?_)
   refine XL.nil ?_
   exact ⟨k + 1, _, FLe.refl _, (FLe.refl _), ⟨rfl, rfl, rfl, trivial⟩, (Sub.refl _), ⟨rfl, (by (try dsimp only) <;> omega), (fun i hi => (Nat.lt_or_ge i k).elim (fun h => hall i h) (fun h => by obtain rfl : i = k := (by omega); simp_all))⟩, (by omega)⟩
 ·refine X.exit (thenQ_exit (thenQ_exit (blockQ_exit ?_)))
  refine X.seq ?_
  refine X.region ?_
  refine XL.cons (XOp.assign (.int .i64 (-1)) rfl ?_)
  refine XL.nil ?_
  refine X.ret (retEnd (L' := L) [.int .i64 (-1)] (.int .i64 (-1)) (.tmp rfl .nil) rfl (FLe.refl _) (FLe.refl _) (Sub.refl _) ?_)
  exact ⟨(congrArg (Value.int .i64) (badG_none [] (fun i hi => hall i (by omega)))), rfl, rfl⟩

/- spec.l9Right -/
theorem l9Right_spec {F : FH} {L : List HP} {arv : Value} {ar : List Int} (har : IntsF F arv ar) {rsv : Value} {rs : List (List Int × List Int)} (hrs : PairsF F rsv rs) {tv : Value} {t : List Int} (ht : IntsF F tv t) {n : Int} (hla : ar.length ≤ 4000000) (hlr : rs.length ≤ 4000000) (hrb : ∀ i, i < rs.length → (rs.getD i ([], [])).1.length ≤ 4000000 ∧ (rs.getD i ([], [])).2.length ≤ 4000000) (hlt : t.length ≤ 4000000) :
    Does Try.prog 48 [.agg #[arv, rsv], tv, .int .i64 (n)] F (L) (fun v F' L' => (.bool (reachOkL ar rs n [t]) : Value) = v ∧ F = F' ∧ L = L') := by
 refine Does.of_X Try.func48 rfl rfl rfl ?_
 refine X.seq ?_
 refine X.region ?_
 refine XL.cons (XOp.box [arv, rsv] rfl rfl ?_)
 intro b1
 refine XL.cons (XOp.assign (.bool (false)) rfl ?_)
 refine XL.nil ?_
 refine X.seq ?_
 refine X.region ?_
 refine XL.cons (XOp.loadN [arv, rsv] Try.isAgg33 Try.sizeOf33 rfl rfl (Rd.ownN [] rfl rfl) ?_)
 refine XL.cons (XOp.move (tv) rfl ?_)
 refine XL.cons (XOp.call (args := [.agg #[arv, rsv], tv]) Try.call53 rfl (l7Right_spec har hrs ht (hla := (by first | assumption | rfl | omega | (left; simp; done) | (right; simp; done))) (hlr := (by first | assumption | rfl | omega | (left; simp; done) | (right; simp; done))) (hrb := (by first | assumption | rfl | omega | (left; simp; done) | (right; simp; done))) (hlt := (by first | assumption | rfl | omega | (left; simp; done) | (right; simp; done)))) ?_)
 rintro _ _ _ _ ⟨rfl, rfl, rfl⟩
 refine XL.cons (XOp.move (.bool (rightB ar rs t)) rfl ?_)
 by_cases h1 : (rightB ar rs t) = true
 ·refine XL.yes (t := 10) rfl (congrArg Value.bool h1) (XOp.move (.int .i64 (n)) rfl ?_)
  refine XL.yes (t := 10) rfl (congrArg Value.bool h1) (XOp.call (args := [.int .i64 (n), .int .i64 (0), .int .i64 (20)]) Try.call81 rfl (l1In_spec (n := n) (a := 0) (b := 20)) ?_)
  rintro _ _ _ _ ⟨rfl, rfl, rfl⟩
  refine XL.cons (XOp.pickT (.bool (decide (0 ≤ n ∧ n ≤ 20))) (congrArg Value.bool h1) rfl ?_)
  refine XL.cons (XOp.assign (.bool (decide (0 ≤ n ∧ n ≤ 20))) rfl ?_)
  refine XL.nil ?_
  refine X.ret (retEnd (L' := L) [.bool (decide (0 ≤ n ∧ n ≤ 20))] (.bool (decide (0 ≤ n ∧ n ≤ 20))) (.tmp rfl .nil) rfl (FLe.refl _) (FLe.refl _) (Sub.drop (Sub.refl _)) ?_)
  exact ⟨(congrArg Value.bool (by rw [reachOk_right]; simp_all)), rfl, rfl⟩
 ·rw [Bool.not_eq_true] at h1
  refine XL.no (t := 10) rfl (congrArg Value.bool h1) ?_
  refine XL.no (t := 10) rfl (congrArg Value.bool h1) ?_
  refine XL.cons (XOp.pickF (.bool (false)) (congrArg Value.bool h1) rfl ?_)
  refine XL.cons (XOp.assign (.bool (false)) rfl ?_)
  refine XL.nil ?_
  refine X.ret (retEnd (L' := L) [.bool (false)] (.bool (false)) (.tmp rfl .nil) rfl (FLe.refl _) (FLe.refl _) (Sub.drop (Sub.refl _)) ?_)
  exact ⟨(congrArg Value.bool (by rw [reachOk_right]; simp_all)), rfl, rfl⟩

/- spec.l9Find -/
set_option maxHeartbeats 1000000 in
set_option maxRecDepth 20000 in
theorem l9Find_spec {F : FH} {L : List HP} {arv : Value} {ar : List Int} (har : IntsF F arv ar) {rsv : Value} {rs : List (List Int × List Int)} (hrs : PairsF F rsv rs) {tv : Value} {t : List Int} (ht : IntsF F tv t) {n : Int} (hsys : sysOk ar rs = true) (ho : termOk ar t = true) (hn20 : 0 ≤ n ∧ n ≤ 20) :
    Does Try.prog 64 [.agg #[arv, rsv], tv, .int .i64 (n)] F (L) (fun v F' L' => ∃ (x1 : Value), ∃ (x2 : Value), ∃ (x3 : Value), ∃ (x4 : Value), (.agg #[x1, x2, x3, x4, .bool ((reachL ar rs t n).2)] : Value) = v ∧ (RowsF F' x1 (terms (reachL ar rs t n).1)) ∧ (IntsF F' x2 (froms (reachL ar rs t n).1)) ∧ (StepsF F' x3 (bys (reachL ar rs t n).1)) ∧ (IntsF F' x4 (deeps (reachL ar rs t n).1)) ∧ L = L') := by
 refine Does.of_X Try.func64 rfl rfl rfl ?_
 have hnn := notNil_of_pos ht (by have := termOk_len ho; omega)
 have htl := termOk_len ho
 have hrl := (sysOk_iff.1 hsys).2.1
 have hsig := (sysOk_iff.1 hsys).1
 have hsl := sigOk_spec hsig
 refine X.seq ?_
 refine X.region ?_
 refine XL.cons (XOp.box [arv, rsv] rfl rfl ?_)
 intro b1
 refine XL.cons (XOp.alloc [(.slice none 0 0), (.slice none 0 0), (.slice none 0 0), (.slice none 0 0), .bool (false)] Try.zeroValue85 rfl ?_)
 intro b2
 refine XL.nil ?_
 refine X.seq ?_
 refine X.region ?_
 refine XL.cons (XOp.move (tv) rfl ?_)
 refine XL.cons (XOp.frzF <| XOp.call (args := [tv]) Try.call49 rfl (l1Copy_spec ht (hlt := (by first | assumption | rfl | omega | (left; simp; done) | (right; simp; done)))) ?_)
 rintro v1 _ _ _ ⟨rfl, hs1, rfl⟩
 refine ⟨_, _, rfl, fun F1 le1 hz1 => ?_⟩
 replace har := har.mono le1
 replace hrs := hrs.mono le1
 replace ht := ht.mono le1
 have hf1 : IntsF F1 v1 ((t)) := intsH.fz (xs := (t)) hz1.fz
 refine XL.cons (XOp.buildSlice (s := 1) [v1] [(.slice none 0 0)] [(0, [v1])] Try.runUnderlying49 Try.sizeOf22 Try.zeroValue22 rfl (by decide) rfl (.cons (cells_one (IntsF.isSl hf1)) CellsAre.nil) rfl ?_)
 intro v2 hv1
 refine XL.cons (XOp.buildSlice (s := 1) [.int .i64 (-1)] [.int .i64 (0)] [(0, [.int .i64 (-1)])] Try.runUnderlying22 Try.sizeOf2 Try.zeroValue2 rfl (by decide) rfl (.cons rfl CellsAre.nil) rfl ?_)
 intro v3 hv2
 refine XL.cons (XOp.build [.int .i64 (0), .int .i64 (0), (.slice none 0 0)] [.int .i64 (0), .int .i64 (0), (.slice none 0 0)] [(0, 1), (1, 1), (2, 1)] [] Try.runUnderlying77 Try.zeroValue77 rfl (.cons rfl Try.sizeOf2 (.cons rfl Try.sizeOf2 (.cons rfl Try.sizeOf22 PlacesAre.nil))) rfl CellsAre.nil ?_)
 refine XL.cons (XOp.buildSlice (s := 3) [.int .i64 (0), .int .i64 (0), (.slice none 0 0)] [.int .i64 (0), .int .i64 (0), (.slice none 0 0)] [(0, [.int .i64 (0), .int .i64 (0), (.slice none 0 0)])] Try.runUnderlying39 Try.sizeOf77 Try.zeroValue77 rfl (by decide) rfl (.cons rfl CellsAre.nil) rfl ?_)
 intro v4 hv3
 refine XL.cons (XOp.buildSlice (s := 1) [.int .i64 (0)] [.int .i64 (0)] [(0, [.int .i64 (0)])] Try.runUnderlying22 Try.sizeOf2 Try.zeroValue2 rfl (by decide) rfl (.cons rfl CellsAre.nil) rfl ?_)
 intro v5 hv4
 refine XL.cons (XOp.build [v2, v3, v4, v5, .bool (true)] [(.slice none 0 0), (.slice none 0 0), (.slice none 0 0), (.slice none 0 0), .bool (false)] [(0, 1), (1, 1), (2, 1), (3, 1), (4, 1)] [(0, [v2]), (1, [v3]), (2, [v4]), (3, [v5]), (4, [.bool (true)])] Try.runUnderlying85 Try.zeroValue85 rfl (.cons rfl Try.sizeOf49 (.cons rfl Try.sizeOf22 (.cons rfl Try.sizeOf39 (.cons rfl Try.sizeOf22 (.cons rfl Try.sizeOf4 PlacesAre.nil))))) rfl (.cons (cells_one (isSl_lit hv1)) (.cons (cells_one (isSl_lit hv2)) (.cons (cells_one (isSl_lit hv3)) (.cons (cells_one (isSl_lit hv4)) (.cons rfl CellsAre.nil))))) ?_)
 refine XL.cons (XOp.alloc [(.slice none 0 0), (.slice none 0 0), (.slice none 0 0), (.slice none 0 0), .bool (false)] Try.zeroValue85 rfl ?_)
 intro b3
 refine XL.cons (XOp.storeN (vs := [v2, v3, v4, v5, .bool (true)]) [] _ [v2, v3, v4, v5, .bool (true)] Try.sizeOf85 rfl rfl rfl (ones_cons (one_sl (isSl_lit hv1)) (ones_cons (one_sl (isSl_lit hv2)) (ones_cons (one_sl (isSl_lit hv3)) (ones_cons (one_sl (isSl_lit hv4)) (ones_cons rfl ones_nil))))) rfl rfl rfl ?_)
 refine XL.nil ?_
 refine X.seq ?_
 refine X.seq ?_
 refine X.region ?_
 refine XL.cons (XOp.assign (.int .i64 (0)) rfl ?_)
 refine XL.nil ?_
 refine X.block ?_
 have hc1 : RowsC F1 [v1] ([(t)] : List (List Int)) := (RowsC.snoc (CO.nil : RowsC F1 [] []) hf1)
 show X _ _ _ _ _ _ (cellsH b3 [v2, v3, v4, v5, .bool (true)] 85 :: slH 2 1 v5 1 [.int .i64 (0)] :: slH 77 3 v4 1 [.int .i64 (0), .int .i64 (0), (.slice none 0 0)] :: intsH 2 v3 ([-1] : List Int) :: slH 22 1 v2 1 ([v1]) :: cellsH b2 [(.slice none 0 0), (.slice none 0 0), (.slice none 0 0), (.slice none 0 0), .bool (false)] 85 :: cellsH b1 [arv, rsv] 33 :: L)
 have hc2 : StepsC F1 [.int .i64 (0), .int .i64 (0), (.slice none 0 0)] ([(0, 0, [])] : List StepT) := (StepsC.snoc (CO.nil : StepsC F1 [] []) (i := 0) (j := 0) IntsF.nilV)
 show X _ _ _ _ _ _ (cellsH b3 [v2, v3, v4, v5, .bool (true)] 85 :: intsH 2 v5 ([0] : List Int) :: slH 77 3 v4 1 ([.int .i64 (0), .int .i64 (0), (.slice none 0 0)]) :: intsH 2 v3 ([-1] : List Int) :: slH 22 1 v2 1 ([v1]) :: cellsH b2 [(.slice none 0 0), (.slice none 0 0), (.slice none 0 0), (.slice none 0 0), .bool (false)] 85 :: cellsH b1 [arv, rsv] 33 :: L)
 refine X.loop (α := Nat × List FoundT × Value × RowL × List Value × Nat × Value × List Int × Value × List StepT × List Value × Nat × Value × List Int × FH) (fun xQ => [(2, .int .i64 (n)), (3, ptr b1 0), (6, ptr b2 0), (7, ptr b3 0), (8, .int .i64 (((xQ.1 : Nat) : Int)))]) (fun xQ => slH 22 1 xQ.2.2.1 xQ.2.2.2.2.2.1 xQ.2.2.2.2.1 :: intsH 2 xQ.2.2.2.2.2.2.1 xQ.2.2.2.2.2.2.2.1 :: slH 77 3 xQ.2.2.2.2.2.2.2.2.1 xQ.2.2.2.2.2.2.2.2.2.2.2.1 xQ.2.2.2.2.2.2.2.2.2.2.1 :: intsH 2 xQ.2.2.2.2.2.2.2.2.2.2.2.2.1 xQ.2.2.2.2.2.2.2.2.2.2.2.2.2.1 :: cellsH b3 [xQ.2.2.1, xQ.2.2.2.2.2.2.1, xQ.2.2.2.2.2.2.2.2.1, xQ.2.2.2.2.2.2.2.2.2.2.2.2.1, .bool (true)] 85 :: cellsH b2 [(.slice none 0 0), (.slice none 0 0), (.slice none 0 0), (.slice none 0 0), .bool (false)] 85 :: cellsH b1 [arv, rsv] 33 :: L) (fun xQ F' => xQ.2.2.2.2.2.2.2.2.2.2.2.2.2.2 = F' ∧ F1 ≤ xQ.2.2.2.2.2.2.2.2.2.2.2.2.2.2 ∧ (IsSl xQ.2.2.1) ∧ (IsSl xQ.2.2.2.2.2.2.1) ∧ (IsSl xQ.2.2.2.2.2.2.2.2.1) ∧ (IsSl xQ.2.2.2.2.2.2.2.2.2.2.2.2.1) ∧ (RowsC xQ.2.2.2.2.2.2.2.2.2.2.2.2.2.2 xQ.2.2.2.2.1 xQ.2.2.2.1) ∧ (StepsC xQ.2.2.2.2.2.2.2.2.2.2.2.2.2.2 xQ.2.2.2.2.2.2.2.2.2.2.1 xQ.2.2.2.2.2.2.2.2.2.1) ∧ (xQ.2.2.2.2.2.1 = xQ.2.2.2.1.length) ∧ (xQ.2.2.2.2.2.2.2.2.2.2.2.1 = xQ.2.2.2.2.2.2.2.2.2.1.length) ∧ (xQ.2.2.2.1 = terms xQ.2.1) ∧ (xQ.2.2.2.2.2.2.2.1 = froms xQ.2.1) ∧ (xQ.2.2.2.2.2.2.2.2.2.1 = bys xQ.2.1) ∧ (xQ.2.2.2.2.2.2.2.2.2.2.2.2.2.1 = deeps xQ.2.1) ∧ (xQ.2.1.length ≤ 60) ∧ (AllOk ar xQ.2.1) ∧ (DeepOk n xQ.2.1) ∧ (xQ.1 ≤ xQ.2.1.length) ∧ (reachL ar rs t n = reachGo ar rs n (60 - xQ.1) xQ.1 xQ.2.1)) (fun xQ => 60 - xQ.1) (0, start0 t, v2, ([(t)] : List (List Int)), [v1], 1, v3, [-1], v4, ([(0, 0, [])] : List StepT), [.int .i64 (0), .int .i64 (0), (.slice none 0 0)], 1, v5, [0], F1) ⟨rfl, rfl, rfl, rfl, rfl, trivial⟩ (Sub.trans (Sub.front (A := [_, _, _, _, _, _])) (Sub.trans (Sub.front (A := [_, _, _, _, _, _])) (Sub.trans (Sub.front (A := [_, _])) (Sub.trans (Sub.front (A := [_, _, _])) (Sub.trans (Sub.front (A := [_, _, _, _])) (Sub.trans (Sub.front (A := [_, _, _, _, _])) (Sub.trans (Sub.front (A := [_, _, _, _, _, _])) (Sub.cons (Sub.cons (Sub.cons (Sub.cons (Sub.cons (Sub.cons (Sub.cons (Sub.refl _))))))))))))))) ⟨rfl, FLe.refl _, ((isSl_lit hv1)), ((isSl_lit hv2)), ((isSl_lit hv3)), ((isSl_lit hv4)), (hc1), (hc2), (rfl), (rfl), (rfl), (rfl), (rfl), (rfl), (by simp [start0]), (AllOk.start ho), (DeepOk.start hn20.1), (by simp), (rfl)⟩ ?_
 rintro ⟨k, os, av, ts, acs, an, bv, fs, cv, bs, ccs, cn, dv, ds, G1⟩ rE _ _ ⟨rfl, leG, hav, hbv, hcv, hdv, hA, hB, han, hcn, hts, hfs, hbs, hds, hl, hok, hdo, hk, hgo⟩
 show X _ _ _ _ (envs [(2, .int .i64 (n)), (3, ptr b1 0), (6, ptr b2 0), (7, ptr b3 0), (8, .int .i64 (((k : Nat) : Int)))] rE) _ (slH 22 1 av an acs :: intsH 2 bv fs :: slH 77 3 cv cn ccs :: intsH 2 dv ds :: cellsH b3 [av, bv, cv, dv, .bool (true)] 85 :: cellsH b2 [(.slice none 0 0), (.slice none 0 0), (.slice none 0 0), (.slice none 0 0), .bool (false)] 85 :: cellsH b1 [arv, rsv] 33 :: L)
 replace leG : F1 ≤ G1 := leG
 dsimp only at hav hbv hcv hdv hA hB han hcn hts hfs hbs hds hl hok hdo hk hgo
 have htl9 : ts.length = os.length := by rw [hts]; exact terms_len
 have hfl9 : fs.length = os.length := by rw [hfs]; exact froms_len
 have hbl9 : bs.length = os.length := by rw [hbs]; exact bys_len
 have hdl9 : ds.length = os.length := by rw [hds]; exact deeps_len
 have hdk := fun (h : k < os.length) => hok k h
 have hdl := fun (h : k < os.length) => termOk_len (hok k h)
 have hEt : ts.getD k [] = (EL os k).1 := by rw [hts]; exact terms_get k
 have hEd := fun (h : k < os.length) => (show ds.getD k 0 = (EL os k).2.2.2 from by rw [hds]; exact deeps_get h)
 have leG1 := leG
 replace har := har.mono leG1
 replace hrs := hrs.mono leG1
 replace ht := ht.mono leG1
 replace hf1 := hf1.mono leG1
 replace hc1 := hc1.mono leG1
 replace hc2 := hc2.mono leG1
 refine X.seq ?_
 refine X.seq ?_
 refine X.region ?_
 refine XL.cons (XOp.move (.int .i64 (((k : Nat) : Int))) rfl ?_)
 refine XL.cons (XOp.fieldP (b := b3) (0) Try.runUnderlying85 rfl Try.sizeOf49 (by decide) rfl rfl ?_)
 refine XL.cons (XOp.load1 (v := av) Try.isAgg49 rfl (Rd.own [_, _, _, _] rfl rfl) ?_)
 refine XL.cons (XOp.lenS (v := av) (n := an) Try.runUnderlying49 rfl (SlV.own [] rfl) ?_)
 refine XL.cons (XOp.lss (a := ((k : Nat) : Int)) (b := ((an : Nat) : Int)) rfl rfl ?_)
 refine XL.nil ?_
 refine X.condD (p := (((k : Nat) : Int) : Int) < ((an : Nat) : Int)) rfl (fun h1 => ?_) (fun h1 => ?_)
 ·refine X.skip ?_
  refine X.seq ?_
  refine X.block ?_
  refine X.seq ?_
  refine X.seq ?_
  refine X.region ?_
  refine XL.cons (XOp.fieldP (b := b3) (3) Try.runUnderlying85 rfl Try.sizeOf22 (by decide) rfl rfl ?_)
  refine XL.cons (XOp.load1 (v := dv) Try.isAgg22 rfl (Rd.own [_, _, _, _] rfl rfl) ?_)
  refine XL.cons (XOp.move (.int .i64 (((k : Nat) : Int))) rfl ?_)
  refine XL.cons (XOp.indexS (v := dv) (i := ((k : Nat) : Int)) (n := (ds).length) k Try.runUnderlying22 Try.sizeOf2 rfl rfl rfl (intsH.slv [_, _, _] rfl) (by omega) (Nat.mul_one _) ?_)
  refine XL.cons (XOp.load1 (v := .int .i64 (ds.getD k 0)) Try.isAgg2 rfl (intsH.rd [_, _, _] rfl (by omega)) ?_)
  refine XL.cons (XOp.move (.int .i64 (n)) rfl ?_)
  refine XL.cons (XOp.eql (a := ds.getD k 0) (b := n) rfl rfl ?_)
  refine XL.nil ?_
  refine X.condD (p := (ds.getD k 0 : Int) = n) rfl (fun h2 => ?_) (fun h2 => ?_)
  ·have hdeep : (EL os k).2.2.2 = n := by rw [← hEd (by omega)]; exact h2
   refine X.exit (thenQ_exit (blockQ_exit ?_))
   refine X.region ?_
   refine XL.cons (XOp.move (.int .i64 (((k : Nat) : Int))) rfl ?_)
   refine XL.cons (XOp.addR (a := ((k : Nat) : Int)) (b := 1) (((k + 1 : Nat) : Int)) rfl rfl (by omega) (by omega) ?_)
   refine XL.cons (XOp.assign (.int .i64 (((k + 1 : Nat) : Int))) rfl ?_)
   refine XL.nil ?_
   exact ⟨(k + 1, os, av, ts, acs, an, bv, fs, cv, bs, ccs, cn, dv, ds, G1), _, leG1, (FLe.refl _), ⟨rfl, rfl, rfl, rfl, rfl, trivial⟩, (Sub.cons (Sub.cons (Sub.cons (Sub.cons (Sub.cons (Sub.cons (Sub.cons (Sub.refl _)))))))), ⟨rfl, leG1, (hav), (hbv), (hcv), (hdv), (hA), (hB), (han), (hcn), (hts), (hfs), (hbs), (hds), (hl), (hok), (hdo), (by (try dsimp only) <;> omega), (by (try dsimp only); exact hgo.trans (reach_same (f := 60 - k - 1) (by omega) (by omega) hdeep))⟩, (by (try dsimp only); omega)⟩
  ·have hdeep : (EL os k).2.2.2 ≠ n := by rw [← hEd (by omega)]; exact h2
   refine X.skip ?_
   refine X.seq ?_
   obtain ⟨a1, ha1, he1⟩ := hA.get (i := k) (by omega)
   refine X.draw [slH 22 1 av an acs, intsH 2 bv fs, slH 77 3 cv cn ccs, intsH 2 dv ds, cellsH b3 [av, bv, cv, dv, .bool (true)] 85, cellsH b2 [(.slice none 0 0), (.slice none 0 0), (.slice none 0 0), (.slice none 0 0), .bool (false)] 85, cellsH b1 [arv, rsv] 33] L 6 [[], [], [], [], [], []] [[], [], [1], [], [2, 3], [4]] (phiL [fun us v => v = (.agg #[arv, rsv] : Value), fun us v => v = ptr b3 0, fun us v => v = av, fun us v => v = (.int .i64 (((k : Nat) : Int)) : Value), fun us v => v = (.pointer (some (elemA av (k))) : Value), fun us v => v = a1]) (ownL [fun us v => [], fun us v => [], fun us v => [], fun us v => [], fun us v => [], fun us v => []]) mixed rfl rfl (by kernel_rfl) ?_ ?_
   ·refine stepsP.cons (fun vals R hpZ => ?_) ?_
    ·refine XG.op (XOp.loadN [arv, rsv] Try.isAgg33 Try.sizeOf33 rfl rfl (Rd.ownN [_, _, _, _, _, _] rfl rfl) ?_)
     exact ⟨rfl, rfl, rfl⟩
    refine stepsP.cons (fun vals R hpZ => ?_) ?_
    ·refine XG.op (XOp.fieldP (b := b3) (0) Try.runUnderlying85 rfl Try.sizeOf49 (by decide) rfl rfl ?_)
     exact ⟨rfl, rfl, rfl⟩
    refine stepsP.cons (fun vals R hpZ => ?_) ?_
    ·rw [(envs_of_sat (l := [(1, ptr b3 0)]) ⟨hpZ 1 (by decide), trivial⟩).symm]
     refine XG.op (XOp.load1 (v := av) Try.isAgg49 rfl (Rd.own [_, _, _, _] rfl rfl) ?_)
     exact ⟨rfl, rfl, rfl⟩
    refine stepsP.cons (fun vals R hpZ => ?_) ?_
    ·refine XG.op (XOp.move (.int .i64 (((k : Nat) : Int))) rfl ?_)
     exact ⟨rfl, rfl, rfl⟩
    refine stepsP.cons (fun vals R hpZ => ?_) ?_
    ·rw [(envs_of_sat (l := [(2, av), (3, (.int .i64 (((k : Nat) : Int)) : Value))]) ⟨hpZ 2 (by decide), hpZ 3 (by decide), trivial⟩).symm]
     refine XG.op (XOp.indexS (v := av) (i := ((k : Nat) : Int)) (n := an) k Try.runUnderlying49 Try.sizeOf22 rfl rfl rfl (SlV.own [] rfl) (by omega) (Nat.mul_one _) ?_)
     exact ⟨rfl, rfl, rfl⟩
    refine stepsP.cons (fun vals R hpZ => ?_) ?_
    ·rw [(envs_of_sat (l := [(4, (.pointer (some (elemA av (k))) : Value))]) ⟨hpZ 4 (by decide), trivial⟩).symm]
     refine XG.op (XOp.load1 (v := a1) Try.isAgg22 rfl (Rd.sl [] rfl he1) ?_)
     exact ⟨rfl, rfl, rfl⟩
    exact stepsP.nil
   ·intro vals hphi
    have e0 : vals 0 = (.agg #[arv, rsv] : Value) := hphi 0 (by decide)
    have e1 : vals 1 = ptr b3 0 := hphi 1 (by decide)
    have e2 : vals 2 = av := hphi 2 (by decide)
    have e3 : vals 3 = (.int .i64 (((k : Nat) : Int)) : Value) := hphi 3 (by decide)
    have e4 : vals 4 = (.pointer (some (elemA av (k))) : Value) := hphi 4 (by decide)
    have e5 : vals 5 = a1 := hphi 5 (by decide)
    rw [(envs_of_sat (l := [(0, (.agg #[arv, rsv] : Value)), (1, ptr b3 0), (2, av), (3, (.int .i64 (((k : Nat) : Int)) : Value)), (4, (.pointer (some (elemA av (k))) : Value)), (5, a1)]) ⟨e0, e1, e2, e3, e4, e5, trivial⟩).symm]
    show XL _ _ _ _ _ _ _ (slH 22 1 av an acs :: intsH 2 bv fs :: slH 77 3 cv cn ccs :: intsH 2 dv ds :: cellsH b3 [av, bv, cv, dv, .bool (true)] 85 :: cellsH b2 [(.slice none 0 0), (.slice none 0 0), (.slice none 0 0), (.slice none 0 0), .bool (false)] 85 :: cellsH b1 [arv, rsv] 33 :: L)
    refine XL.cons (XOp.call (args := [.agg #[arv, rsv], a1]) Try.call82 rfl (l7Steps_spec har hrs ha1 (hsys := (hsys)) (ho := (by rw [hEt]; exact hdk (by omega)))) ?_)
    rintro _ F2 _ le2 ⟨x1, rfl, hr1, rfl⟩
    replace har := har.mono le2
    replace hrs := hrs.mono le2
    replace ht := ht.mono le2
    replace hf1 := hf1.mono le2
    replace hc1 := hc1.mono le2
    replace hc2 := hc2.mono le2
    replace hA := hA.mono le2
    replace hB := hB.mono le2
    replace ha1 := ha1.mono le2
    refine XL.cons (XOp.assign (x1) rfl ?_)
    refine XL.nil ?_
    refine X.seq ?_
    refine X.region ?_
    have hk7 : k < os.length := by omega
    obtain ⟨nx, hnx⟩ : ∃ nx, stepsL ar rs (ts.getD k []) = nx := ⟨_, rfl⟩
    rw [hnx] at hr1
    obtain ⟨os0, hos0⟩ : ∃ o, o = os := ⟨_, rfl⟩
    have hdeep0 := hdeep
    have hgo0 := hgo
    rw [← hos0] at hdeep0 hgo0
    have hnx0 : stepsL ar rs (EL os0 k).1 = nx := by rw [hos0, ← hEt]; exact hnx
    have hdk0 := hdk hk7
    have hdo0 := hdo k hk7
    have hl0 : os0.length ≤ 60 := by rw [hos0]; exact hl
    rw [← hos0] at hdk0 hdo0
    have hk70 := hk7
    rw [← hos0] at hk70
    have hnxo : ∀ i, i < nx.length → termOk ar (nx.getD i (0, 0, [])).2.2 = true := fun i hi => by rw [← hnx0] at hi ⊢; exact steps_ok hsys hdk0 hi
    have hnxl : nx.length ≤ 1000 := by have h9 := stepsTo_len (ar := ar) (t := (EL os0 k).1) (rs := rs) hrl (EL os0 k).1.length; have h8 := termOk_len hdk0; rw [← hnx0]; show (stepsTo ar rs (EL os0 k).1 (EL os0 k).1.length).length ≤ 1000; omega
    skip
    refine XL.cons (XOp.assign (.int .i64 (0)) rfl ?_)
    refine XL.nil ?_
    refine X.block ?_
    refine X.loop (α := Nat × List FoundT × Value × RowL × List Value × Nat × Value × List Int × Value × List StepT × List Value × Nat × Value × List Int × FH) (fun xQ => [(2, .int .i64 (n)), (3, ptr b1 0), (6, ptr b2 0), (7, ptr b3 0), (8, .int .i64 (((k : Nat) : Int))), (9, x1), (10, .int .i64 (((xQ.1 : Nat) : Int)))]) (fun xQ => slH 22 1 xQ.2.2.1 xQ.2.2.2.2.2.1 xQ.2.2.2.2.1 :: intsH 2 xQ.2.2.2.2.2.2.1 xQ.2.2.2.2.2.2.2.1 :: slH 77 3 xQ.2.2.2.2.2.2.2.2.1 xQ.2.2.2.2.2.2.2.2.2.2.2.1 xQ.2.2.2.2.2.2.2.2.2.2.1 :: intsH 2 xQ.2.2.2.2.2.2.2.2.2.2.2.2.1 xQ.2.2.2.2.2.2.2.2.2.2.2.2.2.1 :: cellsH b3 [xQ.2.2.1, xQ.2.2.2.2.2.2.1, xQ.2.2.2.2.2.2.2.2.1, xQ.2.2.2.2.2.2.2.2.2.2.2.2.1, .bool (true)] 85 :: cellsH b2 [(.slice none 0 0), (.slice none 0 0), (.slice none 0 0), (.slice none 0 0), .bool (false)] 85 :: cellsH b1 [arv, rsv] 33 :: L) (fun xQ F' => xQ.2.2.2.2.2.2.2.2.2.2.2.2.2.2 = F' ∧ F2 ≤ xQ.2.2.2.2.2.2.2.2.2.2.2.2.2.2 ∧ (IsSl xQ.2.2.1) ∧ (IsSl xQ.2.2.2.2.2.2.1) ∧ (IsSl xQ.2.2.2.2.2.2.2.2.1) ∧ (IsSl xQ.2.2.2.2.2.2.2.2.2.2.2.2.1) ∧ (RowsC xQ.2.2.2.2.2.2.2.2.2.2.2.2.2.2 xQ.2.2.2.2.1 xQ.2.2.2.1) ∧ (StepsC xQ.2.2.2.2.2.2.2.2.2.2.2.2.2.2 xQ.2.2.2.2.2.2.2.2.2.2.1 xQ.2.2.2.2.2.2.2.2.2.1) ∧ (xQ.2.2.2.2.2.1 = xQ.2.2.2.1.length) ∧ (xQ.2.2.2.2.2.2.2.2.2.2.2.1 = xQ.2.2.2.2.2.2.2.2.2.1.length) ∧ (xQ.2.2.2.1 = terms xQ.2.1) ∧ (xQ.2.2.2.2.2.2.2.1 = froms xQ.2.1) ∧ (xQ.2.2.2.2.2.2.2.2.2.1 = bys xQ.2.1) ∧ (xQ.2.2.2.2.2.2.2.2.2.2.2.2.2.1 = deeps xQ.2.1) ∧ (xQ.2.1.length ≤ 60) ∧ (AllOk ar xQ.2.1) ∧ (DeepOk n xQ.2.1) ∧ (xQ.1 ≤ nx.length) ∧ (k < xQ.2.1.length) ∧ (EL xQ.2.1 k = EL os0 k) ∧ (addGo (k : Int) (EL os0 k).2.2.2 nx os0 = addGo (k : Int) (EL os0 k).2.2.2 (nx.drop xQ.1) xQ.2.1)) (fun xQ => nx.length - xQ.1) (0, os, av, ts, acs, an, bv, fs, cv, bs, ccs, cn, dv, ds, F2) ⟨rfl, rfl, rfl, rfl, rfl, rfl, rfl, trivial⟩ (Sub.cons (Sub.cons (Sub.cons (Sub.cons (Sub.cons (Sub.cons (Sub.cons (Sub.refl _)))))))) ⟨rfl, FLe.refl _, (hav), (hbv), (hcv), (hdv), (hA), (hB), (han), (hcn), (hts), (hfs), (hbs), (hds), (hl), (hok), (hdo), (by (try dsimp only) <;> omega), (by (try dsimp only); omega), (by (try dsimp only); rw [hos0]), (by (try dsimp only); rw [hos0]; rfl)⟩ ?_
    rintro ⟨q, os, av, ts, acs, an, bv, fs, cv, bs, ccs, cn, dv, ds, G2⟩ rE _ _ ⟨rfl, leG, havi, hbvi, hcvi, hdvi, hAi, hBi, hani, hcni, htsi, hfsi, hbsi, hdsi, hli, hoki, hdoi, hq, hkp, hel, hgoi⟩
    show X _ _ _ _ (envs [(2, .int .i64 (n)), (3, ptr b1 0), (6, ptr b2 0), (7, ptr b3 0), (8, .int .i64 (((k : Nat) : Int))), (9, x1), (10, .int .i64 (((q : Nat) : Int)))] rE) _ (slH 22 1 av an acs :: intsH 2 bv fs :: slH 77 3 cv cn ccs :: intsH 2 dv ds :: cellsH b3 [av, bv, cv, dv, .bool (true)] 85 :: cellsH b2 [(.slice none 0 0), (.slice none 0 0), (.slice none 0 0), (.slice none 0 0), .bool (false)] 85 :: cellsH b1 [arv, rsv] 33 :: L)
    replace leG : F2 ≤ G2 := leG
    dsimp only at havi hbvi hcvi hdvi hAi hBi hani hcni htsi hfsi hbsi hdsi hli hoki hdoi hq hkp hel hgoi
    have htl9i : ts.length = os.length := by rw [htsi]; exact terms_len
    have hfl9i : fs.length = os.length := by rw [hfsi]; exact froms_len
    have hbl9i : bs.length = os.length := by rw [hbsi]; exact bys_len
    have hdl9i : ds.length = os.length := by rw [hdsi]; exact deeps_len
    have hsok := fun (h : q < nx.length) => termOk_len (hnxo q h)
    have hdk9 : ds.getD k 0 = (EL os0 k).2.2.2 := by rw [hdsi, deeps_get hkp, hel]
    have leG2 := leG
    replace har := har.mono leG2
    replace hrs := hrs.mono leG2
    replace ht := ht.mono leG2
    replace hf1 := hf1.mono leG2
    replace hc1 := hc1.mono leG2
    replace hc2 := hc2.mono leG2
    replace hA := hA.mono leG2
    replace hB := hB.mono leG2
    replace ha1 := ha1.mono leG2
    replace hr1 := hr1.mono leG2
    refine X.seq ?_
    refine X.seq ?_
    refine X.region ?_
    refine XL.cons (XOp.move (.int .i64 (((q : Nat) : Int))) rfl ?_)
    refine XL.cons (XOp.move (x1) rfl ?_)
    refine XL.cons (XOp.lenS (v := x1) (n := (nx).length) Try.runUnderlying39 rfl hr1.slv ?_)
    refine XL.cons (XOp.lss (a := ((q : Nat) : Int)) (b := (((nx).length : Nat) : Int)) rfl rfl ?_)
    refine XL.nil ?_
    refine X.condD (p := (((q : Nat) : Int) : Int) < (((nx).length : Nat) : Int)) rfl (fun h3 => ?_) (fun h3 => ?_)
    ·refine X.skip ?_
     refine X.seq ?_
     refine X.block ?_
     refine X.seq ?_
     refine X.seq ?_
     obtain ⟨a2, ha2, hr2, hr3, hr4⟩ := hr1.rd (i := q) (by omega)
     refine X.draw [slH 22 1 av an acs, intsH 2 bv fs, slH 77 3 cv cn ccs, intsH 2 dv ds, cellsH b3 [av, bv, cv, dv, .bool (true)] 85, cellsH b2 [(.slice none 0 0), (.slice none 0 0), (.slice none 0 0), (.slice none 0 0), .bool (false)] 85, cellsH b1 [arv, rsv] 33] L 7 [[], [], [], [], [], [], []] [[], [0], [], [], [2, 3], [4], [5]] (phiL [fun us v => v = ptr b3 0, fun us v => v = av, fun us v => v = x1, fun us v => v = (.int .i64 (((q : Nat) : Int)) : Value), fun us v => v = (.pointer (some (elemA x1 (q * 3))) : Value), fun us v => v = (.pointer (some (elemA x1 (q * 3 + 2))) : Value), fun us v => v = a2]) (ownL [fun us v => [], fun us v => [], fun us v => [], fun us v => [], fun us v => [], fun us v => [], fun us v => []]) mixed rfl rfl (by kernel_rfl) ?_ ?_
     ·refine stepsP.cons (fun vals R hpZ => ?_) ?_
      ·refine XG.op (XOp.fieldP (b := b3) (0) Try.runUnderlying85 rfl Try.sizeOf49 (by decide) rfl rfl ?_)
       exact ⟨rfl, rfl, rfl⟩
      refine stepsP.cons (fun vals R hpZ => ?_) ?_
      ·rw [(envs_of_sat (l := [(0, ptr b3 0)]) ⟨hpZ 0 (by decide), trivial⟩).symm]
       refine XG.op (XOp.load1 (v := av) Try.isAgg49 rfl (Rd.own [_, _, _, _] rfl rfl) ?_)
       exact ⟨rfl, rfl, rfl⟩
      refine stepsP.cons (fun vals R hpZ => ?_) ?_
      ·refine XG.op (XOp.move (x1) rfl ?_)
       exact ⟨rfl, rfl, rfl⟩
      refine stepsP.cons (fun vals R hpZ => ?_) ?_
      ·refine XG.op (XOp.move (.int .i64 (((q : Nat) : Int))) rfl ?_)
       exact ⟨rfl, rfl, rfl⟩
      refine stepsP.cons (fun vals R hpZ => ?_) ?_
      ·rw [(envs_of_sat (l := [(2, x1), (3, (.int .i64 (((q : Nat) : Int)) : Value))]) ⟨hpZ 2 (by decide), hpZ 3 (by decide), trivial⟩).symm]
       refine XG.op (XOp.indexS (v := x1) (i := ((q : Nat) : Int)) (n := (nx).length) q Try.runUnderlying39 Try.sizeOf77 rfl rfl rfl hr1.slv (by omega) rfl ?_)
       exact ⟨rfl, rfl, rfl⟩
      refine stepsP.cons (fun vals R hpZ => ?_) ?_
      ·rw [(envs_of_sat (l := [(4, (.pointer (some (elemA x1 (q * 3))) : Value))]) ⟨hpZ 4 (by decide), trivial⟩).symm]
       refine XG.op (XOp.fieldE (v := x1) (q * 3 + 2) Try.runUnderlying77 rfl Try.sizeOf22 (by decide) rfl rfl ?_)
       exact ⟨rfl, rfl, rfl⟩
      refine stepsP.cons (fun vals R hpZ => ?_) ?_
      ·rw [(envs_of_sat (l := [(5, (.pointer (some (elemA x1 (q * 3 + 2))) : Value))]) ⟨hpZ 5 (by decide), trivial⟩).symm]
       refine XG.op (XOp.load1 (v := a2) Try.isAgg22 rfl (hr4 _) ?_)
       exact ⟨rfl, rfl, rfl⟩
      exact stepsP.nil
     ·intro vals hphi
      have e0 : vals 0 = ptr b3 0 := hphi 0 (by decide)
      have e1 : vals 1 = av := hphi 1 (by decide)
      have e2 : vals 2 = x1 := hphi 2 (by decide)
      have e3 : vals 3 = (.int .i64 (((q : Nat) : Int)) : Value) := hphi 3 (by decide)
      have e4 : vals 4 = (.pointer (some (elemA x1 (q * 3))) : Value) := hphi 4 (by decide)
      have e5 : vals 5 = (.pointer (some (elemA x1 (q * 3 + 2))) : Value) := hphi 5 (by decide)
      have e6 : vals 6 = a2 := hphi 6 (by decide)
      rw [(envs_of_sat (l := [(0, ptr b3 0), (1, av), (2, x1), (3, (.int .i64 (((q : Nat) : Int)) : Value)), (4, (.pointer (some (elemA x1 (q * 3))) : Value)), (5, (.pointer (some (elemA x1 (q * 3 + 2))) : Value)), (6, a2)]) ⟨e0, e1, e2, e3, e4, e5, e6, trivial⟩).symm]
      show XL _ _ _ _ _ _ _ (slH 22 1 av an acs :: intsH 2 bv fs :: slH 77 3 cv cn ccs :: intsH 2 dv ds :: cellsH b3 [av, bv, cv, dv, .bool (true)] 85 :: cellsH b2 [(.slice none 0 0), (.slice none 0 0), (.slice none 0 0), (.slice none 0 0), .bool (false)] 85 :: cellsH b1 [arv, rsv] 33 :: L)
      refine XL.cons (XOp.lend [] _ _ rfl (fun F3 le3 hz2 => ?_))
      have hf2 : RowsF _ av ts := (CO.fz (RowsC.mono hAi (FLe.trans le3 (FLe.refl _))) (by first | rfl | assumption | omega | (rw [List.length_append]; simp only [List.length_singleton]; omega)) hz2 : RowsF _ av ts)
      refine id (XOp.call (args := [av, a2]) Try.call68 rfl (l1TermPlace_spec hf2 ((ha2.mono le3)) (hlt := (by omega)) (htb := (fun i hi => by rw [htsi, terms_get]; have := termOk_len (hoki i (by omega)); omega)) (hlx := (by have := hsok (by omega); omega))) ?_)
      rintro _ _ _ _ ⟨rfl, rfl, rfl⟩
      show XL _ _ _ _ _ _ _ (slH 22 1 av an acs :: intsH 2 bv fs :: slH 77 3 cv cn ccs :: intsH 2 dv ds :: cellsH b3 [av, bv, cv, dv, .bool (true)] 85 :: cellsH b2 [(.slice none 0 0), (.slice none 0 0), (.slice none 0 0), (.slice none 0 0), .bool (false)] 85 :: cellsH b1 [arv, rsv] 33 :: L)
      refine XL.cons (XOp.geq (a := badG (fun y => !decide (y = ((nx.getD q (0, 0, [])).2.2))) ts) (b := 0) rfl rfl ?_)
      refine XL.nil ?_
      refine X.condD (p := (badG (fun y => !decide (y = ((nx.getD q (0, 0, [])).2.2))) ts : Int) ≥ 0) rfl (fun h4 => ?_) (fun h4 => ?_)
      ·have hbg : badG (fun y => !decide (y = (nx.getD q (0, 0, [])).2.2)) ts = foundI os (nx.getD q (0, 0, [])).2.2 := by rw [htsi]; exact foundI_terms
       have hin : isIn os (nx.getD q (0, 0, [])).2.2 = true := foundI_iff.1 (by rw [← hbg]; exact h4)
       refine X.exit (thenQ_exit (blockQ_exit ?_))
       refine X.region ?_
       refine XL.cons (XOp.move (.int .i64 (((q : Nat) : Int))) rfl ?_)
       refine XL.cons (XOp.addR (a := ((q : Nat) : Int)) (b := 1) (((q + 1 : Nat) : Int)) rfl rfl (by omega) (by omega) ?_)
       refine XL.cons (XOp.assign (.int .i64 (((q + 1 : Nat) : Int))) rfl ?_)
       refine XL.nil ?_
       exact ⟨(q + 1, os, av, ts, acs, an, bv, fs, cv, bs, ccs, cn, dv, ds, G2), _, leG2, (FLe.refl _), ⟨rfl, rfl, rfl, rfl, rfl, rfl, rfl, trivial⟩, (Sub.cons (Sub.cons (Sub.cons (Sub.cons (Sub.cons (Sub.cons (Sub.cons (Sub.refl _)))))))), ⟨rfl, leG2, (havi), (hbvi), (hcvi), (hdvi), (hAi), (hBi), (hani), (hcni), (htsi), (hfsi), (hbsi), (hdsi), (hli), (hoki), (hdoi), (by (try dsimp only) <;> omega), (hkp), (hel), (by (try dsimp only); exact hgoi.trans (add_in (by omega) hin))⟩, (by omega)⟩
      ·have hbg : badG (fun y => !decide (y = (nx.getD q (0, 0, [])).2.2)) ts = foundI os (nx.getD q (0, 0, [])).2.2 := by rw [htsi]; exact foundI_terms
       have hnin : isIn os (nx.getD q (0, 0, [])).2.2 = false := by rw [Bool.eq_false_iff]; intro h9; exact absurd (foundI_iff.2 h9) (by rw [← hbg]; exact h4)
       refine X.skip ?_
       refine X.seq ?_
       refine X.seq ?_
       refine X.region ?_
       refine XL.cons (XOp.fieldP (b := b3) (0) Try.runUnderlying85 rfl Try.sizeOf49 (by decide) rfl rfl ?_)
       refine XL.cons (XOp.load1 (v := av) Try.isAgg49 rfl (Rd.own [_, _, _, _] rfl rfl) ?_)
       refine XL.cons (XOp.lenS (v := av) (n := an) Try.runUnderlying49 rfl (SlV.own [] rfl) ?_)
       refine XL.cons (XOp.eql (a := ((an : Nat) : Int)) (b := 60) rfl rfl ?_)
       refine XL.nil ?_
       refine X.condD (p := (((an : Nat) : Int) : Int) = 60) rfl (fun h5 => ?_) (fun h5 => ?_)
       ·refine X.seq ?_
        refine X.region ?_
        refine XL.cons (XOp.fieldP (b := b3) (4) Try.runUnderlying85 rfl Try.sizeOf4 (by decide) rfl rfl ?_)
        refine XL.cons (XOp.store1 (v := .bool (false)) [_, _, _, _] _ [av, bv, cv, dv, .bool (false)] Try.sizeOf4 rfl rfl rfl rfl rfl rfl ?_)
        refine XL.nil ?_
        refine X.seq ?_
        refine X.region ?_
        refine XL.cons (XOp.loadN [av, bv, cv, dv, .bool (false)] Try.isAgg85 Try.sizeOf85 rfl rfl (Rd.ownN [_, _, _, _] rfl rfl) ?_)
        refine XL.cons (XOp.storeN (vs := [av, bv, cv, dv, .bool (false)]) [_, _, _, _, _] _ [av, bv, cv, dv, .bool (false)] Try.sizeOf85 rfl rfl rfl (ones_cons (one_sl havi) (ones_cons (one_sl hbvi) (ones_cons (one_sl hcvi) (ones_cons (one_sl hdvi) (ones_cons rfl ones_nil))))) rfl rfl rfl ?_)
        refine XL.nil ?_
        refine X.freezeF [] _ _ rfl (fun F4 le4 hz3 => ?_)
        replace har := har.mono le4
        replace hrs := hrs.mono le4
        replace ht := ht.mono le4
        replace hf1 := hf1.mono le4
        replace hc1 := hc1.mono le4
        replace hc2 := hc2.mono le4
        replace hA := hA.mono le4
        replace hB := hB.mono le4
        replace ha1 := ha1.mono le4
        replace hr1 := hr1.mono le4
        replace hAi := hAi.mono le4
        replace hBi := hBi.mono le4
        replace ha2 := ha2.mono le4
        replace hr2 := Rd.monoA hr2 le4
        replace hr3 := Rd.monoA hr3 le4
        replace hr4 := Rd.monoA hr4 le4
        have hf3 : RowsF F4 av ts := CO.fz hAi (by first | rfl | simp | omega) hz3.fz
        refine X.freezeF [] _ _ rfl (fun F5 le5 hz4 => ?_)
        replace har := har.mono le5
        replace hrs := hrs.mono le5
        replace ht := ht.mono le5
        replace hf1 := hf1.mono le5
        replace hc1 := hc1.mono le5
        replace hc2 := hc2.mono le5
        replace hA := hA.mono le5
        replace hB := hB.mono le5
        replace ha1 := ha1.mono le5
        replace hr1 := hr1.mono le5
        replace hAi := hAi.mono le5
        replace hBi := hBi.mono le5
        replace ha2 := ha2.mono le5
        replace hf3 := hf3.mono le5
        replace hr2 := Rd.monoA hr2 le5
        replace hr3 := Rd.monoA hr3 le5
        replace hr4 := Rd.monoA hr4 le5
        have hf4 : IntsF F5 bv fs := intsH.fz (xs := fs) hz4.fz
        refine X.freezeF [] _ _ rfl (fun F6 le6 hz5 => ?_)
        replace har := har.mono le6
        replace hrs := hrs.mono le6
        replace ht := ht.mono le6
        replace hf1 := hf1.mono le6
        replace hc1 := hc1.mono le6
        replace hc2 := hc2.mono le6
        replace hA := hA.mono le6
        replace hB := hB.mono le6
        replace ha1 := ha1.mono le6
        replace hr1 := hr1.mono le6
        replace hAi := hAi.mono le6
        replace hBi := hBi.mono le6
        replace ha2 := ha2.mono le6
        replace hf3 := hf3.mono le6
        replace hf4 := hf4.mono le6
        replace hr2 := Rd.monoA hr2 le6
        replace hr3 := Rd.monoA hr3 le6
        replace hr4 := Rd.monoA hr4 le6
        have hf5 : StepsF F6 cv bs := CO.fz hBi (by first | rfl | simp | omega) hz5.fz
        refine X.freezeF [] _ _ rfl (fun F7 le7 hz6 => ?_)
        replace har := har.mono le7
        replace hrs := hrs.mono le7
        replace ht := ht.mono le7
        replace hf1 := hf1.mono le7
        replace hc1 := hc1.mono le7
        replace hc2 := hc2.mono le7
        replace hA := hA.mono le7
        replace hB := hB.mono le7
        replace ha1 := ha1.mono le7
        replace hr1 := hr1.mono le7
        replace hAi := hAi.mono le7
        replace hBi := hBi.mono le7
        replace ha2 := ha2.mono le7
        replace hf3 := hf3.mono le7
        replace hf4 := hf4.mono le7
        replace hf5 := hf5.mono le7
        replace hr2 := Rd.monoA hr2 le7
        replace hr3 := Rd.monoA hr3 le7
        replace hr4 := Rd.monoA hr4 le7
        have hf6 : IntsF F7 dv ds := intsH.fz (xs := ds) hz6.fz
        refine X.ret (thenQ_ret (blockQ_ret (thenQ_ret (thenQ_ret (blockQ_ret (blockQ_ret (thenQ_ret (thenQ_ret (blockQ_ret (thenQ_ret (retEnd (L' := L) [.agg #[av, bv, cv, dv, .bool (false)]] (.agg #[av, bv, cv, dv, .bool (false)]) (.cell rfl (loadNV [av, bv, cv, dv, .bool (false)] Try.isAgg85 Try.sizeOf85 rfl (Rd.ownN [_] rfl rfl)) .nil) rfl (FLe.trans (FLe.trans (FLe.trans (FLe.trans (FLe.trans (FLe.trans (FLe.trans le1 leG1) le2) leG2) le4) le5) le6) le7) (FLe.refl _) (Sub.drop (Sub.drop (Sub.drop (Sub.refl _)))) ?_)))))))))))
        have h9 := hgoi.trans (add_full (by omega) hnin (by omega))
        have h8 := reach_stop (ar := ar) (rs := rs) (n := n) (f := 60 - k - 1) hk70 (by omega) hdeep0 (by rw [hnx0, h9])
        rw [hnx0, h9] at h8
        have e9 : reachL ar rs t n = (os, false) := hgo0.trans h8
        rw [e9]
        exact ⟨_, _, _, _, rfl, by rw [← htsi]; exact hf3, by rw [← hfsi]; exact hf4, by rw [← hbsi]; exact hf5, by rw [← hdsi]; exact hf6, rfl⟩
       ·refine X.skip ?_
        refine X.seq ?_
        refine X.draw [slH 22 1 av an acs, intsH 2 bv fs, slH 77 3 cv cn ccs, intsH 2 dv ds, cellsH b3 [av, bv, cv, dv, .bool (true)] 85, cellsH b2 [(.slice none 0 0), (.slice none 0 0), (.slice none 0 0), (.slice none 0 0), .bool (false)] 85, cellsH b1 [arv, rsv] 33] L 8 [[], [], [], [], [], [], [], []] [[], [0], [], [], [2, 3], [4], [5], [6]] (phiL [fun us v => v = ptr b3 0, fun us v => v = av, fun us v => v = x1, fun us v => v = (.int .i64 (((q : Nat) : Int)) : Value), fun us v => v = (.pointer (some (elemA x1 (q * 3))) : Value), fun us v => v = (.pointer (some (elemA x1 (q * 3 + 2))) : Value), fun us v => v = a2, fun us v => ∃ b, v = .slice (some ⟨b, 0, none⟩) 1 1]) (ownL [fun us v => [], fun us v => [], fun us v => [], fun us v => [], fun us v => [], fun us v => [], fun us v => [], fun us v => [slH 22 1 v 1 [a2]]]) mixed rfl rfl (by kernel_rfl) ?_ ?_
        ·refine stepsP.cons (fun vals R hpZ => ?_) ?_
         ·refine XG.op (XOp.fieldP (b := b3) (0) Try.runUnderlying85 rfl Try.sizeOf49 (by decide) rfl rfl ?_)
          exact ⟨rfl, rfl, rfl⟩
         refine stepsP.cons (fun vals R hpZ => ?_) ?_
         ·rw [(envs_of_sat (l := [(0, ptr b3 0)]) ⟨hpZ 0 (by decide), trivial⟩).symm]
          refine XG.op (XOp.load1 (v := av) Try.isAgg49 rfl (Rd.own [_, _, _, _] rfl rfl) ?_)
          exact ⟨rfl, rfl, rfl⟩
         refine stepsP.cons (fun vals R hpZ => ?_) ?_
         ·refine XG.op (XOp.move (x1) rfl ?_)
          exact ⟨rfl, rfl, rfl⟩
         refine stepsP.cons (fun vals R hpZ => ?_) ?_
         ·refine XG.op (XOp.move (.int .i64 (((q : Nat) : Int))) rfl ?_)
          exact ⟨rfl, rfl, rfl⟩
         refine stepsP.cons (fun vals R hpZ => ?_) ?_
         ·rw [(envs_of_sat (l := [(2, x1), (3, (.int .i64 (((q : Nat) : Int)) : Value))]) ⟨hpZ 2 (by decide), hpZ 3 (by decide), trivial⟩).symm]
          refine XG.op (XOp.indexS (v := x1) (i := ((q : Nat) : Int)) (n := (nx).length) q Try.runUnderlying39 Try.sizeOf77 rfl rfl rfl hr1.slv (by omega) rfl ?_)
          exact ⟨rfl, rfl, rfl⟩
         refine stepsP.cons (fun vals R hpZ => ?_) ?_
         ·rw [(envs_of_sat (l := [(4, (.pointer (some (elemA x1 (q * 3))) : Value))]) ⟨hpZ 4 (by decide), trivial⟩).symm]
          refine XG.op (XOp.fieldE (v := x1) (q * 3 + 2) Try.runUnderlying77 rfl Try.sizeOf22 (by decide) rfl rfl ?_)
          exact ⟨rfl, rfl, rfl⟩
         refine stepsP.cons (fun vals R hpZ => ?_) ?_
         ·rw [(envs_of_sat (l := [(5, (.pointer (some (elemA x1 (q * 3 + 2))) : Value))]) ⟨hpZ 5 (by decide), trivial⟩).symm]
          refine XG.op (XOp.load1 (v := a2) Try.isAgg22 rfl (hr4 _) ?_)
          exact ⟨rfl, rfl, rfl⟩
         refine stepsP.cons (fun vals R hpZ => ?_) ?_
         ·rw [(envs_of_sat (l := [(6, a2)]) ⟨hpZ 6 (by decide), trivial⟩).symm]
          refine XG.op (XOp.buildSlice (s := 1) [a2] [(.slice none 0 0)] [(0, [a2])] Try.runUnderlying49 Try.sizeOf22 Try.zeroValue22 rfl (by decide) rfl (.cons (cells_one (IntsF.isSl ha2)) CellsAre.nil) rfl ?_)
          intro v7 hv6
          exact ⟨rfl, hv6, rfl⟩
         exact stepsP.nil
        ·intro vals hphi
         have e0 : vals 0 = ptr b3 0 := hphi 0 (by decide)
         have e1 : vals 1 = av := hphi 1 (by decide)
         have e2 : vals 2 = x1 := hphi 2 (by decide)
         have e3 : vals 3 = (.int .i64 (((q : Nat) : Int)) : Value) := hphi 3 (by decide)
         have e4 : vals 4 = (.pointer (some (elemA x1 (q * 3))) : Value) := hphi 4 (by decide)
         have e5 : vals 5 = (.pointer (some (elemA x1 (q * 3 + 2))) : Value) := hphi 5 (by decide)
         have e6 : vals 6 = a2 := hphi 6 (by decide)
         have f7 : ∃ b, (vals 7) = .slice (some ⟨b, 0, none⟩) 1 1 := hphi 7 (by decide)
         generalize hu7 : vals 7 = u1 at f7
         rw [(envs_of_sat (l := [(0, ptr b3 0), (1, av), (2, x1), (3, (.int .i64 (((q : Nat) : Int)) : Value)), (4, (.pointer (some (elemA x1 (q * 3))) : Value)), (5, (.pointer (some (elemA x1 (q * 3 + 2))) : Value)), (6, a2), (7, u1)]) ⟨e0, e1, e2, e3, e4, e5, e6, hu7, trivial⟩).symm]
         show XL _ _ _ _ _ _ _ (slH 22 1 u1 1 [a2] :: slH 22 1 av an acs :: intsH 2 bv fs :: slH 77 3 cv cn ccs :: intsH 2 dv ds :: cellsH b3 [av, bv, cv, dv, .bool (true)] 85 :: cellsH b2 [(.slice none 0 0), (.slice none 0 0), (.slice none 0 0), (.slice none 0 0), .bool (false)] 85 :: cellsH b1 [arv, rsv] 33 :: L)
         refine XL.cons (XOp.append (m := 1) (bytes := 24) (cs := acs) [_] _ [a2] Try.runUnderlying49 Try.typeInfo22 rfl rfl rfl rfl rfl rfl rfl (SlV.own [] rfl) rfl (Rd.lit [] rfl) (ones_cons (one_sl (IntsF.isSl ha2)) ones_nil) (by (try simp only [List.length_append, List.length_nil, List.length_cons, List.length_singleton]); omega) (by (try simp only [List.length_append, List.length_nil, List.length_cons, List.length_singleton]); omega) ?_)
         intro v8 hs2 hn1 hm1
         have hc3 := RowsC.snoc hAi ha2
         refine XL.cons (XOp.fieldP (b := b3) (0) Try.runUnderlying85 rfl Try.sizeOf49 (by decide) rfl rfl ?_)
         refine XL.cons (XOp.store1 (v := v8) [_, _, _, _, _] _ [v8, bv, cv, dv, .bool (true)] Try.sizeOf49 rfl rfl (one_sl hs2) rfl rfl rfl ?_)
         refine XL.nil ?_
         refine X.seq ?_
         refine X.region ?_
         refine XL.cons (XOp.fieldP (b := b3) (1) Try.runUnderlying85 rfl Try.sizeOf22 (by decide) rfl rfl ?_)
         refine XL.cons (XOp.load1 (v := bv) Try.isAgg22 rfl (Rd.own [_, _, _, _, _] rfl rfl) ?_)
         refine XL.cons (XOp.move (.int .i64 (((k : Nat) : Int))) rfl ?_)
         refine XL.cons (XOp.buildSlice (s := 1) [.int .i64 (((k : Nat) : Int))] [.int .i64 (0)] [(0, [.int .i64 (((k : Nat) : Int))])] Try.runUnderlying22 Try.sizeOf2 Try.zeroValue2 rfl (by decide) rfl (.cons rfl CellsAre.nil) rfl ?_)
         intro v9 hv7
         refine XL.cons (XOp.append1 (u := ((k : Nat) : Int)) [_, _, _] _ Try.runUnderlying22 Try.typeInfo2 rfl rfl rfl rfl rfl rfl (SlV.own [] rfl) (Rd.sl [] rfl rfl) (by (try simp only [List.length_append, List.length_nil, List.length_cons, List.length_singleton, List.length_take, List.length_drop]); omega) ?_)
         intro v10 hs3 hn2
         refine XL.cons (XOp.fieldP (b := b3) (1) Try.runUnderlying85 rfl Try.sizeOf22 (by decide) rfl rfl ?_)
         refine XL.cons (XOp.store1 (v := v10) [_, _, _, _, _, _] _ [v8, v10, cv, dv, .bool (true)] Try.sizeOf22 rfl rfl (one_sl hs3) rfl rfl rfl ?_)
         refine XL.nil ?_
         refine X.seq ?_
         refine X.draw [slH 2 1 v9 1 [.int .i64 (((k : Nat) : Int))], slH 22 1 u1 1 [a2], slH 22 1 v8 ((an) + 1) (acs ++ [a2]), intsH 2 v10 (fs ++ [((k : Nat) : Int)]), slH 77 3 cv cn ccs, intsH 2 dv ds, cellsH b3 [v8, v10, cv, dv, .bool (true)] 85, cellsH b2 [(.slice none 0 0), (.slice none 0 0), (.slice none 0 0), (.slice none 0 0), .bool (false)] 85, cellsH b1 [arv, rsv] 33] L 7 [[], [], [], [], [], [], []] [[], [0], [], [], [2, 3], [4], [5]] (phiL [fun us v => v = ptr b3 2, fun us v => v = cv, fun us v => v = x1, fun us v => v = (.int .i64 (((q : Nat) : Int)) : Value), fun us v => v = (.pointer (some (elemA x1 (q * 3))) : Value), fun us v => v = (.agg #[.int .i64 ((nx.getD q (0, 0, [])).1), .int .i64 ((nx.getD q (0, 0, [])).2.1), a2] : Value), fun us v => ∃ b, v = .slice (some ⟨b, 0, none⟩) 1 1]) (ownL [fun us v => [], fun us v => [], fun us v => [], fun us v => [], fun us v => [], fun us v => [], fun us v => [slH 77 3 v 1 [.int .i64 ((nx.getD q (0, 0, [])).1), .int .i64 ((nx.getD q (0, 0, [])).2.1), a2]]]) mixed rfl rfl (by kernel_rfl) ?_ ?_
         ·refine stepsP.cons (fun vals R hpZ => ?_) ?_
          ·refine XG.op (XOp.fieldP (b := b3) (2) Try.runUnderlying85 rfl Try.sizeOf39 (by decide) rfl rfl ?_)
           exact ⟨rfl, rfl, rfl⟩
          refine stepsP.cons (fun vals R hpZ => ?_) ?_
          ·rw [(envs_of_sat (l := [(0, ptr b3 2)]) ⟨hpZ 0 (by decide), trivial⟩).symm]
           refine XG.op (XOp.load1 (v := cv) Try.isAgg39 rfl (Rd.own [_, _, _, _, _, _] rfl rfl) ?_)
           exact ⟨rfl, rfl, rfl⟩
          refine stepsP.cons (fun vals R hpZ => ?_) ?_
          ·refine XG.op (XOp.move (x1) rfl ?_)
           exact ⟨rfl, rfl, rfl⟩
          refine stepsP.cons (fun vals R hpZ => ?_) ?_
          ·refine XG.op (XOp.move (.int .i64 (((q : Nat) : Int))) rfl ?_)
           exact ⟨rfl, rfl, rfl⟩
          refine stepsP.cons (fun vals R hpZ => ?_) ?_
          ·rw [(envs_of_sat (l := [(2, x1), (3, (.int .i64 (((q : Nat) : Int)) : Value))]) ⟨hpZ 2 (by decide), hpZ 3 (by decide), trivial⟩).symm]
           refine XG.op (XOp.indexS (v := x1) (i := ((q : Nat) : Int)) (n := (nx).length) q Try.runUnderlying39 Try.sizeOf77 rfl rfl rfl hr1.slv (by omega) rfl ?_)
           exact ⟨rfl, rfl, rfl⟩
          refine stepsP.cons (fun vals R hpZ => ?_) ?_
          ·rw [(envs_of_sat (l := [(4, (.pointer (some (elemA x1 (q * 3))) : Value))]) ⟨hpZ 4 (by decide), trivial⟩).symm]
           refine XG.op (XOp.loadN [.int .i64 ((nx.getD q (0, 0, [])).1), .int .i64 ((nx.getD q (0, 0, [])).2.1), a2] Try.isAgg77 Try.sizeOf77 rfl rfl (Rd.three (hr2 _) (hr3 _) (hr4 _)) ?_)
           exact ⟨rfl, rfl, rfl⟩
          refine stepsP.cons (fun vals R hpZ => ?_) ?_
          ·rw [(envs_of_sat (l := [(5, (.agg #[.int .i64 ((nx.getD q (0, 0, [])).1), .int .i64 ((nx.getD q (0, 0, [])).2.1), a2] : Value))]) ⟨hpZ 5 (by decide), trivial⟩).symm]
           refine XG.op (XOp.buildSlice (s := 3) [.int .i64 ((nx.getD q (0, 0, [])).1), .int .i64 ((nx.getD q (0, 0, [])).2.1), a2] [.int .i64 (0), .int .i64 (0), (.slice none 0 0)] [(0, [.int .i64 ((nx.getD q (0, 0, [])).1), .int .i64 ((nx.getD q (0, 0, [])).2.1), a2])] Try.runUnderlying39 Try.sizeOf77 Try.zeroValue77 rfl (by decide) rfl (.cons rfl CellsAre.nil) rfl ?_)
           intro v12 hv9
           exact ⟨rfl, hv9, rfl⟩
          exact stepsP.nil
         ·intro vals hphi
          have e0 : vals 0 = ptr b3 2 := hphi 0 (by decide)
          have e1 : vals 1 = cv := hphi 1 (by decide)
          have e2 : vals 2 = x1 := hphi 2 (by decide)
          have e3 : vals 3 = (.int .i64 (((q : Nat) : Int)) : Value) := hphi 3 (by decide)
          have e4 : vals 4 = (.pointer (some (elemA x1 (q * 3))) : Value) := hphi 4 (by decide)
          have e5 : vals 5 = (.agg #[.int .i64 ((nx.getD q (0, 0, [])).1), .int .i64 ((nx.getD q (0, 0, [])).2.1), a2] : Value) := hphi 5 (by decide)
          have f6 : ∃ b, (vals 6) = .slice (some ⟨b, 0, none⟩) 1 1 := hphi 6 (by decide)
          generalize hu6 : vals 6 = u2 at f6
          rw [(envs_of_sat (l := [(0, ptr b3 2), (1, cv), (2, x1), (3, (.int .i64 (((q : Nat) : Int)) : Value)), (4, (.pointer (some (elemA x1 (q * 3))) : Value)), (5, (.agg #[.int .i64 ((nx.getD q (0, 0, [])).1), .int .i64 ((nx.getD q (0, 0, [])).2.1), a2] : Value)), (6, u2)]) ⟨e0, e1, e2, e3, e4, e5, hu6, trivial⟩).symm]
          show XL _ _ _ _ _ _ _ (slH 77 3 u2 1 [.int .i64 ((nx.getD q (0, 0, [])).1), .int .i64 ((nx.getD q (0, 0, [])).2.1), a2] :: slH 2 1 v9 1 [.int .i64 (((k : Nat) : Int))] :: slH 22 1 u1 1 [a2] :: slH 22 1 v8 ((an) + 1) (acs ++ [a2]) :: intsH 2 v10 (fs ++ [((k : Nat) : Int)]) :: slH 77 3 cv cn ccs :: intsH 2 dv ds :: cellsH b3 [v8, v10, cv, dv, .bool (true)] 85 :: cellsH b2 [(.slice none 0 0), (.slice none 0 0), (.slice none 0 0), (.slice none 0 0), .bool (false)] 85 :: cellsH b1 [arv, rsv] 33 :: L)
          refine XL.cons (XOp.append (m := 1) (bytes := 40) (cs := ccs) [_, _, _, _, _] _ [.int .i64 ((nx.getD q (0, 0, [])).1), .int .i64 ((nx.getD q (0, 0, [])).2.1), a2] Try.runUnderlying39 Try.typeInfo77 rfl rfl rfl rfl rfl rfl rfl (SlV.own [] rfl) rfl (Rd.lit [] rfl) (ones_cons rfl (ones_cons rfl (ones_cons (one_sl (IntsF.isSl ha2)) ones_nil))) (by (try simp only [List.length_append, List.length_nil, List.length_cons, List.length_singleton]); omega) (by (try simp only [List.length_append, List.length_nil, List.length_cons, List.length_singleton]); omega) ?_)
          intro v13 hs4 hn3 hm2
          have hc4 := StepsC.snoc hBi (i := (nx.getD q (0, 0, [])).1) (j := (nx.getD q (0, 0, [])).2.1) ha2
          refine XL.cons (XOp.fieldP (b := b3) (2) Try.runUnderlying85 rfl Try.sizeOf39 (by decide) rfl rfl ?_)
          refine XL.cons (XOp.store1 (v := v13) [_, _, _, _, _, _, _] _ [v8, v10, v13, dv, .bool (true)] Try.sizeOf39 rfl rfl (one_sl hs4) rfl rfl rfl ?_)
          refine XL.nil ?_
          refine X.draw [slH 77 3 u2 1 [.int .i64 ((nx.getD q (0, 0, [])).1), .int .i64 ((nx.getD q (0, 0, [])).2.1), a2], slH 2 1 v9 1 [.int .i64 (((k : Nat) : Int))], slH 22 1 u1 1 [a2], slH 22 1 v8 ((an) + 1) (acs ++ [a2]), intsH 2 v10 (fs ++ [((k : Nat) : Int)]), slH 77 3 v13 ((cn) + 1) (ccs ++ [.int .i64 ((nx.getD q (0, 0, [])).1), .int .i64 ((nx.getD q (0, 0, [])).2.1), a2]), intsH 2 dv ds, cellsH b3 [v8, v10, v13, dv, .bool (true)] 85, cellsH b2 [(.slice none 0 0), (.slice none 0 0), (.slice none 0 0), (.slice none 0 0), .bool (false)] 85, cellsH b1 [arv, rsv] 33] L 9 [[], [], [], [], [], [], [], [], []] [[], [0], [], [2], [], [3, 4], [5], [6], [7]] (phiL [fun us v => v = ptr b3 3, fun us v => v = dv, fun us v => v = ptr b3 3, fun us v => v = dv, fun us v => v = (.int .i64 (((k : Nat) : Int)) : Value), fun us v => v = (.pointer (some (elemA dv (k))) : Value), fun us v => v = (.int .i64 (ds.getD k 0) : Value), fun us v => v = (.int .i64 ((ds.getD k 0) + 1) : Value), fun us v => ∃ b, v = .slice (some ⟨b, 0, none⟩) 1 1]) (ownL [fun us v => [], fun us v => [], fun us v => [], fun us v => [], fun us v => [], fun us v => [], fun us v => [], fun us v => [], fun us v => [slH 2 1 v 1 [.int .i64 ((ds.getD k 0) + 1)]]]) mixed rfl rfl (by kernel_rfl) ?_ ?_
          ·refine stepsP.cons (fun vals R hpZ => ?_) ?_
           ·refine XG.op (XOp.fieldP (b := b3) (3) Try.runUnderlying85 rfl Try.sizeOf22 (by decide) rfl rfl ?_)
            exact ⟨rfl, rfl, rfl⟩
           refine stepsP.cons (fun vals R hpZ => ?_) ?_
           ·rw [(envs_of_sat (l := [(0, ptr b3 3)]) ⟨hpZ 0 (by decide), trivial⟩).symm]
            refine XG.op (XOp.load1 (v := dv) Try.isAgg22 rfl (Rd.own [_, _, _, _, _, _, _] rfl rfl) ?_)
            exact ⟨rfl, rfl, rfl⟩
           refine stepsP.cons (fun vals R hpZ => ?_) ?_
           ·refine XG.op (XOp.fieldP (b := b3) (3) Try.runUnderlying85 rfl Try.sizeOf22 (by decide) rfl rfl ?_)
            exact ⟨rfl, rfl, rfl⟩
           refine stepsP.cons (fun vals R hpZ => ?_) ?_
           ·rw [(envs_of_sat (l := [(2, ptr b3 3)]) ⟨hpZ 2 (by decide), trivial⟩).symm]
            refine XG.op (XOp.load1 (v := dv) Try.isAgg22 rfl (Rd.own [_, _, _, _, _, _, _] rfl rfl) ?_)
            exact ⟨rfl, rfl, rfl⟩
           refine stepsP.cons (fun vals R hpZ => ?_) ?_
           ·refine XG.op (XOp.move (.int .i64 (((k : Nat) : Int))) rfl ?_)
            exact ⟨rfl, rfl, rfl⟩
           refine stepsP.cons (fun vals R hpZ => ?_) ?_
           ·rw [(envs_of_sat (l := [(3, dv), (4, (.int .i64 (((k : Nat) : Int)) : Value))]) ⟨hpZ 3 (by decide), hpZ 4 (by decide), trivial⟩).symm]
            refine XG.op (XOp.indexS (v := dv) (i := ((k : Nat) : Int)) (n := (ds).length) k Try.runUnderlying22 Try.sizeOf2 rfl rfl rfl (intsH.slv [_, _, _, _, _, _] rfl) (by omega) (Nat.mul_one _) ?_)
            exact ⟨rfl, rfl, rfl⟩
           refine stepsP.cons (fun vals R hpZ => ?_) ?_
           ·rw [(envs_of_sat (l := [(5, (.pointer (some (elemA dv (k))) : Value))]) ⟨hpZ 5 (by decide), trivial⟩).symm]
            refine XG.op (XOp.load1 (v := .int .i64 (ds.getD k 0)) Try.isAgg2 rfl (intsH.rd [_, _, _, _, _, _] rfl (by omega)) ?_)
            exact ⟨rfl, rfl, rfl⟩
           refine stepsP.cons (fun vals R hpZ => ?_) ?_
           ·rw [(envs_of_sat (l := [(6, (.int .i64 (ds.getD k 0) : Value))]) ⟨hpZ 6 (by decide), trivial⟩).symm]
            refine XG.op (XOp.addR (a := ds.getD k 0) (b := 1) ((ds.getD k 0) + 1) rfl rfl (by omega) (by omega) ?_)
            exact ⟨rfl, rfl, rfl⟩
           refine stepsP.cons (fun vals R hpZ => ?_) ?_
           ·rw [(envs_of_sat (l := [(7, (.int .i64 ((ds.getD k 0) + 1) : Value))]) ⟨hpZ 7 (by decide), trivial⟩).symm]
            refine XG.op (XOp.buildSlice (s := 1) [.int .i64 ((ds.getD k 0) + 1)] [.int .i64 (0)] [(0, [.int .i64 ((ds.getD k 0) + 1)])] Try.runUnderlying22 Try.sizeOf2 Try.zeroValue2 rfl (by decide) rfl (.cons rfl CellsAre.nil) rfl ?_)
            intro v15 hv11
            exact ⟨rfl, hv11, rfl⟩
           exact stepsP.nil
          ·intro vals hphi
           have e0 : vals 0 = ptr b3 3 := hphi 0 (by decide)
           have e1 : vals 1 = dv := hphi 1 (by decide)
           have e2 : vals 2 = ptr b3 3 := hphi 2 (by decide)
           have e3 : vals 3 = dv := hphi 3 (by decide)
           have e4 : vals 4 = (.int .i64 (((k : Nat) : Int)) : Value) := hphi 4 (by decide)
           have e5 : vals 5 = (.pointer (some (elemA dv (k))) : Value) := hphi 5 (by decide)
           have e6 : vals 6 = (.int .i64 (ds.getD k 0) : Value) := hphi 6 (by decide)
           have e7 : vals 7 = (.int .i64 ((ds.getD k 0) + 1) : Value) := hphi 7 (by decide)
           have f8 : ∃ b, (vals 8) = .slice (some ⟨b, 0, none⟩) 1 1 := hphi 8 (by decide)
           generalize hu8 : vals 8 = u3 at f8
           rw [(envs_of_sat (l := [(0, ptr b3 3), (1, dv), (2, ptr b3 3), (3, dv), (4, (.int .i64 (((k : Nat) : Int)) : Value)), (5, (.pointer (some (elemA dv (k))) : Value)), (6, (.int .i64 (ds.getD k 0) : Value)), (7, (.int .i64 ((ds.getD k 0) + 1) : Value)), (8, u3)]) ⟨e0, e1, e2, e3, e4, e5, e6, e7, hu8, trivial⟩).symm]
           show XL _ _ _ _ _ _ _ (slH 2 1 u3 1 [.int .i64 ((ds.getD k 0) + 1)] :: slH 77 3 u2 1 [.int .i64 ((nx.getD q (0, 0, [])).1), .int .i64 ((nx.getD q (0, 0, [])).2.1), a2] :: slH 2 1 v9 1 [.int .i64 (((k : Nat) : Int))] :: slH 22 1 u1 1 [a2] :: slH 22 1 v8 ((an) + 1) (acs ++ [a2]) :: intsH 2 v10 (fs ++ [((k : Nat) : Int)]) :: slH 77 3 v13 ((cn) + 1) (ccs ++ [.int .i64 ((nx.getD q (0, 0, [])).1), .int .i64 ((nx.getD q (0, 0, [])).2.1), a2]) :: intsH 2 dv ds :: cellsH b3 [v8, v10, v13, dv, .bool (true)] 85 :: cellsH b2 [(.slice none 0 0), (.slice none 0 0), (.slice none 0 0), (.slice none 0 0), .bool (false)] 85 :: cellsH b1 [arv, rsv] 33 :: L)
           refine XL.cons (XOp.append1 (u := (ds.getD k 0) + 1) [_, _, _, _, _, _, _] _ Try.runUnderlying22 Try.typeInfo2 rfl rfl rfl rfl rfl rfl (SlV.own [] rfl) (Rd.sl [] rfl rfl) (by (try simp only [List.length_append, List.length_nil, List.length_cons, List.length_singleton, List.length_take, List.length_drop]); omega) ?_)
           intro v16 hs5 hn4
           refine XL.cons (XOp.fieldP (b := b3) (3) Try.runUnderlying85 rfl Try.sizeOf22 (by decide) rfl rfl ?_)
           refine XL.cons (XOp.store1 (v := v16) [_, _, _, _, _, _, _, _] _ [v8, v10, v13, v16, .bool (true)] Try.sizeOf22 rfl rfl (one_sl hs5) rfl rfl rfl ?_)
           refine XL.nil ?_
           refine X.region ?_
           refine XL.cons (XOp.move (.int .i64 (((q : Nat) : Int))) rfl ?_)
           refine XL.cons (XOp.addR (a := ((q : Nat) : Int)) (b := 1) (((q + 1 : Nat) : Int)) rfl rfl (by omega) (by omega) ?_)
           refine XL.cons (XOp.assign (.int .i64 (((q + 1 : Nat) : Int))) rfl ?_)
           refine XL.nil ?_
           exact ⟨(q + 1, os ++ [((nx.getD q (0, 0, [])).2.2, (k : Int), nx.getD q (0, 0, []), (EL os0 k).2.2.2 + 1)], v8, ts ++ [(nx.getD q (0, 0, [])).2.2], acs ++ [a2], (an) + 1, v10, fs ++ [((k : Nat) : Int)], v13, bs ++ [((nx.getD q (0, 0, [])).1, (nx.getD q (0, 0, [])).2.1, (nx.getD q (0, 0, [])).2.2)], ccs ++ [.int .i64 ((nx.getD q (0, 0, [])).1), .int .i64 ((nx.getD q (0, 0, [])).2.1), a2], (cn) + 1, v16, ds ++ [(ds.getD k 0) + 1], G2), _, leG2, (FLe.refl _), ⟨rfl, rfl, rfl, rfl, rfl, rfl, rfl, trivial⟩, (Sub.drop (Sub.drop (Sub.drop (Sub.drop (Sub.cons (Sub.cons (Sub.cons (Sub.cons (Sub.cons (Sub.cons (Sub.cons (Sub.refl _)))))))))))), ⟨rfl, leG2, (hs2), (hs3), (hs4), (hs5), (hc3), (hc4), (by (try dsimp only); rw [List.length_append, List.length_singleton]; omega), (by (try dsimp only); rw [List.length_append, List.length_singleton]; omega), (by (try dsimp only); rw [terms_snoc, htsi]), (by (try dsimp only); rw [froms_snoc, hfsi]), (by (try dsimp only); rw [bys_snoc, hbsi]), (by (try dsimp only); rw [deeps_snoc, ← hdsi, hdk9]), (by (try dsimp only); rw [List.length_append, List.length_singleton]; omega), (hoki.snoc (hnxo q (by omega))), (hdoi.snoc (by dsimp only; omega)), (by (try dsimp only) <;> omega), (by (try dsimp only); rw [List.length_append, List.length_singleton]; omega), (by (try dsimp only); rw [EL_snoc hkp]; exact hel), (by (try dsimp only); exact hgoi.trans (add_new (by omega) hnin (by omega)))⟩, (by omega)⟩
    ·refine X.exit (thenQ_exit (thenQ_exit (blockQ_exit ?_)))
     refine X.region ?_
     refine XL.cons (XOp.move (.int .i64 (((k : Nat) : Int))) rfl ?_)
     refine XL.cons (XOp.addR (a := ((k : Nat) : Int)) (b := 1) (((k + 1 : Nat) : Int)) rfl rfl (by omega) (by omega) ?_)
     refine XL.cons (XOp.assign (.int .i64 (((k + 1 : Nat) : Int))) rfl ?_)
     refine XL.nil ?_
     exact ⟨(k + 1, os, av, ts, acs, an, bv, fs, cv, bs, ccs, cn, dv, ds, G2), _, (FLe.trans (FLe.trans leG1 le2) leG2), (FLe.refl _), ⟨rfl, rfl, rfl, rfl, rfl, trivial⟩, (Sub.cons (Sub.cons (Sub.cons (Sub.cons (Sub.cons (Sub.cons (Sub.cons (Sub.refl _)))))))), ⟨rfl, (FLe.trans (FLe.trans leG1 le2) leG2), (havi), (hbvi), (hcvi), (hdvi), (hAi), (hBi), (hani), (hcni), (htsi), (hfsi), (hbsi), (hdsi), (hli), (hoki), (hdoi), (by (try dsimp only); omega), (by (try dsimp only); have h9 := hgoi.trans (add_end (by omega)); have h8 := reach_more (ar := ar) (rs := rs) (n := n) (f := 60 - k - 1) hk70 (by omega) hdeep0 (by rw [hnx0, h9]); rw [hnx0, h9] at h8; exact hgo0.trans h8)⟩, (by (try dsimp only); omega)⟩
 ·refine X.exit (thenQ_exit (thenQ_exit (blockQ_exit ?_)))
  refine X.seq ?_
  refine X.region ?_
  refine XL.cons (XOp.loadN [av, bv, cv, dv, .bool (true)] Try.isAgg85 Try.sizeOf85 rfl rfl (Rd.ownN [_, _, _, _] rfl rfl) ?_)
  refine XL.cons (XOp.storeN (vs := [av, bv, cv, dv, .bool (true)]) [_, _, _, _, _] _ [av, bv, cv, dv, .bool (true)] Try.sizeOf85 rfl rfl rfl (ones_cons (one_sl hav) (ones_cons (one_sl hbv) (ones_cons (one_sl hcv) (ones_cons (one_sl hdv) (ones_cons rfl ones_nil))))) rfl rfl rfl ?_)
  refine XL.nil ?_
  refine X.freezeF [] _ _ rfl (fun F8 le8 hz7 => ?_)
  replace har := har.mono le8
  replace hrs := hrs.mono le8
  replace ht := ht.mono le8
  replace hf1 := hf1.mono le8
  replace hc1 := hc1.mono le8
  replace hc2 := hc2.mono le8
  replace hA := hA.mono le8
  replace hB := hB.mono le8
  have hf7 : RowsF F8 av ts := CO.fz hA (by first | rfl | simp | omega) hz7.fz
  refine X.freezeF [] _ _ rfl (fun F9 le9 hz8 => ?_)
  replace har := har.mono le9
  replace hrs := hrs.mono le9
  replace ht := ht.mono le9
  replace hf1 := hf1.mono le9
  replace hc1 := hc1.mono le9
  replace hc2 := hc2.mono le9
  replace hA := hA.mono le9
  replace hB := hB.mono le9
  replace hf7 := hf7.mono le9
  have hf8 : IntsF F9 bv fs := intsH.fz (xs := fs) hz8.fz
  refine X.freezeF [] _ _ rfl (fun F10 le10 hz9 => ?_)
  replace har := har.mono le10
  replace hrs := hrs.mono le10
  replace ht := ht.mono le10
  replace hf1 := hf1.mono le10
  replace hc1 := hc1.mono le10
  replace hc2 := hc2.mono le10
  replace hA := hA.mono le10
  replace hB := hB.mono le10
  replace hf7 := hf7.mono le10
  replace hf8 := hf8.mono le10
  have hf9 : StepsF F10 cv bs := CO.fz hB (by first | rfl | simp | omega) hz9.fz
  refine X.freezeF [] _ _ rfl (fun F11 le11 hz10 => ?_)
  replace har := har.mono le11
  replace hrs := hrs.mono le11
  replace ht := ht.mono le11
  replace hf1 := hf1.mono le11
  replace hc1 := hc1.mono le11
  replace hc2 := hc2.mono le11
  replace hA := hA.mono le11
  replace hB := hB.mono le11
  replace hf7 := hf7.mono le11
  replace hf8 := hf8.mono le11
  replace hf9 := hf9.mono le11
  have hf10 : IntsF F11 dv ds := intsH.fz (xs := ds) hz10.fz
  refine X.ret (retEnd (L' := L) [.agg #[av, bv, cv, dv, .bool (true)]] (.agg #[av, bv, cv, dv, .bool (true)]) (.cell rfl (loadNV [av, bv, cv, dv, .bool (true)] Try.isAgg85 Try.sizeOf85 rfl (Rd.ownN [_] rfl rfl)) .nil) rfl (FLe.trans (FLe.trans (FLe.trans (FLe.trans (FLe.trans le1 leG1) le8) le9) le10) le11) (FLe.refl _) (Sub.drop (Sub.drop (Sub.drop (Sub.refl _)))) ?_)
  have e9 : reachL ar rs t n = (os, true) := hgo.trans (reach_done (by omega) hl)
  rw [e9]
  exact ⟨_, _, _, _, rfl, by rw [← hts]; exact hf7, by rw [← hfs]; exact hf8, by rw [← hbs]; exact hf9, by rw [← hds]; exact hf10, rfl⟩
end Go.Proofs.Ytiaanelimbmniaa
set_option linter.unusedSimpArgs false
set_option linter.unusedVariables false
namespace Go.Proofs.Ytiaanelimbmniaa
open Go X M

/- impl.NormalsOf -/
set_option maxRecDepth 20000 in
theorem NormalsOf_spec {F : FH} {L : List HP} {arv : Value} {ar : List Int} (har : IntsF F arv ar) {rsv : Value} {rs : List (List Int × List Int)} (hrs : PairsF F rsv rs) {tv : Value} {t : List Int} (ht : IntsF F tv t) {n : Int} (hlt9 : t.length ≤ 4000000) :
    Does Try.prog 27 [.agg #[arv, rsv], tv, .int .i64 (n)] F (L) (fun v F' L' => ∃ (a : Value), (a : Value) = v ∧ (RowsF F' a (normsF ar rs t n)) ∧ (Fresh F F' (star [rowsD 2 22 a (normsF ar rs t n)])) ∧ L = L') := by
 refine Does.of_X Try.func27 rfl rfl rfl ?_
 refine X.seq ?_
 refine X.region ?_
 refine XL.cons (XOp.box [arv, rsv] rfl rfl ?_)
 intro b1
 refine XL.cons (XOp.assign ((.slice none 0 0)) rfl ?_)
 refine XL.nil ?_
 refine X.seq ?_
 refine X.seq ?_
 refine X.region ?_
 refine XL.cons (XOp.loadN [arv, rsv] Try.isAgg33 Try.sizeOf33 rfl rfl (Rd.ownN [] rfl rfl) ?_)
 refine XL.cons (XOp.move (.int .i64 (n)) rfl ?_)
 refine XL.cons (XOp.move (tv) rfl ?_)
 refine XL.cons (XOp.buildSlice (s := 1) [tv] [(.slice none 0 0)] [(0, [tv])] Try.runUnderlying49 Try.sizeOf22 Try.zeroValue22 rfl (by decide) rfl (.cons (cells_one (IntsF.isSl ht)) CellsAre.nil) rfl ?_)
 intro v1 hv1
 have hc1 : RowsC F [tv] ([t] : List (List Int)) := (RowsC.snoc (CO.nil : RowsC F [] []) ht)
 refine XL.freezeF [] _ _ rfl (fun F1 le1 hz1 => ?_)
 replace har := har.mono le1
 replace hrs := hrs.mono le1
 replace ht := ht.mono le1
 replace hc1 := hc1.mono le1
 have hf1 : RowsF F1 v1 (([t] : List (List Int))) := CO.fz hc1 (by first | rfl | simp | omega) hz1.fz
 refine XL.cons (XOp.call (args := [.agg #[arv, rsv], .int .i64 (n), v1]) Try.call51 rfl (reachOk_spec (n := n) har hrs hf1 (hlt := (by first | assumption | rfl | omega | (left; simp; done) | (right; simp; done)))) ?_)
 rintro _ _ _ _ ⟨rfl, rfl, rfl⟩
 refine XL.cons (XOp.notB (b := reachOkL ar rs n (([t] : List (List Int)))) rfl ?_)
 refine XL.nil ?_
 refine X.cond (t := !(reachOkL ar rs n (([t] : List (List Int))))) rfl (fun h1 => ?_) (fun h1 => ?_)
 ·have hro : reachOkL ar rs n [t] = false := by simpa using h1
  refine X.seq ?_
  refine X.region ?_
  refine XL.cons (XOp.assign ((.slice none 0 0)) rfl ?_)
  refine XL.nil ?_
  refine X.ret (thenQ_ret (retEnd (L' := L) [(.slice none 0 0)] ((.slice none 0 0)) (.tmp rfl .nil) rfl le1 (FLe.refl _) (Sub.drop (Sub.refl _)) ?_))
  have e2 : normsF ar rs t n = [] := by unfold normsF; rw [reachF_no hro]; rfl
  rw [e2]
  exact ⟨_, rfl, SlOf.nilV, Fresh.empty nilRowsD, rfl⟩
 ·have hro : reachOkL ar rs n [t] = true := by simpa using h1
  have hr3 := reachOk_iff.1 hro
  have hsys := hr3.1.1
  have ho := hr3.1.2
  have hro2 := reachL_ok (n := n) hsys ho
  have hro3 := hro2.1
  refine X.skip ?_
  refine X.seq ?_
  refine X.region ?_
  refine XL.cons (XOp.assign ((.slice none 0 0)) rfl ?_)
  refine XL.nil ?_
  refine X.seq ?_
  refine X.region ?_
  refine XL.cons (XOp.loadN [arv, rsv] Try.isAgg33 Try.sizeOf33 rfl rfl (Rd.ownN [] rfl rfl) ?_)
  refine XL.cons (XOp.move (tv) rfl ?_)
  refine XL.cons (XOp.move (.int .i64 (n)) rfl ?_)
  refine XL.cons (XOp.call (args := [.agg #[arv, rsv], tv, .int .i64 (n)]) Try.call66 rfl (reach_spec (n := n) har hrs ht (hsys := (by first | assumption | rfl | omega | (left; simp; done) | (right; simp; done))) (ho := (by first | assumption | rfl | omega | (left; simp; done) | (right; simp; done))) (hn20 := (by first | assumption | rfl | omega | (left; simp; done) | (right; simp; done)))) ?_)
  rintro _ F2 _ le2 ⟨x1, xcs1, xLs1, rfl, hx1, hxD1, hxZ1, rfl⟩
  replace har := har.mono le2
  replace hrs := hrs.mono le2
  replace ht := ht.mono le2
  replace hc1 := hc1.mono le2
  replace hf1 := hf1.mono le2
  refine XL.cons (XOp.move (.tuple #[x1, .bool ((reachL ar rs t n).2)]) rfl ?_)
  refine XL.cons (XOp.extract (x1) rfl rfl ?_)
  refine XL.cons (XOp.extract (.bool ((reachL ar rs t n).2)) rfl rfl ?_)
  refine XL.cons (XOp.assign (x1) rfl ?_)
  refine XL.cons (XOp.assign (.bool ((reachL ar rs t n).2)) rfl ?_)
  refine XL.nil ?_
  refine X.seq ?_
  refine X.seq ?_
  refine X.region ?_
  refine XL.cons (XOp.move (x1) rfl ?_)
  refine XL.cons (XOp.lenS (v := x1) (n := ((reachL ar rs t n).1).length) Try.runUnderlying87 rfl hx1.slv ?_)
  refine XL.cons (XOp.move (.int .i64 (0)) rfl ?_)
  refine XL.nil ?_
  refine X.block ?_
  refine X.loop (α := Nat × Value × RowL × List Value × List HP × Nat) (fun xQ => [(3, ptr b1 0), (7, xQ.2.1), (25, x1), (26, .int .i64 (((((reachL ar rs t n).1).length : Nat) : Int))), (27, .int .i64 (((xQ.1 : Nat) : Int)))]) (fun xQ => slH 22 1 xQ.2.1 xQ.2.2.2.2.2 xQ.2.2.2.1 :: cellsH b1 [arv, rsv] 33 :: L) (fun xQ F' => F2 = F' ∧ (IsSl xQ.2.1) ∧ (xQ.1 ≤ (reachL ar rs t n).1.length) ∧ (RowsC F2 xQ.2.2.2.1 xQ.2.2.1) ∧ (xQ.2.2.2.2.2 = xQ.2.2.1.length) ∧ (DeepL 1 (RowO 2) xQ.2.2.2.1 xQ.2.2.1 xQ.2.2.2.2.1) ∧ (Fresh F1 F2 (star (xQ.2.2.2.2.1 ++ xLs1.drop xQ.1))) ∧ (xQ.2.2.1 = normTo ar rs (reachL ar rs t n).1 xQ.1)) (fun xQ => (reachL ar rs t n).1.length - xQ.1) (0, (.slice none 0 0), [], [], [], 0) ⟨rfl, rfl, rfl, rfl, rfl, trivial⟩ (Sub.trans (Sub.addNil 22 1 _ _) (Sub.cons (Sub.cons (Sub.refl _)))) ⟨rfl, (⟨_, _, _, rfl⟩), (by (try dsimp only) <;> omega), (CO.nil), (rfl), (DeepL.nil), (hxZ1), (by (try dsimp only); simp [normTo])⟩ ?_
  rintro ⟨k, ov, os, ocs, Us, m⟩ rE _ _ ⟨rfl, hov, hk, hC, hm, hD, hZ, hos⟩
  show X _ _ _ _ (envs [(3, ptr b1 0), (7, ov), (25, x1), (26, .int .i64 (((((reachL ar rs t n).1).length : Nat) : Int))), (27, .int .i64 (((k : Nat) : Int)))] rE) _ (slH 22 1 ov m ocs :: cellsH b1 [arv, rsv] 33 :: L)
  dsimp only at hov hk hC hm hD hZ hos
  have hol : os.length ≤ k := by rw [hos]; exact normTo_len k
  have hDf := hxD1
  refine X.seq ?_
  refine X.region ?_
  refine XL.cons (XOp.lss (a := ((k : Nat) : Int)) (b := ((((reachL ar rs t n).1).length : Nat) : Int)) rfl rfl ?_)
  refine XL.nil ?_
  refine X.seq ?_
  refine X.condD (p := (((k : Nat) : Int) : Int) < ((((reachL ar rs t n).1).length : Nat) : Int)) rfl (fun h2 => ?_) (fun h2 => ?_)
  ·refine X.skip ?_
   refine X.seq ?_
   refine X.block ?_
   refine X.seq ?_
   refine X.region ?_
   refine XL.cons (XOp.indexS (v := x1) (i := ((k : Nat) : Int)) (n := ((reachL ar rs t n).1).length) k Try.runUnderlying87 Try.sizeOf91 rfl rfl rfl hx1.slv (by omega) rfl ?_)
   obtain ⟨a1, a2, ha1, ha2, hr1, hq1⟩ := hx1.rd (i := k) (by omega)
   refine XL.cons (XOp.loadN [a1, .int .i64 ((((reachL ar rs t n).1).getD k ([], 0, (0, 0, []), 0)).2.1), .int .i64 ((((reachL ar rs t n).1).getD k ([], 0, (0, 0, []), 0)).2.2.1.1), .int .i64 ((((reachL ar rs t n).1).getD k ([], 0, (0, 0, []), 0)).2.2.1.2.1), a2, .int .i64 ((((reachL ar rs t n).1).getD k ([], 0, (0, 0, []), 0)).2.2.2)] Try.isAgg91 Try.sizeOf91 rfl rfl (Rd.all (hr1 _)) ?_)
   refine XL.cons (XOp.alloc [(.slice none 0 0), .int .i64 (0), .int .i64 (0), .int .i64 (0), (.slice none 0 0), .int .i64 (0)] Try.zeroValue91 rfl ?_)
   intro b2
   refine XL.cons (XOp.storeN (vs := [a1, .int .i64 ((((reachL ar rs t n).1).getD k ([], 0, (0, 0, []), 0)).2.1), .int .i64 ((((reachL ar rs t n).1).getD k ([], 0, (0, 0, []), 0)).2.2.1.1), .int .i64 ((((reachL ar rs t n).1).getD k ([], 0, (0, 0, []), 0)).2.2.1.2.1), a2, .int .i64 ((((reachL ar rs t n).1).getD k ([], 0, (0, 0, []), 0)).2.2.2)]) [] _ [a1, .int .i64 ((((reachL ar rs t n).1).getD k ([], 0, (0, 0, []), 0)).2.1), .int .i64 ((((reachL ar rs t n).1).getD k ([], 0, (0, 0, []), 0)).2.2.1.1), .int .i64 ((((reachL ar rs t n).1).getD k ([], 0, (0, 0, []), 0)).2.2.1.2.1), a2, .int .i64 ((((reachL ar rs t n).1).getD k ([], 0, (0, 0, []), 0)).2.2.2)] Try.sizeOf91 rfl rfl rfl (ones_cons (one_sl (IntsF.isSl ha1)) (ones_cons rfl (ones_cons rfl (ones_cons rfl (ones_cons (one_sl (IntsF.isSl ha2)) (ones_cons rfl ones_nil)))))) rfl rfl rfl ?_)
   refine XL.nil ?_
   refine X.seq ?_
   refine X.region ?_
   refine XL.cons (XOp.loadN [arv, rsv] Try.isAgg33 Try.sizeOf33 rfl rfl (Rd.ownN [_, _] rfl rfl) ?_)
   refine XL.cons (XOp.fieldP (b := b2) (0) Try.runUnderlying91 rfl Try.sizeOf22 (by decide) rfl rfl ?_)
   refine XL.cons (XOp.load1 (v := a1) Try.isAgg22 rfl (Rd.own [] rfl rfl) ?_)
   refine XL.cons (XOp.call (args := [.agg #[arv, rsv], a1]) Try.call67 rfl (normal_spec har hrs ha1 (hsys := (by first | assumption | rfl | omega | (left; simp; done) | (right; simp; done))) (ho := (hro2.2 k (by omega)))) ?_)
   rintro _ _ _ _ ⟨rfl, rfl, rfl⟩
   refine XL.nil ?_
   refine X.cond (t := normalL ar rs ((((reachL ar rs t n).1).getD k ([], 0, (0, 0, []), 0)).1)) rfl (fun h3 => ?_) (fun h3 => ?_)
   ·have hnk : normalL ar rs (EL (reachL ar rs t n).1 k).1 = true := by exact h3
    refine X.region ?_
    refine XL.cons (XOp.move (ov) rfl ?_)
    refine XL.cons (XOp.fieldP (b := b2) (0) Try.runUnderlying91 rfl Try.sizeOf22 (by decide) rfl rfl ?_)
    refine XL.cons (XOp.load1 (v := a1) Try.isAgg22 rfl (Rd.own [] rfl rfl) ?_)
    refine XL.cons (XOp.buildSlice (s := 1) [a1] [(.slice none 0 0)] [(0, [a1])] Try.runUnderlying49 Try.sizeOf22 Try.zeroValue22 rfl (by decide) rfl (.cons (cells_one (IntsF.isSl ha1)) CellsAre.nil) rfl ?_)
    intro v2 hv2
    refine XL.cons (XOp.append (m := 1) (bytes := 24) (cs := ocs) [_, _] _ [a1] Try.runUnderlying49 Try.typeInfo22 rfl rfl rfl rfl rfl rfl rfl (SlV.own [] rfl) rfl (Rd.lit [] rfl) (ones_cons (one_sl (IntsF.isSl ha1)) ones_nil) (by (try simp only [List.length_append, List.length_nil, List.length_cons, List.length_singleton]); omega) (by (try simp only [List.length_append, List.length_nil, List.length_cons, List.length_singleton]); omega) ?_)
    intro v3 hs1 hn1 hm1
    have hc2 := RowsC.snoc hC ha1
    refine XL.cons (XOp.assign (v3) rfl ?_)
    refine XL.nil ?_
    refine X.region ?_
    refine XL.cons (XOp.addR (a := ((k : Nat) : Int)) (b := 1) (((k + 1 : Nat) : Int)) rfl rfl (by omega) (by omega) ?_)
    refine XL.cons (XOp.move (.int .i64 (((k + 1 : Nat) : Int))) rfl ?_)
    refine XL.nil ?_
    exact ⟨(k + 1, v3, os ++ [(((reachL ar rs t n).1).getD k ([], 0, (0, 0, []), 0)).1], ocs ++ [a1], Us ++ [intsH 2 a1 ((reachL ar rs t n).1.getD k ([], 0, (0, 0, []), 0)).1], (m) + 1), _, FLe.refl _, (FLe.refl _), ⟨rfl, rfl, rfl, rfl, rfl, trivial⟩, (Sub.drop (Sub.drop (Sub.cons (Sub.cons (Sub.refl _))))), ⟨rfl, (hs1), (by (try dsimp only) <;> omega), (hc2), (by (try dsimp only); (try rw [List.length_append, List.length_singleton]); omega), (DeepL.snoc hD rfl ⟨_, rfl, rfl⟩), ((Fresh.keepLeaf hZ ((hxD1.leaves6).2 k _ (by omega) (hq1 0 _ rfl)))), (by (try dsimp only); rw [hos]; exact (normTo_yes (by omega) hnk).symm)⟩, (by omega)⟩
   ·have hnk : normalL ar rs (EL (reachL ar rs t n).1 k).1 = false := by exact h3
    refine X.skip ?_
    refine X.region ?_
    refine XL.cons (XOp.addR (a := ((k : Nat) : Int)) (b := 1) (((k + 1 : Nat) : Int)) rfl rfl (by omega) (by omega) ?_)
    refine XL.cons (XOp.move (.int .i64 (((k + 1 : Nat) : Int))) rfl ?_)
    refine XL.nil ?_
    exact ⟨(k + 1, ov, os, ocs, Us, m), _, FLe.refl _, (FLe.refl _), ⟨rfl, rfl, rfl, rfl, rfl, trivial⟩, (Sub.drop (Sub.cons (Sub.cons (Sub.refl _)))), ⟨rfl, (hov), (by (try dsimp only) <;> omega), (hC), (by (try dsimp only); (try rw [List.length_append, List.length_singleton]); omega), (hD), ((Fresh.skipLeaf hZ ((hxD1.leaves6).2 k _ (by omega) (hq1 0 _ rfl)))), (by (try dsimp only); rw [hos]; exact (normTo_no (by omega) hnk).symm)⟩, (by omega)⟩
  ·refine X.exit (thenQ_exit (thenQ_exit (blockQ_exit ?_)))
   refine X.seq ?_
   refine X.region ?_
   refine XL.cons (XOp.move (ov) rfl ?_)
   refine XL.cons (XOp.assign (ov) rfl ?_)
   refine XL.nil ?_
   refine X.freezeF [] _ _ rfl (fun F3 le3 hz2 => ?_)
   replace har := har.mono le3
   replace hrs := hrs.mono le3
   replace ht := ht.mono le3
   replace hc1 := hc1.mono le3
   replace hf1 := hf1.mono le3
   replace hx1 := hx1.mono le3
   replace hC := hC.mono le3
   have hf2 : RowsF F3 ov os := CO.fz hC (by first | rfl | simp | omega) hz2.fz
   refine X.ret (retEnd (L' := L) [ov] (ov) (.tmp rfl .nil) rfl (FLe.trans (FLe.trans le1 le2) le3) (FLe.refl _) (Sub.drop (Sub.refl _)) ?_)
   have hkl : k = (reachL ar rs t n).1.length := by omega
   have e1 : os = normTo ar rs (reachL ar rs t n).1 (reachL ar rs t n).1.length := by rw [hos, hkl]
   have hz9 := hz2
   have hZ8 := Fresh.noMore hZ
   have e2 : normsF ar rs t n = os := by unfold normsF; rw [reachF_yes hro, e1]
   rw [e2]
   exact ⟨_, rfl, hf2, Fresh.one ((Fresh.deep hD hZ8 le2 hz9 hm le3).base le1), rfl⟩

/- spec.NormalsOf -/
set_option maxRecDepth 20000 in
theorem sNormalsOf_spec {F : FH} {L : List HP} {arv : Value} {ar : List Int} (har : IntsF F arv ar) {rsv : Value} {rs : List (List Int × List Int)} (hrs : PairsF F rsv rs) {tv : Value} {t : List Int} (ht : IntsF F tv t) {n : Int} (hla : ar.length ≤ 4000000) (hlr : rs.length ≤ 4000000) (hrb : ∀ i, i < rs.length → (rs.getD i ([], [])).1.length ≤ 4000000 ∧ (rs.getD i ([], [])).2.length ≤ 4000000) (hlt : t.length ≤ 4000000) :
    Does Try.prog 26 [.agg #[arv, rsv], tv, .int .i64 (n)] F (L) (fun v F' L' => ∃ (a : Value), (a : Value) = v ∧ (RowsF F' a (normsF ar rs t n)) ∧ L = L') := by
 refine Does.of_X Try.func26 rfl rfl rfl ?_
 refine X.seq ?_
 refine X.region ?_
 refine XL.cons (XOp.box [arv, rsv] rfl rfl ?_)
 intro b1
 refine XL.cons (XOp.assign ((.slice none 0 0)) rfl ?_)
 refine XL.nil ?_
 refine X.seq ?_
 refine X.region ?_
 refine XL.cons (XOp.buildSlice (s := 1) [] [(.slice none 0 0)] [] Try.runUnderlying49 Try.sizeOf22 Try.zeroValue22 rfl (by decide) rfl CellsAre.nil rfl ?_)
 intro v1 hv1
 refine XL.cons (XOp.assign (v1) rfl ?_)
 refine XL.nil ?_
 refine X.seq ?_
 refine X.seq ?_
 refine X.region ?_
 refine XL.cons (XOp.loadN [arv, rsv] Try.isAgg33 Try.sizeOf33 rfl rfl (Rd.ownN [_] rfl rfl) ?_)
 refine XL.cons (XOp.move (tv) rfl ?_)
 refine XL.cons (XOp.move (.int .i64 (n)) rfl ?_)
 refine XL.cons (XOp.call (args := [.agg #[arv, rsv], tv, .int .i64 (n)]) Try.call48 rfl (l9Right_spec (n := n) har hrs ht (hla := (by first | assumption | rfl | omega | (left; simp; done) | (right; simp; done))) (hlr := (by first | assumption | rfl | omega | (left; simp; done) | (right; simp; done))) (hrb := (by first | assumption | rfl | omega | (left; simp; done) | (right; simp; done))) (hlt := (by first | assumption | rfl | omega | (left; simp; done) | (right; simp; done)))) ?_)
 rintro _ _ _ _ ⟨rfl, rfl, rfl⟩
 refine XL.cons (XOp.notB (b := reachOkL ar rs n [t]) rfl ?_)
 refine XL.nil ?_
 refine X.cond (t := !(reachOkL ar rs n [t])) rfl (fun h1 => ?_) (fun h1 => ?_)
 ·have hro : reachOkL ar rs n [t] = false := by simpa using h1
  refine X.seq ?_
  refine X.region ?_
  refine XL.cons (XOp.move (v1) rfl ?_)
  refine XL.cons (XOp.assign (v1) rfl ?_)
  refine XL.nil ?_
  have hc1 : RowsC F [] ([] : List (List Int)) := (CO.nil : RowsC F [] [])
  refine X.freezeF [] _ _ rfl (fun F1 le1 hz1 => ?_)
  replace har := har.mono le1
  replace hrs := hrs.mono le1
  replace ht := ht.mono le1
  replace hc1 := hc1.mono le1
  have hf1 : RowsF F1 v1 (([] : List (List Int))) := CO.fz hc1 (by first | rfl | simp | omega) hz1.fz
  refine X.ret (thenQ_ret (retEnd (L' := L) [v1] (v1) (.tmp rfl .nil) rfl le1 (FLe.refl _) (Sub.drop (Sub.refl _)) ?_))
  have e2 : normsF ar rs t n = [] := by unfold normsF; rw [reachF_no hro]; rfl
  rw [e2]
  exact ⟨_, rfl, hf1, rfl⟩
 ·have hro : reachOkL ar rs n [t] = true := by simpa using h1
  have hr3 := reachOk_iff.1 hro
  have hsys := hr3.1.1
  have ho := hr3.1.2
  have hro2 := reachL_ok (n := n) hsys ho
  have hro3 := hro2.1
  have htl9 : (terms (reachL ar rs t n).1).length = (reachL ar rs t n).1.length := terms_len
  refine X.skip ?_
  refine X.seq ?_
  refine X.region ?_
  refine XL.cons (XOp.loadN [arv, rsv] Try.isAgg33 Try.sizeOf33 rfl rfl (Rd.ownN [_] rfl rfl) ?_)
  refine XL.cons (XOp.move (tv) rfl ?_)
  refine XL.cons (XOp.move (.int .i64 (n)) rfl ?_)
  refine XL.cons (XOp.call (args := [.agg #[arv, rsv], tv, .int .i64 (n)]) Try.call64 rfl (l9Find_spec (n := n) har hrs ht (hsys := (by first | assumption | rfl | omega | (left; simp; done) | (right; simp; done))) (ho := (by first | assumption | rfl | omega | (left; simp; done) | (right; simp; done))) (hn20 := (by first | assumption | rfl | omega | (left; simp; done) | (right; simp; done)))) ?_)
  rintro _ F2 _ le2 ⟨x1, x2, x3, x4, rfl, hr1, hr2, hr3, hr4, rfl⟩
  replace har := har.mono le2
  replace hrs := hrs.mono le2
  replace ht := ht.mono le2
  refine XL.cons (XOp.alloc [(.slice none 0 0), (.slice none 0 0), (.slice none 0 0), (.slice none 0 0), .bool (false)] Try.zeroValue85 rfl ?_)
  intro b2
  refine XL.cons (XOp.storeN (vs := [x1, x2, x3, x4, .bool ((reachL ar rs t n).2)]) [] _ [x1, x2, x3, x4, .bool ((reachL ar rs t n).2)] Try.sizeOf85 rfl rfl rfl (ones_cons (one_sl (RowsF.isSl hr1)) (ones_cons (one_sl (IntsF.isSl hr2)) (ones_cons (one_sl (StepsF.isSl hr3)) (ones_cons (one_sl (IntsF.isSl hr4)) (ones_cons rfl ones_nil))))) rfl rfl rfl ?_)
  refine XL.nil ?_
  refine X.seq ?_
  refine X.seq ?_
  refine X.region ?_
  refine XL.cons (XOp.assign (.int .i64 (0)) rfl ?_)
  refine XL.nil ?_
  refine X.block ?_
  refine X.loop (α := Nat × Value × RowL × List Value × Nat × FH) (fun xQ => [(3, ptr b1 0), (7, xQ.2.1), (8, ptr b2 0), (9, .int .i64 (((xQ.1 : Nat) : Int)))]) (fun xQ => slH 22 1 xQ.2.1 xQ.2.2.2.2.1 xQ.2.2.2.1 :: cellsH b2 [x1, x2, x3, x4, .bool ((reachL ar rs t n).2)] 85 :: cellsH b1 [arv, rsv] 33 :: L) (fun xQ F' => xQ.2.2.2.2.2 = F' ∧ F2 ≤ xQ.2.2.2.2.2 ∧ (IsSl xQ.2.1) ∧ (xQ.1 ≤ (terms (reachL ar rs t n).1).length) ∧ (RowsC xQ.2.2.2.2.2 xQ.2.2.2.1 xQ.2.2.1) ∧ (xQ.2.2.2.2.1 = xQ.2.2.1.length) ∧ (xQ.2.2.1 = normTo ar rs (reachL ar rs t n).1 xQ.1)) (fun xQ => (terms (reachL ar rs t n).1).length - xQ.1) (0, v1, [], [], 0, F2) ⟨rfl, rfl, rfl, rfl, trivial⟩ (Sub.trans (Sub.front (A := [_, _])) (Sub.trans (Sub.front (A := [_])) (Sub.trans (Sub.front (A := [_, _])) (Sub.cons (Sub.cons (Sub.cons (Sub.refl _))))))) ⟨rfl, FLe.refl _, ((isSl_lit hv1)), (by (try dsimp only) <;> omega), (CO.nil), (rfl), (by (try dsimp only); simp [normTo])⟩ ?_
  rintro ⟨k, ov, os, ocs, m, G1⟩ rE _ _ ⟨rfl, leG, hov, hk, hC, hm, hos⟩
  show X _ _ _ _ (envs [(3, ptr b1 0), (7, ov), (8, ptr b2 0), (9, .int .i64 (((k : Nat) : Int)))] rE) _ (slH 22 1 ov m ocs :: cellsH b2 [x1, x2, x3, x4, .bool ((reachL ar rs t n).2)] 85 :: cellsH b1 [arv, rsv] 33 :: L)
  replace leG : F2 ≤ G1 := leG
  dsimp only at hov hk hC hm hos
  have hol : os.length ≤ k := by rw [hos]; exact normTo_len k
  have hgt : (terms (reachL ar rs t n).1).getD k [] = (EL (reachL ar rs t n).1 k).1 := terms_get k
  have hgl : k < (terms (reachL ar rs t n).1).length → 1 ≤ ((terms (reachL ar rs t n).1).getD k []).length ∧ ((terms (reachL ar rs t n).1).getD k []).length ≤ 60 := fun h => by rw [hgt]; exact termOk_len (hro2.2 k (by omega))
  have leG1 := leG
  replace har := har.mono leG1
  replace hrs := hrs.mono leG1
  replace ht := ht.mono leG1
  replace hr1 := hr1.mono leG1
  replace hr2 := hr2.mono leG1
  replace hr3 := hr3.mono leG1
  replace hr4 := hr4.mono leG1
  refine X.seq ?_
  refine X.seq ?_
  refine X.region ?_
  refine XL.cons (XOp.move (.int .i64 (((k : Nat) : Int))) rfl ?_)
  refine XL.cons (XOp.fieldP (b := b2) (0) Try.runUnderlying85 rfl Try.sizeOf49 (by decide) rfl rfl ?_)
  refine XL.cons (XOp.load1 (v := x1) Try.isAgg49 rfl (Rd.own [_] rfl rfl) ?_)
  refine XL.cons (XOp.lenS (v := x1) (n := (terms (reachL ar rs t n).1).length) Try.runUnderlying49 rfl hr1.slv ?_)
  refine XL.cons (XOp.lss (a := ((k : Nat) : Int)) (b := (((terms (reachL ar rs t n).1).length : Nat) : Int)) rfl rfl ?_)
  refine XL.nil ?_
  refine X.condD (p := (((k : Nat) : Int) : Int) < (((terms (reachL ar rs t n).1).length : Nat) : Int)) rfl (fun h2 => ?_) (fun h2 => ?_)
  ·refine X.skip ?_
   refine X.seq ?_
   refine X.block ?_
   refine X.seq ?_
   obtain ⟨a1, ha1, hr5⟩ := hr1.rd (i := k) (by omega)
   refine X.draw [slH 22 1 ov m ocs, cellsH b2 [x1, x2, x3, x4, .bool ((reachL ar rs t n).2)] 85, cellsH b1 [arv, rsv] 33] L 6 [[], [], [], [], [], []] [[], [], [1], [], [2, 3], [4]] (phiL [fun us v => v = (.agg #[arv, rsv] : Value), fun us v => v = ptr b2 0, fun us v => v = x1, fun us v => v = (.int .i64 (((k : Nat) : Int)) : Value), fun us v => v = (.pointer (some (elemA x1 (k))) : Value), fun us v => v = a1]) (ownL [fun us v => [], fun us v => [], fun us v => [], fun us v => [], fun us v => [], fun us v => []]) mixed rfl rfl (by kernel_rfl) ?_ ?_
   ·refine stepsP.cons (fun vals R hpZ => ?_) ?_
    ·refine XG.op (XOp.loadN [arv, rsv] Try.isAgg33 Try.sizeOf33 rfl rfl (Rd.ownN [_, _] rfl rfl) ?_)
     exact ⟨rfl, rfl, rfl⟩
    refine stepsP.cons (fun vals R hpZ => ?_) ?_
    ·refine XG.op (XOp.fieldP (b := b2) (0) Try.runUnderlying85 rfl Try.sizeOf49 (by decide) rfl rfl ?_)
     exact ⟨rfl, rfl, rfl⟩
    refine stepsP.cons (fun vals R hpZ => ?_) ?_
    ·rw [(envs_of_sat (l := [(1, ptr b2 0)]) ⟨hpZ 1 (by decide), trivial⟩).symm]
     refine XG.op (XOp.load1 (v := x1) Try.isAgg49 rfl (Rd.own [_] rfl rfl) ?_)
     exact ⟨rfl, rfl, rfl⟩
    refine stepsP.cons (fun vals R hpZ => ?_) ?_
    ·refine XG.op (XOp.move (.int .i64 (((k : Nat) : Int))) rfl ?_)
     exact ⟨rfl, rfl, rfl⟩
    refine stepsP.cons (fun vals R hpZ => ?_) ?_
    ·rw [(envs_of_sat (l := [(2, x1), (3, (.int .i64 (((k : Nat) : Int)) : Value))]) ⟨hpZ 2 (by decide), hpZ 3 (by decide), trivial⟩).symm]
     refine XG.op (XOp.indexS (v := x1) (i := ((k : Nat) : Int)) (n := (terms (reachL ar rs t n).1).length) k Try.runUnderlying49 Try.sizeOf22 rfl rfl rfl hr1.slv (by omega) (Nat.mul_one _) ?_)
     exact ⟨rfl, rfl, rfl⟩
    refine stepsP.cons (fun vals R hpZ => ?_) ?_
    ·rw [(envs_of_sat (l := [(4, (.pointer (some (elemA x1 (k))) : Value))]) ⟨hpZ 4 (by decide), trivial⟩).symm]
     refine XG.op (XOp.load1 (v := a1) Try.isAgg22 rfl (hr5 _) ?_)
     exact ⟨rfl, rfl, rfl⟩
    exact stepsP.nil
   ·intro vals hphi
    have e0 : vals 0 = (.agg #[arv, rsv] : Value) := hphi 0 (by decide)
    have e1 : vals 1 = ptr b2 0 := hphi 1 (by decide)
    have e2 : vals 2 = x1 := hphi 2 (by decide)
    have e3 : vals 3 = (.int .i64 (((k : Nat) : Int)) : Value) := hphi 3 (by decide)
    have e4 : vals 4 = (.pointer (some (elemA x1 (k))) : Value) := hphi 4 (by decide)
    have e5 : vals 5 = a1 := hphi 5 (by decide)
    rw [(envs_of_sat (l := [(0, (.agg #[arv, rsv] : Value)), (1, ptr b2 0), (2, x1), (3, (.int .i64 (((k : Nat) : Int)) : Value)), (4, (.pointer (some (elemA x1 (k))) : Value)), (5, a1)]) ⟨e0, e1, e2, e3, e4, e5, trivial⟩).symm]
    show XL _ _ _ _ _ _ _ (slH 22 1 ov m ocs :: cellsH b2 [x1, x2, x3, x4, .bool ((reachL ar rs t n).2)] 85 :: cellsH b1 [arv, rsv] 33 :: L)
    refine XL.cons (XOp.call (args := [.agg #[arv, rsv], a1]) Try.call65 rfl (sNormalIn_spec har hrs ha1 (hla := (by first | assumption | rfl | omega | (left; simp; done) | (right; simp; done))) (hlr := (by first | assumption | rfl | omega | (left; simp; done) | (right; simp; done))) (hrb := (by first | assumption | rfl | omega | (left; simp; done) | (right; simp; done))) (hlt := (by have := hgl (by omega); omega))) ?_)
    rintro _ _ _ _ ⟨rfl, rfl, rfl⟩
    refine XL.nil ?_
    refine X.cond (t := (rightB ar rs (((terms (reachL ar rs t n).1).getD k [])) && normalL ar rs (((terms (reachL ar rs t n).1).getD k [])))) rfl (fun h3 => ?_) (fun h3 => ?_)
    ·have hnk : normalL ar rs (EL (reachL ar rs t n).1 k).1 = true := by
      have h7 : rightB ar rs ((terms (reachL ar rs t n).1).getD k []) = true := by rw [hgt]; unfold rightB; rw [hsys]; exact hro2.2 k (by omega)
      have h8 := h3
      rw [h7, hgt] at h8
      simpa using h8
     refine X.region ?_
     refine XL.cons (XOp.move (ov) rfl ?_)
     refine XL.cons (XOp.fieldP (b := b2) (0) Try.runUnderlying85 rfl Try.sizeOf49 (by decide) rfl rfl ?_)
     refine XL.cons (XOp.load1 (v := x1) Try.isAgg49 rfl (Rd.own [_] rfl rfl) ?_)
     refine XL.cons (XOp.move (.int .i64 (((k : Nat) : Int))) rfl ?_)
     refine XL.cons (XOp.indexS (v := x1) (i := ((k : Nat) : Int)) (n := (terms (reachL ar rs t n).1).length) k Try.runUnderlying49 Try.sizeOf22 rfl rfl rfl hr1.slv (by omega) (Nat.mul_one _) ?_)
     refine XL.cons (XOp.load1 (v := a1) Try.isAgg22 rfl (hr5 _) ?_)
     refine XL.cons (XOp.frzF <| XOp.call (args := [a1]) Try.call49 rfl (l1Copy_spec ha1 (hlt := (by have := hgl (by omega); omega))) ?_)
     rintro v2 _ _ _ ⟨rfl, hs1, rfl⟩
     refine ⟨_, _, rfl, fun F3 le3 hz2 => ?_⟩
     replace har := har.mono le3
     replace hrs := hrs.mono le3
     replace ht := ht.mono le3
     replace hr1 := hr1.mono le3
     replace hr2 := hr2.mono le3
     replace hr3 := hr3.mono le3
     replace hr4 := hr4.mono le3
     replace hC := hC.mono le3
     replace ha1 := ha1.mono le3
     replace hr5 := Rd.monoA hr5 le3
     have hf2 : IntsF F3 v2 (((((terms (reachL ar rs t n).1).getD k [])))) := intsH.fz (xs := ((((terms (reachL ar rs t n).1).getD k [])))) hz2.fz
     refine XL.cons (XOp.buildSlice (s := 1) [v2] [(.slice none 0 0)] [(0, [v2])] Try.runUnderlying49 Try.sizeOf22 Try.zeroValue22 rfl (by decide) rfl (.cons (cells_one (IntsF.isSl hf2)) CellsAre.nil) rfl ?_)
     intro v3 hv2
     refine XL.cons (XOp.append (m := 1) (bytes := 24) (cs := ocs) [_] _ [v2] Try.runUnderlying49 Try.typeInfo22 rfl rfl rfl rfl rfl rfl rfl (SlV.own [] rfl) rfl (Rd.lit [] rfl) (ones_cons (one_sl (IntsF.isSl hf2)) ones_nil) (by (try simp only [List.length_append, List.length_nil, List.length_cons, List.length_singleton]); omega) (by (try simp only [List.length_append, List.length_nil, List.length_cons, List.length_singleton]); omega) ?_)
     intro v4 hs2 hn1 hm1
     have hc2 := RowsC.snoc hC hf2
     refine XL.cons (XOp.assign (v4) rfl ?_)
     refine XL.nil ?_
     refine X.region ?_
     refine XL.cons (XOp.move (.int .i64 (((k : Nat) : Int))) rfl ?_)
     refine XL.cons (XOp.addR (a := ((k : Nat) : Int)) (b := 1) (((k + 1 : Nat) : Int)) rfl rfl (by omega) (by omega) ?_)
     refine XL.cons (XOp.assign (.int .i64 (((k + 1 : Nat) : Int))) rfl ?_)
     refine XL.nil ?_
     exact ⟨(k + 1, v4, os ++ [((((terms (reachL ar rs t n).1).getD k [])))], ocs ++ [v2], (m) + 1, F3), _, (FLe.trans leG1 le3), (FLe.refl _), ⟨rfl, rfl, rfl, rfl, trivial⟩, (Sub.drop (Sub.cons (Sub.cons (Sub.cons (Sub.refl _))))), ⟨rfl, (FLe.trans leG1 le3), (hs2), (by (try dsimp only) <;> omega), (hc2), (by (try dsimp only); (try rw [List.length_append, List.length_singleton]); omega), (by (try dsimp only); rw [hos, hgt]; exact (normTo_yes (by omega) hnk).symm)⟩, (by omega)⟩
    ·have hnk : normalL ar rs (EL (reachL ar rs t n).1 k).1 = false := by
      have h7 : rightB ar rs ((terms (reachL ar rs t n).1).getD k []) = true := by rw [hgt]; unfold rightB; rw [hsys]; exact hro2.2 k (by omega)
      have h8 := h3
      rw [h7, hgt] at h8
      simpa using h8
     refine X.skip ?_
     refine X.region ?_
     refine XL.cons (XOp.move (.int .i64 (((k : Nat) : Int))) rfl ?_)
     refine XL.cons (XOp.addR (a := ((k : Nat) : Int)) (b := 1) (((k + 1 : Nat) : Int)) rfl rfl (by omega) (by omega) ?_)
     refine XL.cons (XOp.assign (.int .i64 (((k + 1 : Nat) : Int))) rfl ?_)
     refine XL.nil ?_
     exact ⟨(k + 1, ov, os, ocs, m, G1), _, leG1, (FLe.refl _), ⟨rfl, rfl, rfl, rfl, trivial⟩, (Sub.cons (Sub.cons (Sub.cons (Sub.refl _)))), ⟨rfl, leG1, (hov), (by (try dsimp only) <;> omega), (hC), (by (try dsimp only); (try rw [List.length_append, List.length_singleton]); omega), (by (try dsimp only); rw [hos]; exact (normTo_no (by omega) hnk).symm)⟩, (by omega)⟩
  ·refine X.exit (thenQ_exit (thenQ_exit (blockQ_exit ?_)))
   refine X.seq ?_
   refine X.region ?_
   refine XL.cons (XOp.move (ov) rfl ?_)
   refine XL.cons (XOp.assign (ov) rfl ?_)
   refine XL.nil ?_
   refine X.freezeF [] _ _ rfl (fun F4 le4 hz3 => ?_)
   replace har := har.mono le4
   replace hrs := hrs.mono le4
   replace ht := ht.mono le4
   replace hr1 := hr1.mono le4
   replace hr2 := hr2.mono le4
   replace hr3 := hr3.mono le4
   replace hr4 := hr4.mono le4
   replace hC := hC.mono le4
   have hf3 : RowsF F4 ov os := CO.fz hC (by first | rfl | simp | omega) hz3.fz
   refine X.ret (retEnd (L' := L) [ov] (ov) (.tmp rfl .nil) rfl (FLe.trans (FLe.trans le2 leG1) le4) (FLe.refl _) (Sub.drop (Sub.drop (Sub.refl _))) ?_)
   have e2 : normsF ar rs t n = os := by unfold normsF; rw [reachF_yes hro, hos, show k = (reachL ar rs t n).1.length from by omega]
   rw [e2]
   exact ⟨_, rfl, hf3, rfl⟩

/- laws.FnExactNormalsOf -/
set_option maxRecDepth 20000 in
theorem FnExactNormalsOf_does {F : FH} {L : List HP} {arv : Value} {ar : List Int} (har : IntsF F arv ar) {rsv : Value} {rs : List (List Int × List Int)} (hrs : PairsF F rsv rs) {tv : Value} {t : List Int} (ht : IntsF F tv t) {n : Int} (hlar : ar.length ≤ 9223372036854775807) (hlrs : rs.length ≤ 9223372036854775807) (hbrs : ∀ i, i < rs.length → (rs.getD i ([], [])).1.length ≤ 9223372036854775807 ∧ (rs.getD i ([], [])).2.length ≤ 9223372036854775807) (hlt : t.length ≤ 9223372036854775807) :
    Does Try.prog 6 [.agg #[arv, rsv], tv, .int .i64 (n)] F (L) (fun v F' L' => (.bool (true) : Value) = v ∧ F = F' ∧ L = L') := by
 refine Does.of_X Try.func6 rfl rfl rfl ?_
 have hnl := (normsF_len (ar := ar) (rs := rs) (t := t) (n := n)).1
 have hnb := (normsF_len (ar := ar) (rs := rs) (t := t) (n := n)).2
 have hnf := flat_le hnb
 refine X.seq ?_
 refine X.region ?_
 refine XL.cons (XOp.box [arv, rsv] rfl rfl ?_)
 intro b1
 refine XL.cons (XOp.assign (.bool (false)) rfl ?_)
 refine XL.nil ?_
 refine X.seq ?_
 refine X.seq ?_
 refine X.region ?_
 refine XL.cons (XOp.move (tv) rfl ?_)
 refine XL.cons (XOp.lenS (v := tv) (n := (t).length) Try.runUnderlying22 rfl ht.slv ?_)
 refine XL.cons (XOp.gtr (a := (((t).length : Nat) : Int)) (b := 1048576) rfl rfl ?_)
 refine XL.nil ?_
 refine X.condD (p := ((((t).length : Nat) : Int) : Int) > 1048576) rfl (fun h1 => ?_) (fun h1 => ?_)
 ·refine X.seq ?_
  refine X.region ?_
  refine XL.cons (XOp.assign (.bool (true)) rfl ?_)
  refine XL.nil ?_
  refine X.ret (thenQ_ret (retEnd (L' := L) [.bool (true)] (.bool (true)) (.tmp rfl .nil) rfl (FLe.refl _) (FLe.refl _) (Sub.drop (Sub.refl _)) ?_))
  exact ⟨rfl, rfl, rfl⟩
 ·refine X.skip ?_
  refine X.seq ?_
  refine X.region ?_
  refine XL.cons (XOp.assign (.int .i64 (1048576)) rfl ?_)
  refine XL.nil ?_
  refine X.seq ?_
  refine X.region ?_
  refine XL.cons (XOp.loadN [arv, rsv] Try.isAgg27 Try.sizeOf27 rfl rfl (Rd.ownN [] rfl rfl) ?_)
  refine XL.cons (XOp.move (.int .i64 (1048576)) rfl ?_)
  refine XL.cons (XOp.call (args := [.agg #[arv, rsv], .int .i64 (1048576)]) Try.call10 rfl (szSystem_spec (z := 1048576) har hrs (hz := (by first | assumption | rfl | omega | (left; simp; done) | (right; simp; done))) (hal := (by first | assumption | rfl | omega | (left; simp; done) | (right; simp; done))) (hrl := (by first | assumption | rfl | omega | (left; simp; done) | (right; simp; done))) (hrb := (by first | assumption | rfl | omega | (left; simp; done) | (right; simp; done)))) ?_)
  rintro _ _ _ _ ⟨rfl, rfl, rfl⟩
  refine XL.cons (XOp.assign (.int .i64 (dec 1048576 (ar.length + szR rs))) rfl ?_)
  refine XL.nil ?_
  refine X.seq ?_
  refine X.seq ?_
  refine X.region ?_
  refine XL.cons (XOp.move (.int .i64 (dec 1048576 (ar.length + szR rs))) rfl ?_)
  refine XL.cons (XOp.lss (a := dec 1048576 (ar.length + szR rs)) (b := 0) rfl rfl ?_)
  refine XL.nil ?_
  refine X.condD (p := (dec 1048576 (ar.length + szR rs) : Int) < 0) rfl (fun h2 => ?_) (fun h2 => ?_)
  ·refine X.seq ?_
   refine X.region ?_
   refine XL.cons (XOp.assign (.bool (true)) rfl ?_)
   refine XL.nil ?_
   refine X.ret (thenQ_ret (retEnd (L' := L) [.bool (true)] (.bool (true)) (.tmp rfl .nil) rfl (FLe.refl _) (FLe.refl _) (Sub.drop (Sub.refl _)) ?_))
   exact ⟨rfl, rfl, rfl⟩
  ·have hd1 := dec_le2 h2 (by omega)
   have hzrs := szR_le (rs := rs)
   have hirs := hzrs.2
   have hcrs : ∀ i, i < rs.length → (rs.getD i ([], [])).1.length ≤ 4000000 ∧ (rs.getD i ([], [])).2.length ≤ 4000000 := fun i hi => by have := hirs i hi; omega
   have hfrs := flatPair_len rs
   refine X.skip ?_
   refine X.seq ?_
   refine X.region ?_
   refine XL.cons (XOp.loadN [arv, rsv] Try.isAgg27 Try.sizeOf27 rfl rfl (Rd.ownN [] rfl rfl) ?_)
   refine XL.cons (XOp.thawL ?_)
   refine id (XOp.call (args := [.agg #[arv, rsv]]) Try.call12 rfl (toSystem_spec har hrs (hla := (by first | assumption | rfl | omega | (left; simp; done) | (right; simp; done))) (hrl := (by first | assumption | rfl | omega | (left; simp; done) | (right; simp; done))) (hrb := (by first | assumption | rfl | omega | (left; simp; done) | (right; simp; done)))) ?_)
   rintro _ F1 _ le1 ⟨x1, x2, rfl, hr1, hr2, hr3, rfl⟩
   refine ⟨[intsH 2 x1 ar, pairsD 2 105 x2 rs], hr3, ?_⟩
   show XL _ _ _ _ _ _ _ (intsH 2 x1 ar :: pairsD 2 105 x2 rs :: cellsH b1 [arv, rsv] 27 :: L)
   refine XL.cons (XOp.move (tv) rfl ?_)
   refine XL.cons (XOp.call (args := [tv]) Try.call13 rfl (toInt64S_spec ht (hlx := (by first | assumption | rfl | omega | (left; simp; done) | (right; simp; done)))) ?_)
   rintro v1 _ _ _ ⟨rfl, hs1, rfl⟩
   refine XL.cons (XOp.move (.int .i64 (n)) rfl ?_)
   refine XL.freezeF [_] _ _ rfl (fun F2 le2 hz1 => ?_)
   replace har := har.mono le2
   replace hrs := hrs.mono le2
   replace ht := ht.mono le2
   have hf1 : IntsF F2 x1 ar := intsH.fz (xs := ar) hz1.fz
   refine XL.freezeF [_] _ _ rfl (fun F3 le3 hz2 => ?_)
   replace har := har.mono le3
   replace hrs := hrs.mono le3
   replace ht := ht.mono le3
   replace hf1 := hf1.mono le3
   have hf2 : PairsF F3 x2 rs := pairsD.fz hz2.fz
   refine XL.freezeF [] _ _ rfl (fun F4 le4 hz3 => ?_)
   replace har := har.mono le4
   replace hrs := hrs.mono le4
   replace ht := ht.mono le4
   replace hf1 := hf1.mono le4
   replace hf2 := hf2.mono le4
   have hf3 : IntsF F4 v1 ((t)) := intsH.fz (xs := (t)) hz3.fz
   refine XL.cons (XOp.call (args := [.agg #[x1, x2], v1, .int .i64 (n)]) Try.call26 rfl (sNormalsOf_spec (n := n) hf1 hf2 hf3 (hla := (by first | assumption | rfl | omega | (left; simp; done) | (right; simp; done))) (hlr := (by first | assumption | rfl | omega | (left; simp; done) | (right; simp; done))) (hrb := (by first | assumption | rfl | omega | (left; simp; done) | (right; simp; done))) (hlt := (by first | assumption | rfl | omega | (left; simp; done) | (right; simp; done)))) ?_)
   rintro _ F5 _ le5 ⟨x3, rfl, hr4, rfl⟩
   replace har := har.mono le5
   replace hrs := hrs.mono le5
   replace ht := ht.mono le5
   replace hf1 := hf1.mono le5
   replace hf2 := hf2.mono le5
   replace hf3 := hf3.mono le5
   refine XL.cons (XOp.assign (x3) rfl ?_)
   refine XL.nil ?_
   refine X.seq ?_
   refine X.region ?_
   refine XL.cons (XOp.loadN [arv, rsv] Try.isAgg27 Try.sizeOf27 rfl rfl (Rd.ownN [] rfl rfl) ?_)
   refine XL.cons (XOp.thawL ?_)
   refine id (XOp.call (args := [.agg #[arv, rsv]]) Try.call12 rfl (toSystem_spec har hrs (hla := (by first | assumption | rfl | omega | (left; simp; done) | (right; simp; done))) (hrl := (by first | assumption | rfl | omega | (left; simp; done) | (right; simp; done))) (hrb := (by first | assumption | rfl | omega | (left; simp; done) | (right; simp; done)))) ?_)
   rintro _ F6 _ le6 ⟨x4, x5, rfl, hr5, hr6, hr7, rfl⟩
   refine ⟨[intsH 2 x4 ar, pairsD 2 105 x5 rs], hr7, ?_⟩
   show XL _ _ _ _ _ _ _ (intsH 2 x4 ar :: pairsD 2 105 x5 rs :: cellsH b1 [arv, rsv] 27 :: L)
   refine XL.cons (XOp.alloc [(.slice none 0 0), (.slice none 0 0)] Try.zeroValue33 rfl ?_)
   intro b2
   refine XL.cons (XOp.storeN (vs := [x4, x5]) [] _ [x4, x5] Try.sizeOf33 rfl rfl rfl (ones_cons (one_sl (IntsF.isSl hr5)) (ones_cons (one_sl (PairsF.isSl hr6)) ones_nil)) rfl rfl rfl ?_)
   refine XL.nil ?_
   refine X.seq ?_
   refine X.region ?_
   refine XL.cons (XOp.move (tv) rfl ?_)
   refine XL.cons (XOp.call (args := [tv]) Try.call13 rfl (toInt64S_spec ht (hlx := (by first | assumption | rfl | omega | (left; simp; done) | (right; simp; done)))) ?_)
   rintro v2 _ _ _ ⟨rfl, hs2, rfl⟩
   refine XL.cons (XOp.assign (v2) rfl ?_)
   refine XL.nil ?_
   refine X.seq ?_
   refine X.region ?_
   refine XL.cons (XOp.loadN [x4, x5] Try.isAgg33 Try.sizeOf33 rfl rfl (Rd.ownN [_] rfl rfl) ?_)
   refine XL.cons (XOp.move (v2) rfl ?_)
   refine XL.cons (XOp.move (.int .i64 (n)) rfl ?_)
   refine XL.cons (XOp.lend [_, _] _ _ rfl (fun F7 le7 hz4 => ?_))
   refine id (XOp.lend [_, _] _ _ rfl (fun F8 le8 hz5 => ?_))
   refine id (XOp.lend [] _ _ rfl (fun F9 le9 hz6 => ?_))
   have hf4 : IntsF _ x4 ar := (intsH.fz (xs := ar) hz4).mono (FLe.trans le8 le9)
   have hf5 : PairsF _ x5 rs := (pairsD.fz hz5).mono le9
   have hf6 : IntsF _ v2 ((t)) := intsH.fz (xs := (t)) hz6
   refine id (XOp.thawL ?_)
   refine id (XOp.call (args := [.agg #[x4, x5], v2, .int .i64 (n)]) Try.call27 rfl (NormalsOf_spec (n := n) hf4 hf5 hf6 (hlt9 := (by first | assumption | rfl | omega | (left; simp; done) | (right; simp; done)))) ?_)
   rintro _ F10 _ le10 ⟨x6, rfl, hr8, hr9, rfl⟩
   refine ⟨[rowsD 2 22 x6 (normsF ar rs ((t)) n)], hr9, ?_⟩
   show XL _ _ _ _ _ _ _ (intsH 2 x4 ar :: pairsD 2 105 x5 rs :: intsH 2 v2 ((t)) :: rowsD 2 22 x6 (normsF ar rs ((t)) n) :: cellsH b2 [x4, x5] 33 :: cellsH b1 [arv, rsv] 27 :: L)
   refine XL.cons (XOp.assign (x6) rfl ?_)
   refine XL.nil ?_
   refine X.seq ?_
   refine X.seq ?_
   refine X.region ?_
   refine XL.cons (XOp.move (x6) rfl ?_)
   refine XL.cons (XOp.move (x3) rfl ?_)
   refine XL.cons (XOp.lend [_, _, _] _ _ rfl (fun F11 le11 hz7 => ?_))
   have hf7 : RowsF _ x6 (normsF ar rs ((t)) n) := rowsD.fz hz7
   refine id (XOp.call (args := [x6, x3]) Try.call28 rfl (eqInt64SS_spec hf7 ((hr4.mono le11)) (hal := (by first | assumption | rfl | omega | (left; simp; done) | (right; simp; done))) (hbd := (fun i hi => by have := hnb i; omega))) ?_)
   rintro _ _ _ _ ⟨rfl, rfl, rfl⟩
   show XL _ _ _ _ _ _ _ (rowsD 2 22 x6 (normsF ar rs ((t)) n) :: intsH 2 x4 ar :: pairsD 2 105 x5 rs :: intsH 2 v2 ((t)) :: cellsH b2 [x4, x5] 33 :: cellsH b1 [arv, rsv] 27 :: L)
   refine XL.cons (XOp.notD (p := (normsF ar rs ((t)) n) = (normsF ar rs ((t)) n)) rfl ?_)
   refine XL.nil ?_
   refine X.condD (p := ¬((normsF ar rs ((t)) n) = (normsF ar rs ((t)) n))) rfl (fun h3 => ?_) (fun h3 => ?_)
   ·exact absurd (by first | rfl | exact ⟨rfl, rfl⟩ | exact ⟨⟨rfl, rfl⟩, rfl, rfl⟩ | simp) h3
   ·refine X.skip ?_
    refine X.seq ?_
    refine X.seq ?_
    refine X.drawG [rowsD 2 22 x6 (normsF ar rs ((t)) n), intsH 2 x4 ar, pairsD 2 105 x5 rs, intsH 2 v2 ((t)), cellsH b2 [x4, x5] 33, cellsH b1 [arv, rsv] 27] L 3 [[], [], []] [[], [], [1]] [[], [], []] (phiG [fun FF us v => v = (.agg #[x4, x5] : Value), fun FF us v => v = (.agg #[arv, rsv] : Value), fun FF us v => (.agg #[((aggAt v 0)), ((aggAt v 1))] : Value) = v ∧ (IntsF FF ((aggAt v 0)) ar) ∧ (PairsF FF ((aggAt v 1)) rs)]) (ownL [fun us v => [], fun us v => [], fun us v => []]) mixed rfl rfl (by kernel_rfl) (by kernel_rfl) (MonoG.get (MonoG.cons (fun le h => h) (MonoG.cons (fun le h => h) (MonoG.cons (fun le h => ⟨h.1, h.2.1.mono le, h.2.2.mono le⟩) MonoG.nil)))) ?_ ?_
    ·refine stepsG.cons (fun vals Fs R leFs hpZ => ?_) ?_
     ·replace har := har.mono leFs
      replace hrs := hrs.mono leFs
      replace ht := ht.mono leFs
      replace hf1 := hf1.mono leFs
      replace hf2 := hf2.mono leFs
      replace hf3 := hf3.mono leFs
      replace hr4 := hr4.mono leFs
      refine XG.op (XOp.loadN [x4, x5] Try.isAgg33 Try.sizeOf33 rfl rfl (Rd.ownN [_, _, _, _] rfl rfl) ?_)
      exact ⟨rfl, rfl⟩
     refine stepsG.cons (fun vals Fs R leFs hpZ => ?_) ?_
     ·replace har := har.mono leFs
      replace hrs := hrs.mono leFs
      replace ht := ht.mono leFs
      replace hf1 := hf1.mono leFs
      replace hf2 := hf2.mono leFs
      replace hf3 := hf3.mono leFs
      replace hr4 := hr4.mono leFs
      refine XG.op (XOp.loadN [arv, rsv] Try.isAgg27 Try.sizeOf27 rfl rfl (Rd.ownN [_, _, _, _, _] rfl rfl) ?_)
      exact ⟨rfl, rfl⟩
     refine stepsG.cons (fun vals Fs R leFs hpZ => ?_) ?_
     ·have e1 : vals 1 = (.agg #[arv, rsv] : Value) := hpZ 1 (by decide)
      replace har := har.mono leFs
      replace hrs := hrs.mono leFs
      replace ht := ht.mono leFs
      replace hf1 := hf1.mono leFs
      replace hf2 := hf2.mono leFs
      replace hf3 := hf3.mono leFs
      replace hr4 := hr4.mono leFs
      rw [(envs_of_sat (l := [(1, (.agg #[arv, rsv] : Value))]) ⟨e1, trivial⟩).symm]
      refine XG.op (XOp.call (args := [.agg #[arv, rsv]]) Try.call12 rfl (toSystem_spec har hrs (hla := (by first | assumption | rfl | omega | (left; simp; done) | (right; simp; done))) (hrl := (by first | assumption | rfl | omega | (left; simp; done) | (right; simp; done))) (hrb := (by first | assumption | rfl | omega | (left; simp; done) | (right; simp; done)))) ?_)
      rintro _ F13 _ le13 ⟨x9, x10, rfl, hr13, hr14, hr15, rfl⟩
      replace har := har.mono le13
      replace hrs := hrs.mono le13
      replace ht := ht.mono le13
      replace hf1 := hf1.mono le13
      replace hf2 := hf2.mono le13
      replace hf3 := hf3.mono le13
      replace hr4 := hr4.mono le13
      exact ⟨⟨rfl, hr13, hr14⟩, rfl⟩
     exact stepsG.nil
    ·intro vals F14 le14 hphi
     have e0 : vals 0 = (.agg #[x4, x5] : Value) := hphi 0 (by decide)
     have e1 : vals 1 = (.agg #[arv, rsv] : Value) := hphi 1 (by decide)
     obtain ⟨e2, f2_1hr1, f2_1hr2⟩ := hphi 2 (by decide)
     generalize hu1 : ((aggAt (vals 2) 0)) = u1 at e0 e1 e2 f2_1hr1 f2_1hr2
     generalize hu2 : ((aggAt (vals 2) 1)) = u2 at e0 e1 e2 f2_1hr1 f2_1hr2
     rw [(envs_of_sat (l := [(0, (.agg #[x4, x5] : Value)), (1, (.agg #[arv, rsv] : Value)), (2, (.agg #[u1, u2] : Value))]) ⟨e0, e1, (e2).symm, trivial⟩).symm]
     replace har := har.mono le14
     replace hrs := hrs.mono le14
     replace ht := ht.mono le14
     replace hf1 := hf1.mono le14
     replace hf2 := hf2.mono le14
     replace hf3 := hf3.mono le14
     replace hr4 := hr4.mono le14
     show XL _ _ _ _ _ _ _ (rowsD 2 22 x6 (normsF ar rs ((t)) n) :: intsH 2 x4 ar :: pairsD 2 105 x5 rs :: intsH 2 v2 ((t)) :: cellsH b2 [x4, x5] 33 :: cellsH b1 [arv, rsv] 27 :: L)
     refine XL.cons (XOp.lend [_] _ _ rfl (fun F15 le15 hz8 => ?_))
     refine id (XOp.lend [_] _ _ rfl (fun F16 le16 hz9 => ?_))
     have hf8 : IntsF _ x4 ar := (intsH.fz (xs := ar) hz8).mono le16
     have hf9 : PairsF _ x5 rs := pairsD.fz hz9
     refine id (XOp.call (args := [.agg #[x4, x5], .agg #[u1, u2]]) Try.call15 rfl (eqSystem_spec hf8 hf9 ((f2_1hr1.mono (FLe.trans le15 le16))) ((f2_1hr2.mono (FLe.trans le15 le16))) (hcl := (by first | assumption | rfl | omega | (left; simp; done) | (right; simp; done))) (hal := (by first | assumption | rfl | omega | (left; simp; done) | (right; simp; done))) (hbd := (by first | assumption | rfl | omega | (left; simp; done) | (right; simp; done)))) ?_)
     rintro _ _ _ _ ⟨rfl, rfl, rfl⟩
     show XL _ _ _ _ _ _ _ (intsH 2 x4 ar :: pairsD 2 105 x5 rs :: rowsD 2 22 x6 (normsF ar rs ((t)) n) :: intsH 2 v2 ((t)) :: cellsH b2 [x4, x5] 33 :: cellsH b1 [arv, rsv] 27 :: L)
     refine XL.cons (XOp.notD (p := ar = ar ∧ rs = rs) rfl ?_)
     refine XL.nil ?_
     refine X.condD (p := ¬(ar = ar ∧ rs = rs)) rfl (fun h4 => ?_) (fun h4 => ?_)
     ·exact absurd (by first | rfl | exact ⟨rfl, rfl⟩ | exact ⟨⟨rfl, rfl⟩, rfl, rfl⟩ | simp) h4
     ·refine X.skip ?_
      refine X.seq ?_
      refine X.seq ?_
      refine X.region ?_
      refine XL.cons (XOp.move (v2) rfl ?_)
      refine XL.cons (XOp.move (tv) rfl ?_)
      refine XL.cons (XOp.call (args := [tv]) Try.call13 rfl (toInt64S_spec ht (hlx := (by first | assumption | rfl | omega | (left; simp; done) | (right; simp; done)))) ?_)
      rintro v3 _ _ _ ⟨rfl, hs3, rfl⟩
      refine XL.cons (XOp.lend [_, _, _, _] _ _ rfl (fun F17 le17 hz10 => ?_))
      refine id (XOp.lend [] _ _ rfl (fun F18 le18 hz11 => ?_))
      have hf10 : IntsF _ v2 ((t)) := (intsH.fz (xs := (t)) hz10).mono le18
      have hf11 : IntsF _ v3 ((t)) := intsH.fz (xs := (t)) hz11
      refine id (XOp.call (args := [v2, v3]) Try.call16 rfl (eqInt64S_spec hf10 hf11 (hbd := (by first | assumption | rfl | omega | (left; simp; done) | (right; simp; done)))) ?_)
      rintro _ _ _ _ ⟨rfl, rfl, rfl⟩
      show XL _ _ _ _ _ _ _ (intsH 2 v2 ((t)) :: intsH 2 v3 ((t)) :: intsH 2 x4 ar :: pairsD 2 105 x5 rs :: rowsD 2 22 x6 (normsF ar rs ((t)) n) :: cellsH b2 [x4, x5] 33 :: cellsH b1 [arv, rsv] 27 :: L)
      refine XL.cons (XOp.notD (p := ((t)) = ((t))) rfl ?_)
      refine XL.nil ?_
      refine X.condD (p := ¬(((t)) = ((t)))) rfl (fun h5 => ?_) (fun h5 => ?_)
      ·exact absurd (by first | rfl | exact ⟨rfl, rfl⟩ | exact ⟨⟨rfl, rfl⟩, rfl, rfl⟩ | simp) h5
      ·refine X.skip ?_
       refine X.seq ?_
       refine X.region ?_
       refine XL.cons (XOp.assign (.int .i64 (1)) rfl ?_)
       refine XL.nil ?_
       refine X.seq ?_
       refine X.region ?_
       refine XL.cons (XOp.loadN [x4, x5] Try.isAgg33 Try.sizeOf33 rfl rfl (Rd.ownN [_, _, _, _, _] rfl rfl) ?_)
       refine XL.cons (XOp.move (.int .i64 (1)) rfl ?_)
       refine XL.weaken (Sub.front (A := [_, _, _])) ?_
       show XL _ _ _ _ _ _ _ (pairsD 2 105 x5 rs :: intsH 2 v2 ((t)) :: intsH 2 v3 ((t)) :: intsH 2 x4 ar :: rowsD 2 22 x6 (normsF ar rs ((t)) n) :: cellsH b2 [x4, x5] 33 :: cellsH b1 [arv, rsv] 27 :: L)
       refine XL.weaken (Sub.front (A := [_, _, _])) ?_
       show XL _ _ _ _ _ _ _ (intsH 2 x4 ar :: pairsD 2 105 x5 rs :: intsH 2 v2 ((t)) :: intsH 2 v3 ((t)) :: rowsD 2 22 x6 (normsF ar rs ((t)) n) :: cellsH b2 [x4, x5] 33 :: cellsH b1 [arv, rsv] 27 :: L)
       refine XL.cons (XOp.call (args := [.agg #[x4, x5], .int .i64 (1)]) Try.call22 rfl (markSystem_spec (by (try simp only [List.length_append]); omega) (by omega)) ?_)
       rintro _ _ _ _ ⟨m1, m2, hm1, hk1, rfl, rfl, rfl⟩
       have hml1 := congrArg List.length hm1
       rw [iota_len] at hml1
       try simp only [List.length_append] at hml1
       refine XL.cons (XOp.assign (.int .i64 (1 + (((ar) ++ (rs.flatMap flatPair)).length : Int))) rfl ?_)
       refine XL.nil ?_
       refine X.seq ?_
       refine X.region ?_
       refine XL.cons (XOp.move (v2) rfl ?_)
       refine XL.cons (XOp.move (.int .i64 (1 + (((ar) ++ (rs.flatMap flatPair)).length : Int))) rfl ?_)
       refine XL.weaken (Sub.front (A := [_, _])) ?_
       show XL _ _ _ _ _ _ _ (intsH 2 v2 ((t)) :: intsH 2 x4 m1 :: pairsD 2 105 x5 m2 :: intsH 2 v3 ((t)) :: rowsD 2 22 x6 (normsF ar rs ((t)) n) :: cellsH b2 [x4, x5] 33 :: cellsH b1 [arv, rsv] 27 :: L)
       refine XL.cons (XOp.call (args := [v2, .int .i64 (1 + (((ar) ++ (rs.flatMap flatPair)).length : Int))]) Try.call23 rfl (markInt64S_spec (by (try simp only [List.length_append]); omega)) ?_)
       rintro _ _ _ _ ⟨m3, hm2, rfl, rfl, rfl⟩
       have hml2 := congrArg List.length hm2
       rw [iota_len] at hml2
       try simp only [List.length_append] at hml2
       refine XL.cons (XOp.assign (.int .i64 ((1 + (((ar) ++ (rs.flatMap flatPair)).length : Int)) + (((((t)))).length : Int))) rfl ?_)
       refine XL.nil ?_
       refine X.seq ?_
       refine X.seq ?_
       refine X.region ?_
       refine XL.cons (XOp.move (.int .i64 ((1 + (((ar) ++ (rs.flatMap flatPair)).length : Int)) + (((((t)))).length : Int))) rfl ?_)
       refine XL.cons (XOp.lss (a := (1 + (((ar) ++ (rs.flatMap flatPair)).length : Int)) + (((((t)))).length : Int)) (b := 0) rfl rfl ?_)
       refine XL.cons (XOp.move (.bool (decide (((1 + (((ar) ++ (rs.flatMap flatPair)).length : Int)) + (((((t)))).length : Int) : Int) < 0))) rfl ?_)
       by_cases h6 : ((1 + (((ar) ++ (rs.flatMap flatPair)).length : Int)) + (((((t)))).length : Int) : Int) < 0
       ·exact absurd h6 (by omega)
       ·refine XL.yes (t := 60) rfl (congrArg Value.bool (decide_eq_false h6)) (XOp.move (x6) rfl ?_)
        refine XL.yes (t := 60) rfl (congrArg Value.bool (decide_eq_false h6)) (XOp.move (x3) rfl ?_)
        refine XL.yes (t := 60) rfl (congrArg Value.bool (decide_eq_false h6)) (XOp.lend [_, _, _, _] _ _ rfl (fun F19 le19 hz12 => ?_))
        have hf12 : RowsF _ x6 (normsF ar rs ((t)) n) := rowsD.fz hz12
        refine id (XOp.call (args := [x6, x3]) Try.call28 rfl (eqInt64SS_spec hf12 ((hr4.mono le19)) (hal := (by first | assumption | rfl | omega | (left; simp; done) | (right; simp; done))) (hbd := (fun i hi => by have := hnb i; omega))) ?_)
        rintro _ _ _ _ ⟨rfl, rfl, rfl⟩
        show XL _ _ _ _ _ _ _ (rowsD 2 22 x6 (normsF ar rs ((t)) n) :: intsH 2 v2 m3 :: intsH 2 x4 m1 :: pairsD 2 105 x5 m2 :: intsH 2 v3 ((t)) :: cellsH b2 [x4, x5] 33 :: cellsH b1 [arv, rsv] 27 :: L)
        refine XL.yes (t := 60) rfl (congrArg Value.bool (decide_eq_false h6)) (XOp.notD (p := (normsF ar rs ((t)) n) = (normsF ar rs ((t)) n)) rfl ?_)
        refine XL.cons (XOp.pickF (.bool (decide (¬((normsF ar rs ((t)) n) = (normsF ar rs ((t)) n))))) (congrArg Value.bool (decide_eq_false h6)) rfl ?_)
        refine XL.nil ?_
        refine X.condF (congrArg Value.bool (decide_eq_false h3)) ?_
        refine X.skip ?_
        refine X.seq ?_
        refine X.region ?_
        refine XL.cons (XOp.assign (.int .i64 (1)) rfl ?_)
        refine XL.nil ?_
        refine X.seq ?_
        refine X.region ?_
        refine XL.cons (XOp.move (x6) rfl ?_)
        refine XL.cons (XOp.move (.int .i64 (1)) rfl ?_)
        refine XL.cons (XOp.call (args := [x6, .int .i64 (1)]) Try.call29 rfl (markInt64SS_spec (by (try simp only [List.length_append]); omega) (by omega)) ?_)
        rintro _ _ _ _ ⟨m4, hm3, hk2, rfl, rfl, rfl⟩
        have hml3 := congrArg List.length hm3
        rw [iota_len] at hml3
        try simp only [List.length_append] at hml3
        refine XL.cons (XOp.assign (.int .i64 (1 + ((((normsF ar rs ((t)) n).flatMap flatRow)).length : Int))) rfl ?_)
        refine XL.nil ?_
        refine X.seq ?_
        refine X.region ?_
        refine XL.cons (XOp.assign (.int .i64 (1)) rfl ?_)
        refine XL.nil ?_
        refine X.seq ?_
        refine X.region ?_
        refine XL.cons (XOp.move (x6) rfl ?_)
        refine XL.cons (XOp.move (.int .i64 (1)) rfl ?_)
        refine XL.cons (XOp.lend [] _ _ rfl (fun F20 le20 hz13 => ?_))
        have hf13 : RowsF _ x6 m4 := rowsD.fz hz13
        refine id (XOp.call (args := [x6, .int .i64 (1)]) Try.call30 rfl (heldInt64SS_spec (z := 1) hf13 (hzb := (by constructor <;> omega)) (hxl := (by first | assumption | rfl | omega | (left; simp; done) | (right; simp; done)))) ?_)
        rintro _ _ _ _ ⟨rfl, rfl, rfl⟩
        show XL _ _ _ _ _ _ _ (rowsD 2 22 x6 m4 :: intsH 2 v2 m3 :: intsH 2 x4 m1 :: pairsD 2 105 x5 m2 :: intsH 2 v3 ((t)) :: cellsH b2 [x4, x5] 33 :: cellsH b1 [arv, rsv] 27 :: L)
        refine XL.cons (XOp.assign (.int .i64 (heldF (m4.flatMap flatRow) 1)) rfl ?_)
        refine XL.nil ?_
        refine X.seq ?_
        refine X.seq ?_
        refine X.region ?_
        refine XL.cons (XOp.move (.int .i64 (heldF (m4.flatMap flatRow) 1)) rfl ?_)
        refine XL.cons (XOp.lss (a := heldF (m4.flatMap flatRow) 1) (b := 0) rfl rfl ?_)
        refine XL.nil ?_
        refine X.condD (p := (heldF (m4.flatMap flatRow) 1 : Int) < 0) rfl (fun h7 => ?_) (fun h7 => ?_)
        ·rw [hm3, heldF_iota] at h7
         exact absurd h7 (by omega)
        ·have hh2 := (fun (l : List Int) (k k2 : Int) (n : Nat) (h : l = iota k n) (hk : k2 = k) => show heldF l k2 = k + n from (by subst hk; rw [h, heldF_iota])) _ _ (1) _ hm3 (by first | rfl | omega)
         have hh2l := hh2
         try simp only [List.length_append] at hh2l
         refine X.skip ?_
         refine X.seq ?_
         refine X.seq ?_
         refine X.region ?_
         refine XL.cons (XOp.move (.int .i64 (heldF (m4.flatMap flatRow) 1)) rfl ?_)
         refine XL.cons (XOp.move (.int .i64 (1 + ((((normsF ar rs ((t)) n).flatMap flatRow)).length : Int))) rfl ?_)
         refine XL.cons (XOp.neq (a := heldF (m4.flatMap flatRow) 1) (b := 1 + ((((normsF ar rs ((t)) n).flatMap flatRow)).length : Int)) rfl rfl ?_)
         refine XL.nil ?_
         refine X.condD (p := (heldF (m4.flatMap flatRow) 1 : Int) ≠ 1 + ((((normsF ar rs ((t)) n).flatMap flatRow)).length : Int)) rfl (fun h8 => ?_) (fun h8 => ?_)
         ·exact absurd (by rw [hm3, heldF_iota]) h8
         ·refine X.skip ?_
          refine X.seq ?_
          refine X.region ?_
          refine XL.cons (XOp.loadN [arv, rsv] Try.isAgg27 Try.sizeOf27 rfl rfl (Rd.ownN [_, _, _, _, _, _] rfl rfl) ?_)
          refine XL.cons (XOp.thawL ?_)
          refine id (XOp.call (args := [.agg #[arv, rsv]]) Try.call12 rfl (toSystem_spec har hrs (hla := (by first | assumption | rfl | omega | (left; simp; done) | (right; simp; done))) (hrl := (by first | assumption | rfl | omega | (left; simp; done) | (right; simp; done))) (hrb := (by first | assumption | rfl | omega | (left; simp; done) | (right; simp; done)))) ?_)
          rintro _ F21 _ le21 ⟨x11, x12, rfl, hr16, hr17, hr18, rfl⟩
          refine ⟨[intsH 2 x11 ar, pairsD 2 105 x12 rs], hr18, ?_⟩
          show XL _ _ _ _ _ _ _ (intsH 2 x11 ar :: pairsD 2 105 x12 rs :: rowsD 2 22 x6 m4 :: intsH 2 v2 m3 :: intsH 2 x4 m1 :: pairsD 2 105 x5 m2 :: intsH 2 v3 ((t)) :: cellsH b2 [x4, x5] 33 :: cellsH b1 [arv, rsv] 27 :: L)
          refine XL.cons (XOp.move (tv) rfl ?_)
          refine XL.cons (XOp.call (args := [tv]) Try.call13 rfl (toInt64S_spec ht (hlx := (by first | assumption | rfl | omega | (left; simp; done) | (right; simp; done)))) ?_)
          rintro v4 _ _ _ ⟨rfl, hs4, rfl⟩
          refine XL.cons (XOp.move (.int .i64 (n)) rfl ?_)
          refine XL.cons (XOp.lend [_] _ _ rfl (fun F22 le22 hz14 => ?_))
          refine id (XOp.lend [_] _ _ rfl (fun F23 le23 hz15 => ?_))
          refine id (XOp.lend [] _ _ rfl (fun F24 le24 hz16 => ?_))
          have hf14 : IntsF _ x11 ar := (intsH.fz (xs := ar) hz14).mono (FLe.trans le23 le24)
          have hf15 : PairsF _ x12 rs := (pairsD.fz hz15).mono le24
          have hf16 : IntsF _ v4 ((t)) := intsH.fz (xs := (t)) hz16
          refine id (XOp.thawL ?_)
          refine id (XOp.call (args := [.agg #[x11, x12], v4, .int .i64 (n)]) Try.call27 rfl (NormalsOf_spec (n := n) hf14 hf15 hf16 (hlt9 := (by first | assumption | rfl | omega | (left; simp; done) | (right; simp; done)))) ?_)
          rintro _ F25 _ le25 ⟨x13, rfl, hr19, hr20, rfl⟩
          refine ⟨[rowsD 2 22 x13 (normsF ar rs ((t)) n)], hr20, ?_⟩
          show XL _ _ _ _ _ _ _ (intsH 2 x11 ar :: pairsD 2 105 x12 rs :: intsH 2 v4 ((t)) :: rowsD 2 22 x13 (normsF ar rs ((t)) n) :: rowsD 2 22 x6 m4 :: intsH 2 v2 m3 :: intsH 2 x4 m1 :: pairsD 2 105 x5 m2 :: intsH 2 v3 ((t)) :: cellsH b2 [x4, x5] 33 :: cellsH b1 [arv, rsv] 27 :: L)
          refine XL.cons (XOp.assign (x13) rfl ?_)
          refine XL.nil ?_
          refine X.seq ?_
          refine X.seq ?_
          refine X.region ?_
          refine XL.cons (XOp.move (x13) rfl ?_)
          refine XL.cons (XOp.move (x3) rfl ?_)
          refine XL.cons (XOp.lend [_, _, _] _ _ rfl (fun F26 le26 hz17 => ?_))
          have hf17 : RowsF _ x13 (normsF ar rs ((t)) n) := rowsD.fz hz17
          refine id (XOp.call (args := [x13, x3]) Try.call28 rfl (eqInt64SS_spec hf17 ((hr4.mono le26)) (hal := (by first | assumption | rfl | omega | (left; simp; done) | (right; simp; done))) (hbd := (fun i hi => by have := hnb i; omega))) ?_)
          rintro _ _ _ _ ⟨rfl, rfl, rfl⟩
          show XL _ _ _ _ _ _ _ (rowsD 2 22 x13 (normsF ar rs ((t)) n) :: intsH 2 x11 ar :: pairsD 2 105 x12 rs :: intsH 2 v4 ((t)) :: rowsD 2 22 x6 m4 :: intsH 2 v2 m3 :: intsH 2 x4 m1 :: pairsD 2 105 x5 m2 :: intsH 2 v3 ((t)) :: cellsH b2 [x4, x5] 33 :: cellsH b1 [arv, rsv] 27 :: L)
          refine XL.cons (XOp.notD (p := (normsF ar rs ((t)) n) = (normsF ar rs ((t)) n)) rfl ?_)
          refine XL.nil ?_
          refine X.condF (congrArg Value.bool (decide_eq_false h3)) ?_
          refine X.skip ?_
          refine X.seq ?_
          refine X.region ?_
          refine XL.cons (XOp.assign (.int .i64 (1)) rfl ?_)
          refine XL.nil ?_
          refine X.seq ?_
          refine X.region ?_
          refine XL.cons (XOp.move (x6) rfl ?_)
          refine XL.cons (XOp.move (.int .i64 (1)) rfl ?_)
          refine XL.cons (XOp.lend [_, _, _, _] _ _ rfl (fun F27 le27 hz18 => ?_))
          have hf18 : RowsF _ x6 m4 := rowsD.fz hz18
          refine id (XOp.call (args := [x6, .int .i64 (1)]) Try.call30 rfl (heldInt64SS_spec (z := 1) hf18 (hzb := (by constructor <;> omega)) (hxl := (by first | assumption | rfl | omega | (left; simp; done) | (right; simp; done)))) ?_)
          rintro _ _ _ _ ⟨rfl, rfl, rfl⟩
          show XL _ _ _ _ _ _ _ (rowsD 2 22 x6 m4 :: rowsD 2 22 x13 (normsF ar rs ((t)) n) :: intsH 2 x11 ar :: pairsD 2 105 x12 rs :: intsH 2 v4 ((t)) :: intsH 2 v2 m3 :: intsH 2 x4 m1 :: pairsD 2 105 x5 m2 :: intsH 2 v3 ((t)) :: cellsH b2 [x4, x5] 33 :: cellsH b1 [arv, rsv] 27 :: L)
          refine XL.cons (XOp.assign (.int .i64 (heldF (m4.flatMap flatRow) 1)) rfl ?_)
          refine XL.nil ?_
          refine X.seq ?_
          refine X.seq ?_
          refine X.region ?_
          refine XL.cons (XOp.move (.int .i64 (heldF (m4.flatMap flatRow) 1)) rfl ?_)
          refine XL.cons (XOp.lss (a := heldF (m4.flatMap flatRow) 1) (b := 0) rfl rfl ?_)
          refine XL.nil ?_
          refine X.condF (congrArg Value.bool (decide_eq_false h7)) ?_
          refine X.skip ?_
          refine X.seq ?_
          refine X.seq ?_
          refine X.region ?_
          refine XL.cons (XOp.move (.int .i64 (heldF (m4.flatMap flatRow) 1)) rfl ?_)
          refine XL.cons (XOp.move (.int .i64 (1 + ((((normsF ar rs ((t)) n).flatMap flatRow)).length : Int))) rfl ?_)
          refine XL.cons (XOp.neq (a := heldF (m4.flatMap flatRow) 1) (b := 1 + ((((normsF ar rs ((t)) n).flatMap flatRow)).length : Int)) rfl rfl ?_)
          refine XL.nil ?_
          refine X.condF (congrArg Value.bool (decide_eq_false h8)) ?_
          refine X.skip ?_
          refine X.seq ?_
          refine X.region ?_
          refine XL.cons (XOp.assign (.bool (true)) rfl ?_)
          refine XL.nil ?_
          refine X.ret (retEnd (L' := L) [.bool (true)] (.bool (true)) (.tmp rfl .nil) rfl (FLe.refl _) (FLe.trans (FLe.trans (FLe.trans (FLe.trans le2 le3) le4) le5) le14) (Sub.drop (Sub.drop (Sub.drop (Sub.drop (Sub.drop (Sub.drop (Sub.drop (Sub.drop (Sub.drop (Sub.drop (Sub.drop (Sub.refl _)))))))))))) ?_)
          exact ⟨rfl, rfl, rfl⟩
end Go.Proofs.Ytiaanelimbmniaa
