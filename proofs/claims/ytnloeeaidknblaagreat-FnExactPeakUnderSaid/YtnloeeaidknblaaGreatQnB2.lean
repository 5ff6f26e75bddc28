/-
  Walks, one after the other (part 3).
-/
import Derived.Test.YtnloeeaidknblaaGreatQnB1
import Derived.Test.YtnloeeaidknblaaGreatX13
import Derived.Test.YtnloeeaidknblaaGreatP8
import Derived.Test.YtnloeeaidknblaaGreatP9
import Derived.Test.YtnloeeaidknblaaGreatP11
set_option linter.unusedSimpArgs false
set_option linter.unusedVariables false
namespace Go.Proofs.YtnloeeaidknblaaGreat
open Go X M

/- laws.toSig -/
theorem toSig_spec {F : FH} {L : List HP} {xsv : Value} {xs : List Int} (hxs : IntsF F xsv xs) (hlx : xs.length ≤ 4000000) :
    Does Tryz.prog 53 [.agg #[xsv]] F (L) (fun v F' L' => ∃ (a : Value), (.agg #[a] : Value) = v ∧ (IntsF F' a xs) ∧ (Fresh F F' (star [intsH 2 a xs])) ∧ L = L') := by
 refine Does.of_X Tryz.func53 rfl rfl rfl ?_
 refine X.seq ?_
 refine X.region ?_
 refine XL.cons (XOp.box [xsv] rfl rfl ?_)
 intro b1
 refine XL.cons (XOp.alloc [(.slice none 0 0)] Tryz.zeroValue36 rfl ?_)
 intro b2
 refine XL.nil ?_
 refine X.seq ?_
 refine X.region ?_
 refine XL.cons (XOp.alloc [(.slice none 0 0)] Tryz.zeroValue36 rfl ?_)
 intro b3
 refine XL.nil ?_
 refine X.seq ?_
 refine X.region ?_
 refine XL.cons (XOp.fieldP (b := b1) (0) Tryz.runUnderlying24 rfl Tryz.sizeOf22 (by decide) rfl rfl ?_)
 refine XL.cons (XOp.load1 (v := xsv) Tryz.isAgg22 rfl (Rd.own [_, _] rfl rfl) ?_)
 refine XL.cons (XOp.frzF <| XOp.call (args := [xsv]) Tryz.call21 rfl (toInt64S_spec hxs (hlx := (by first | assumption | rfl | omega | (left; simp; done) | (right; simp; done)))) ?_)
 rintro v1 _ _ _ ⟨rfl, hs1, rfl⟩
 refine ⟨_, _, rfl, fun F1 le1 hz1 => ?_⟩
 replace hxs := hxs.mono le1
 have hf1 : IntsF F1 v1 ((xs)) := intsH.fz (xs := (xs)) hz1.fz
 refine XL.cons (XOp.fieldP (b := b3) (0) Tryz.runUnderlying36 rfl Tryz.sizeOf22 (by decide) rfl rfl ?_)
 refine XL.cons (XOp.store1 (v := v1) [] _ [v1] Tryz.sizeOf22 rfl rfl (one_sl (IntsF.isSl hf1)) rfl rfl rfl ?_)
 refine XL.nil ?_
 refine X.seq ?_
 refine X.region ?_
 refine XL.cons (XOp.loadN [v1] Tryz.isAgg36 Tryz.sizeOf36 rfl rfl (Rd.ownN [] rfl rfl) ?_)
 refine XL.cons (XOp.storeN (vs := [v1]) [_] _ [v1] Tryz.sizeOf36 rfl rfl rfl (ones_cons (one_sl (IntsF.isSl hf1)) ones_nil) rfl rfl rfl ?_)
 refine XL.nil ?_
 refine X.ret (retEnd (L' := L) [.agg #[v1]] (.agg #[v1]) (.cell rfl (loadNV [v1] Tryz.isAgg36 Tryz.sizeOf36 rfl (Rd.ownN [_] rfl rfl)) .nil) rfl le1 (FLe.refl _) (Sub.drop (Sub.drop (Sub.drop (Sub.refl _)))) ?_)
 exact ⟨_, rfl, hf1, (Fresh.one hz1), rfl⟩

/- laws.toRule -/
theorem toRule_spec {F : FH} {L : List HP} {lv : Value} {l : List Int} (hl : IntsF F lv l) {rv : Value} {r : List Int} (hr : IntsF F rv r) (hll : l.length ≤ 4000000) (hlr : r.length ≤ 4000000) :
    Does Tryz.prog 116 [.agg #[lv, rv]] F (L) (fun v F' L' => ∃ (a : Value), ∃ (b : Value), (.agg #[a, b] : Value) = v ∧ (IntsF F' a l) ∧ (IntsF F' b r) ∧ (Fresh F F' (star [intsH 2 a l, intsH 2 b r])) ∧ L = L') := by
 refine Does.of_X Tryz.func116 rfl rfl rfl ?_
 refine X.seq ?_
 refine X.region ?_
 refine XL.cons (XOp.box [lv, rv] rfl rfl ?_)
 intro b1
 refine XL.cons (XOp.alloc [(.slice none 0 0), (.slice none 0 0)] Tryz.zeroValue161 rfl ?_)
 intro b2
 refine XL.nil ?_
 refine X.seq ?_
 refine X.region ?_
 refine XL.cons (XOp.alloc [(.slice none 0 0), (.slice none 0 0)] Tryz.zeroValue161 rfl ?_)
 intro b3
 refine XL.nil ?_
 refine X.seq ?_
 refine X.region ?_
 refine XL.cons (XOp.fieldP (b := b1) (0) Tryz.runUnderlying152 rfl Tryz.sizeOf22 (by decide) rfl rfl ?_)
 refine XL.cons (XOp.load1 (v := lv) Tryz.isAgg22 rfl (Rd.own [_, _] rfl rfl) ?_)
 refine XL.cons (XOp.frzF <| XOp.call (args := [lv]) Tryz.call21 rfl (toInt64S_spec hl (hlx := (by first | assumption | rfl | omega | (left; simp; done) | (right; simp; done)))) ?_)
 rintro v1 _ _ _ ⟨rfl, hs1, rfl⟩
 refine ⟨_, _, rfl, fun F1 le1 hz1 => ?_⟩
 replace hl := hl.mono le1
 replace hr := hr.mono le1
 have hf1 : IntsF F1 v1 ((l)) := intsH.fz (xs := (l)) hz1.fz
 refine XL.cons (XOp.fieldP (b := b3) (0) Tryz.runUnderlying161 rfl Tryz.sizeOf22 (by decide) rfl rfl ?_)
 refine XL.cons (XOp.store1 (v := v1) [] _ [v1, (.slice none 0 0)] Tryz.sizeOf22 rfl rfl (one_sl (IntsF.isSl hf1)) rfl rfl rfl ?_)
 refine XL.nil ?_
 refine X.seq ?_
 refine X.region ?_
 refine XL.cons (XOp.fieldP (b := b1) (1) Tryz.runUnderlying152 rfl Tryz.sizeOf22 (by decide) rfl rfl ?_)
 refine XL.cons (XOp.load1 (v := rv) Tryz.isAgg22 rfl (Rd.own [_, _] rfl rfl) ?_)
 refine XL.cons (XOp.frzF <| XOp.call (args := [rv]) Tryz.call21 rfl (toInt64S_spec hr (hlx := (by first | assumption | rfl | omega | (left; simp; done) | (right; simp; done)))) ?_)
 rintro v2 _ _ _ ⟨rfl, hs2, rfl⟩
 refine ⟨_, _, rfl, fun F2 le2 hz2 => ?_⟩
 replace hl := hl.mono le2
 replace hr := hr.mono le2
 replace hf1 := hf1.mono le2
 have hf2 : IntsF F2 v2 ((r)) := intsH.fz (xs := (r)) hz2.fz
 refine XL.cons (XOp.fieldP (b := b3) (1) Tryz.runUnderlying161 rfl Tryz.sizeOf22 (by decide) rfl rfl ?_)
 refine XL.cons (XOp.store1 (v := v2) [] _ [v1, v2] Tryz.sizeOf22 rfl rfl (one_sl (IntsF.isSl hf2)) rfl rfl rfl ?_)
 refine XL.nil ?_
 refine X.seq ?_
 refine X.region ?_
 refine XL.cons (XOp.loadN [v1, v2] Tryz.isAgg161 Tryz.sizeOf161 rfl rfl (Rd.ownN [] rfl rfl) ?_)
 refine XL.cons (XOp.storeN (vs := [v1, v2]) [_] _ [v1, v2] Tryz.sizeOf161 rfl rfl rfl (ones_cons (one_sl (IntsF.isSl hf1)) (ones_cons (one_sl (IntsF.isSl hf2)) ones_nil)) rfl rfl rfl ?_)
 refine XL.nil ?_
 refine X.ret (retEnd (L' := L) [.agg #[v1, v2]] (.agg #[v1, v2]) (.cell rfl (loadNV [v1, v2] Tryz.isAgg161 Tryz.sizeOf161 rfl (Rd.ownN [_] rfl rfl)) .nil) rfl (FLe.trans le1 le2) (FLe.refl _) (Sub.drop (Sub.drop (Sub.drop (Sub.refl _)))) ?_)
 exact ⟨_, _, rfl, hf1, hf2, (Fresh.app (Fresh.one hz1) le1 (Fresh.one hz2) le2), rfl⟩

/- laws.toRuleS -/
theorem toRuleS_spec {F : FH} {L : List HP} {xv : Value} {x : List (List Int × List Int)} (hx : PairsF F xv x) (hlx : x.length ≤ 4000000) (hrb : ∀ i, i < x.length → (x.getD i ([], [])).1.length ≤ 4000000 ∧ (x.getD i ([], [])).2.length ≤ 4000000) :
    Does Tryz.prog 54 [xv] F (L) (fun v F' L' => ∃ (a : Value), (a : Value) = v ∧ (PairsF F' a x) ∧ (Fresh F F' (star [pairsD 2 161 a x])) ∧ L = L') := by
 refine Does.of_X Tryz.func54 rfl rfl rfl ?_
 refine X.seq ?_
 refine X.region ?_
 refine XL.cons (XOp.assign ((.slice none 0 0)) rfl ?_)
 refine XL.nil ?_
 refine X.seq ?_
 refine X.region ?_
 refine XL.cons (XOp.move (xv) rfl ?_)
 refine XL.cons (XOp.lenS (v := xv) (n := (x).length) Tryz.runUnderlying25 rfl hx.slv ?_)
 refine XL.cons (XOp.makeSlice (n := (x).length) (bytes := 48) [(.slice none 0 0), (.slice none 0 0)] Tryz.runUnderlying37 Tryz.sizeOf161 Tryz.typeInfo161 rfl Tryz.zeroValue161 rfl rfl rfl rfl (by omega) (by omega) ?_)
 intro v1 hv1
 obtain ⟨cs1, hq1, hc1⟩ : ∃ cs, ((List.range (((x).length) * 2)).map fun i => [Value.slice none 0 0, Value.slice none 0 0].toArray[i % [Value.slice none 0 0, Value.slice none 0 0].toArray.size]!) = cs ∧ PairsC F cs (List.replicate ((x).length) ([], []) : List (List Int × List Int)) := ⟨_, rfl, PairsC.nils _⟩
 rw [hq1]
 refine XL.cons (XOp.assign (v1) rfl ?_)
 refine XL.nil ?_
 refine X.seq ?_
 refine X.seq ?_
 refine X.region ?_
 refine XL.cons (XOp.assign (.int .i64 (0)) rfl ?_)
 refine XL.nil ?_
 refine X.block ?_
 obtain ⟨L0, hD0, hS0⟩ := deepNils2 2 x.length
 rw [hq1] at hD0
 refine X.loop (α := Nat × List (List Int × List Int) × List Value × List HP × FH) (fun xQ => [(0, xv), (3, v1), (4, .int .i64 (((xQ.1 : Nat) : Int)))]) (fun xQ => slH 161 2 v1 x.length xQ.2.2.1 :: L) (fun xQ F' => xQ.2.2.2.2 = F' ∧ F ≤ xQ.2.2.2.2 ∧ (PairsC xQ.2.2.2.2 xQ.2.2.1 xQ.2.1) ∧ (xQ.1 ≤ x.length) ∧ (xQ.2.1.length = x.length) ∧ (xQ.2.1.take xQ.1 = x.take xQ.1) ∧ (DeepL 2 (PairO 2) xQ.2.2.1 xQ.2.1 xQ.2.2.2.1) ∧ (Fresh F xQ.2.2.2.2 (star xQ.2.2.2.1))) (fun xQ => x.length - xQ.1) (0, (List.replicate ((x).length) ([], []) : List (List Int × List Int)), cs1, L0, F) ⟨rfl, rfl, rfl, trivial⟩ (Sub.cons (Sub.refl _)) ⟨rfl, FLe.refl _, (hc1), (by (try dsimp only) <;> omega), (by simp), (rfl), (hD0), (Fresh.empty hS0)⟩ ?_
 rintro ⟨k, os, cs, Ls, G1⟩ rE _ _ ⟨rfl, leG, hC, hk, hol, hos, hD, hZ⟩
 show X _ _ _ _ (envs [(0, xv), (3, v1), (4, .int .i64 (((k : Nat) : Int)))] rE) _ (slH 161 2 v1 x.length cs :: L)
 replace leG : F ≤ G1 := leG
 dsimp only at hC hk hol hos hD hZ
 have hrk := hrb k
 have leG1 := leG
 replace hx := hx.mono leG1
 replace hc1 := hc1.mono leG1
 refine X.seq ?_
 refine X.seq ?_
 refine X.region ?_
 refine XL.cons (XOp.move (.int .i64 (((k : Nat) : Int))) rfl ?_)
 refine XL.cons (XOp.move (xv) rfl ?_)
 refine XL.cons (XOp.lenS (v := xv) (n := (x).length) Tryz.runUnderlying25 rfl hx.slv ?_)
 refine XL.cons (XOp.lss (a := ((k : Nat) : Int)) (b := (((x).length : Nat) : Int)) rfl rfl ?_)
 refine XL.nil ?_
 refine X.condD (p := (((k : Nat) : Int) : Int) < (((x).length : Nat) : Int)) rfl (fun h1 => ?_) (fun h1 => ?_)
 ·refine X.skip ?_
  refine X.seq ?_
  refine X.block ?_
  refine X.region ?_
  refine XL.cons (XOp.move (v1) rfl ?_)
  refine XL.cons (XOp.move (.int .i64 (((k : Nat) : Int))) rfl ?_)
  refine XL.cons (XOp.move (xv) rfl ?_)
  refine XL.cons (XOp.move (.int .i64 (((k : Nat) : Int))) rfl ?_)
  refine XL.cons (XOp.indexS (v := xv) (i := ((k : Nat) : Int)) (n := (x).length) k Tryz.runUnderlying25 Tryz.sizeOf152 rfl rfl rfl hx.slv (by omega) rfl ?_)
  obtain ⟨a1, a2, ha1, ha2, hr1, hr2⟩ := hx.rd (i := k) (by omega)
  refine XL.cons (XOp.loadN [a1, a2] Tryz.isAgg152 Tryz.sizeOf152 rfl rfl (Rd.two (hr1 _) (hr2 _)) ?_)
  refine XL.cons (XOp.call (args := [.agg #[a1, a2]]) Tryz.call116 rfl (toRule_spec ha1 ha2 (hll := (by first | assumption | rfl | omega | (left; simp; done) | (right; simp; done))) (hlr := (by first | assumption | rfl | omega | (left; simp; done) | (right; simp; done)))) ?_)
  rintro _ F1 _ le1 ⟨x1, x2, rfl, hr3, hr4, hr5, rfl⟩
  replace hx := hx.mono le1
  replace hc1 := hc1.mono le1
  replace hC := hC.mono le1
  replace ha1 := ha1.mono le1
  replace ha2 := ha2.mono le1
  replace hr1 := Rd.monoA hr1 le1
  replace hr2 := Rd.monoA hr2 le1
  refine XL.cons (XOp.indexS (v := v1) (i := ((k : Nat) : Int)) (n := x.length) k Tryz.runUnderlying37 Tryz.sizeOf161 rfl rfl rfl (SlV.own [] rfl) (by omega) rfl ?_)
  refine XL.cons (XOp.storeSN (i := k * 2) (m := 2) (vs := [x1, x2]) (cs := cs) [] _ Tryz.sizeOf161 rfl rfl rfl (ones_cons (one_sl (IntsF.isSl hr3)) (ones_cons (one_sl (IntsF.isSl hr4)) ones_nil)) rfl (show k * 2 + 2 ≤ _ from by have h9 := CO.len hC; (try simp only [List.length_set, List.length_replicate] at h9); omega) (Nat.succ_pos _) ?_)
  have hc2 := hC.set (j := k) (by (try simp only [List.length_set, List.length_replicate]); omega) hr3 hr4
  refine XL.nil ?_
  refine X.region ?_
  refine XL.cons (XOp.move (.int .i64 (((k : Nat) : Int))) rfl ?_)
  refine XL.cons (XOp.addR (a := ((k : Nat) : Int)) (b := 1) (((k + 1 : Nat) : Int)) rfl rfl (by omega) (by omega) ?_)
  refine XL.cons (XOp.assign (.int .i64 (((k + 1 : Nat) : Int))) rfl ?_)
  refine XL.nil ?_
  obtain ⟨A, K, B, es, hLs, hel, hR, hg, hput⟩ := hD.at (d := ([], [])) (k := k) (by omega)
  rw [hLs] at hZ
  have hDn := hput _ (((x.getD k ([], [])).1), ((x.getD k ([], [])).2)) [intsH 2 x1 (((x.getD k ([], [])).1)), intsH 2 x2 (((x.getD k ([], [])).2))] rfl ⟨_, _,  rfl, rfl⟩
  exact ⟨(k + 1, (os.set k (((x.getD k ([], [])).1), ((x.getD k ([], [])).2))), (cs.take (k * 2) ++ [x1, x2] ++ cs.drop (k * 2 + 2)), A ++ ([intsH 2 x1 (((x.getD k ([], [])).1)), intsH 2 x2 (((x.getD k ([], [])).2))] ++ B), F1), _, (FLe.trans leG1 le1), (FLe.refl _), ⟨rfl, rfl, rfl, trivial⟩, (Sub.cons (Sub.refl _)), ⟨rfl, (FLe.trans leG1 le1), (hc2), (by (try dsimp only) <;> omega), (by dsimp only; rw [List.length_set]; exact hol), (by dsimp only; rw [take_set_any (by omega), hos, take_succ_getD ([], []) (by omega)]), (hDn), ((Fresh.swap hZ leG1 hr5 le1))⟩, (by omega)⟩
 ·refine X.exit (thenQ_exit (thenQ_exit (blockQ_exit ?_)))
  refine X.seq ?_
  refine X.region ?_
  refine XL.cons (XOp.move (v1) rfl ?_)
  refine XL.cons (XOp.assign (v1) rfl ?_)
  refine XL.nil ?_
  refine X.freezeF [] _ _ rfl (fun F2 le2 hz1 => ?_)
  replace hx := hx.mono le2
  replace hc1 := hc1.mono le2
  replace hC := hC.mono le2
  have hf1 : PairsF F2 v1 os := CO.fz hC (by first | rfl | simp | omega) hz1.fz
  refine X.ret (retEnd (L' := L) [v1] (v1) (.tmp rfl .nil) rfl (FLe.trans leG1 le2) (FLe.refl _) (Sub.refl _) ?_)
  have e : os = x := by rw [← List.take_of_length_le (l := x) (i := k) (by omega), ← hos, List.take_of_length_le (by omega)]
  subst e
  exact ⟨_, rfl, hf1, Fresh.one (Fresh.deep hD hZ leG1 hz1 rfl le2), rfl⟩

/- laws.toInt64SS -/
theorem toInt64SS_spec {F : FH} {L : List HP} {xv : Value} {x : List (List Int)} (hx : RowsF F xv x) (hlx : x.length ≤ 4000000) (hrb : ∀ i, i < x.length → (x.getD i []).length ≤ 4000000) :
    Does Tryz.prog 92 [xv] F (L) (fun v F' L' => ∃ (a : Value), (a : Value) = v ∧ (RowsF F' a x) ∧ (Fresh F F' (star [rowsD 2 22 a x])) ∧ L = L') := by
 refine Does.of_X Tryz.func92 rfl rfl rfl ?_
 refine X.seq ?_
 refine X.region ?_
 refine XL.cons (XOp.assign ((.slice none 0 0)) rfl ?_)
 refine XL.nil ?_
 refine X.seq ?_
 refine X.region ?_
 refine XL.cons (XOp.move (xv) rfl ?_)
 refine XL.cons (XOp.lenS (v := xv) (n := (x).length) Tryz.runUnderlying69 rfl hx.slv ?_)
 refine XL.cons (XOp.makeSlice (n := (x).length) (bytes := 24) [(.slice none 0 0)] Tryz.runUnderlying69 Tryz.sizeOf22 Tryz.typeInfo22 rfl Tryz.zeroValue22 rfl rfl rfl rfl (by omega) (by omega) ?_)
 intro v1 hv1
 rw [nils]
 have hc1 : RowsC F _ _ := RowsC.nils ((x).length)
 refine XL.cons (XOp.assign (v1) rfl ?_)
 refine XL.nil ?_
 refine X.seq ?_
 refine X.seq ?_
 refine X.region ?_
 refine XL.cons (XOp.assign (.int .i64 (0)) rfl ?_)
 refine XL.nil ?_
 refine X.block ?_
 obtain ⟨L0, hD0, hS0⟩ := deepNils1 2 x.length
 rw [nils] at hD0
 refine X.loop (α := Nat × List (List Int) × List Value × List HP × FH) (fun xQ => [(0, xv), (3, v1), (4, .int .i64 (((xQ.1 : Nat) : Int)))]) (fun xQ => slH 22 1 v1 x.length xQ.2.2.1 :: L) (fun xQ F' => xQ.2.2.2.2 = F' ∧ F ≤ xQ.2.2.2.2 ∧ (RowsC xQ.2.2.2.2 xQ.2.2.1 xQ.2.1) ∧ (xQ.1 ≤ x.length) ∧ (xQ.2.1.length = x.length) ∧ (xQ.2.1.take xQ.1 = x.take xQ.1) ∧ (DeepL 1 (RowO 2) xQ.2.2.1 xQ.2.1 xQ.2.2.2.1) ∧ (Fresh F xQ.2.2.2.2 (star xQ.2.2.2.1))) (fun xQ => x.length - xQ.1) (0, (List.replicate ((x).length) [] : List (List Int)), (List.replicate ((x).length) (Value.slice none 0 0)), L0, F) ⟨rfl, rfl, rfl, trivial⟩ (Sub.cons (Sub.refl _)) ⟨rfl, FLe.refl _, (hc1), (by (try dsimp only) <;> omega), (by simp), (rfl), (hD0), (Fresh.empty hS0)⟩ ?_
 rintro ⟨k, os, cs, Ls, G1⟩ rE _ _ ⟨rfl, leG, hC, hk, hol, hos, hD, hZ⟩
 show X _ _ _ _ (envs [(0, xv), (3, v1), (4, .int .i64 (((k : Nat) : Int)))] rE) _ (slH 22 1 v1 x.length cs :: L)
 replace leG : F ≤ G1 := leG
 dsimp only at hC hk hol hos hD hZ
 have hrk := hrb k
 have leG1 := leG
 replace hx := hx.mono leG1
 replace hc1 := hc1.mono leG1
 refine X.seq ?_
 refine X.seq ?_
 refine X.region ?_
 refine XL.cons (XOp.move (.int .i64 (((k : Nat) : Int))) rfl ?_)
 refine XL.cons (XOp.move (xv) rfl ?_)
 refine XL.cons (XOp.lenS (v := xv) (n := (x).length) Tryz.runUnderlying69 rfl hx.slv ?_)
 refine XL.cons (XOp.lss (a := ((k : Nat) : Int)) (b := (((x).length : Nat) : Int)) rfl rfl ?_)
 refine XL.nil ?_
 refine X.condD (p := (((k : Nat) : Int) : Int) < (((x).length : Nat) : Int)) rfl (fun h1 => ?_) (fun h1 => ?_)
 ·refine X.skip ?_
  refine X.seq ?_
  refine X.block ?_
  refine X.region ?_
  refine XL.cons (XOp.move (v1) rfl ?_)
  refine XL.cons (XOp.move (.int .i64 (((k : Nat) : Int))) rfl ?_)
  refine XL.cons (XOp.move (xv) rfl ?_)
  refine XL.cons (XOp.move (.int .i64 (((k : Nat) : Int))) rfl ?_)
  refine XL.cons (XOp.indexS (v := xv) (i := ((k : Nat) : Int)) (n := (x).length) k Tryz.runUnderlying69 Tryz.sizeOf22 rfl rfl rfl hx.slv (by omega) (Nat.mul_one _) ?_)
  obtain ⟨a1, ha1, hr1⟩ := hx.rd (i := k) (by omega)
  refine XL.cons (XOp.load1 (v := a1) Tryz.isAgg22 rfl (hr1 _) ?_)
  refine XL.cons (XOp.frzF <| XOp.call (args := [a1]) Tryz.call21 rfl (toInt64S_spec ha1 (hlx := (by first | assumption | rfl | omega | (left; simp; done) | (right; simp; done)))) ?_)
  rintro v2 _ _ _ ⟨rfl, hs1, rfl⟩
  refine ⟨_, _, rfl, fun F1 le1 hz1 => ?_⟩
  replace hx := hx.mono le1
  replace hc1 := hc1.mono le1
  replace hC := hC.mono le1
  replace ha1 := ha1.mono le1
  replace hr1 := Rd.monoA hr1 le1
  have hf1 : IntsF F1 v2 ((((x.getD k [])))) := intsH.fz (xs := (((x.getD k [])))) hz1.fz
  refine XL.cons (XOp.indexS (v := v1) (i := ((k : Nat) : Int)) (n := x.length) k Tryz.runUnderlying69 Tryz.sizeOf22 rfl rfl rfl (SlV.own [] rfl) (by omega) (Nat.mul_one _) ?_)
  refine XL.cons (XOp.storeS (i := k) (cs := cs) [] _ Tryz.sizeOf22 rfl rfl (one_sl (IntsF.isSl hf1)) rfl (by have h9 := CO.len hC; (try simp only [List.length_set, List.length_replicate] at h9 ⊢) <;> omega) ?_)
  have hc2 := hC.set k hf1
  refine XL.nil ?_
  refine X.region ?_
  refine XL.cons (XOp.move (.int .i64 (((k : Nat) : Int))) rfl ?_)
  refine XL.cons (XOp.addR (a := ((k : Nat) : Int)) (b := 1) (((k + 1 : Nat) : Int)) rfl rfl (by omega) (by omega) ?_)
  refine XL.cons (XOp.assign (.int .i64 (((k + 1 : Nat) : Int))) rfl ?_)
  refine XL.nil ?_
  obtain ⟨A, K, B, es, hLs, hel, hR, hg, hput⟩ := hD.at (d := []) (k := k) (by omega)
  rw [hLs] at hZ
  have hDn := hput _ ((((x.getD k [])))) [intsH 2 v2 ((((x.getD k []))))] rfl ⟨_,  rfl, rfl⟩
  have hbd9 := hD.bound (k := k) (by omega)
  rw [Nat.mul_one, ← set_one (List.getElem?_eq_getElem (by omega))] at hDn
  exact ⟨(k + 1, (os.set k ((((x.getD k []))))), (cs.set k v2), A ++ ([intsH 2 v2 ((((x.getD k []))))] ++ B), F1), _, (FLe.trans leG1 le1), (FLe.refl _), ⟨rfl, rfl, rfl, trivial⟩, (Sub.cons (Sub.refl _)), ⟨rfl, (FLe.trans leG1 le1), (hc2), (by (try dsimp only) <;> omega), (by dsimp only; rw [List.length_set]; exact hol), (by dsimp only; rw [take_set_any (by omega), hos, take_succ_getD [] (by omega)]), (hDn), ((Fresh.swap hZ leG1 (Fresh.one hz1) le1))⟩, (by omega)⟩
 ·refine X.exit (thenQ_exit (thenQ_exit (blockQ_exit ?_)))
  refine X.seq ?_
  refine X.region ?_
  refine XL.cons (XOp.move (v1) rfl ?_)
  refine XL.cons (XOp.assign (v1) rfl ?_)
  refine XL.nil ?_
  refine X.freezeF [] _ _ rfl (fun F2 le2 hz2 => ?_)
  replace hx := hx.mono le2
  replace hc1 := hc1.mono le2
  replace hC := hC.mono le2
  have hf2 : RowsF F2 v1 os := CO.fz hC (by first | rfl | simp | omega) hz2.fz
  refine X.ret (retEnd (L' := L) [v1] (v1) (.tmp rfl .nil) rfl (FLe.trans leG1 le2) (FLe.refl _) (Sub.refl _) ?_)
  have e : os = x := by rw [← List.take_of_length_le (l := x) (i := k) (by omega), ← hos, List.take_of_length_le (by omega)]
  subst e
  exact ⟨_, rfl, hf2, Fresh.one (Fresh.deep hD hZ leG1 hz2 rfl le2), rfl⟩

/- laws.toSystem -/
theorem toSystem_spec {F : FH} {L : List HP} {arv : Value} {ar : List Int} (har : IntsF F arv ar) {rsv : Value} {rs : List (List Int × List Int)} (hrs : PairsF F rsv rs) (hla : ar.length ≤ 4000000) (hrl : rs.length ≤ 4000000) (hrb : ∀ i, i < rs.length → (rs.getD i ([], [])).1.length ≤ 4000000 ∧ (rs.getD i ([], [])).2.length ≤ 4000000) :
    Does Tryz.prog 11 [.agg #[arv, rsv]] F (L) (fun v F' L' => ∃ (a : Value), ∃ (b : Value), (.agg #[a, b] : Value) = v ∧ (IntsF F' a ar) ∧ (PairsF F' b rs) ∧ (Fresh F F' (star [intsH 2 a ar, pairsD 2 161 b rs])) ∧ L = L') := by
 refine Does.of_X Tryz.func11 rfl rfl rfl ?_
 refine X.seq ?_
 refine X.region ?_
 refine XL.cons (XOp.box [arv, rsv] rfl rfl ?_)
 intro b1
 refine XL.cons (XOp.alloc [(.slice none 0 0), (.slice none 0 0)] Tryz.zeroValue39 rfl ?_)
 intro b2
 refine XL.nil ?_
 refine X.seq ?_
 refine X.region ?_
 refine XL.cons (XOp.alloc [(.slice none 0 0), (.slice none 0 0)] Tryz.zeroValue39 rfl ?_)
 intro b3
 refine XL.nil ?_
 refine X.seq ?_
 refine X.region ?_
 refine XL.cons (XOp.fieldP (b := b1) (0) Tryz.runUnderlying27 rfl Tryz.sizeOf24 (by decide) rfl rfl ?_)
 refine XL.cons (XOp.loadN [arv] Tryz.isAgg24 Tryz.sizeOf24 rfl rfl (Rd.ownN [_, _] rfl rfl) ?_)
 refine XL.cons (XOp.call (args := [.agg #[arv]]) Tryz.call53 rfl (toSig_spec har (hlx := (by first | assumption | rfl | omega | (left; simp; done) | (right; simp; done)))) ?_)
 rintro _ F1 _ le1 ⟨x1, rfl, hr1, hr2, rfl⟩
 replace har := har.mono le1
 replace hrs := hrs.mono le1
 refine XL.cons (XOp.fieldP (b := b3) (0) Tryz.runUnderlying39 rfl Tryz.sizeOf36 (by decide) rfl rfl ?_)
 refine XL.cons (XOp.storeN (vs := [x1]) [] _ [x1, (.slice none 0 0)] Tryz.sizeOf36 rfl rfl rfl (ones_cons (one_sl (IntsF.isSl hr1)) ones_nil) rfl rfl rfl ?_)
 refine XL.nil ?_
 refine X.seq ?_
 refine X.region ?_
 refine XL.cons (XOp.fieldP (b := b1) (1) Tryz.runUnderlying27 rfl Tryz.sizeOf25 (by decide) rfl rfl ?_)
 refine XL.cons (XOp.load1 (v := rsv) Tryz.isAgg25 rfl (Rd.own [_, _] rfl rfl) ?_)
 refine XL.cons (XOp.call (args := [rsv]) Tryz.call54 rfl (toRuleS_spec hrs (hlx := (by first | assumption | rfl | omega | (left; simp; done) | (right; simp; done))) (hrb := (by first | assumption | rfl | omega | (left; simp; done) | (right; simp; done)))) ?_)
 rintro _ F2 _ le2 ⟨x2, rfl, hr3, hr4, rfl⟩
 replace har := har.mono le2
 replace hrs := hrs.mono le2
 replace hr1 := hr1.mono le2
 refine XL.cons (XOp.fieldP (b := b3) (1) Tryz.runUnderlying39 rfl Tryz.sizeOf37 (by decide) rfl rfl ?_)
 refine XL.cons (XOp.store1 (v := x2) [] _ [x1, x2] Tryz.sizeOf37 rfl rfl (one_sl (PairsF.isSl hr3)) rfl rfl rfl ?_)
 refine XL.nil ?_
 refine X.seq ?_
 refine X.region ?_
 refine XL.cons (XOp.loadN [x1, x2] Tryz.isAgg39 Tryz.sizeOf39 rfl rfl (Rd.ownN [] rfl rfl) ?_)
 refine XL.cons (XOp.storeN (vs := [x1, x2]) [_] _ [x1, x2] Tryz.sizeOf39 rfl rfl rfl (ones_cons (one_sl (IntsF.isSl hr1)) (ones_cons (one_sl (PairsF.isSl hr3)) ones_nil)) rfl rfl rfl ?_)
 refine XL.nil ?_
 refine X.ret (retEnd (L' := L) [.agg #[x1, x2]] (.agg #[x1, x2]) (.cell rfl (loadNV [x1, x2] Tryz.isAgg39 Tryz.sizeOf39 rfl (Rd.ownN [_] rfl rfl)) .nil) rfl (FLe.trans le1 le2) (FLe.refl _) (Sub.drop (Sub.drop (Sub.drop (Sub.refl _)))) ?_)
 exact ⟨_, _, rfl, hr1, hr3, (Fresh.app hr2 le1 hr4 le2), rfl⟩

/- laws.toSubst -/
theorem toSubst_spec {F : FH} {L : List HP} {sv : Value} {s : List (List Int)} (hs : RowsF F sv s) (hsl : s.length ≤ 4000000) (hsb : ∀ i, i < s.length → (s.getD i []).length ≤ 4000000) :
    Does Tryz.prog 32 [.agg #[sv]] F (L) (fun v F' L' => ∃ (a : Value), (.agg #[a] : Value) = v ∧ (RowsF F' a s) ∧ (Fresh F F' (star [rowsD 2 22 a s])) ∧ L = L') := by
 refine Does.of_X Tryz.func32 rfl rfl rfl ?_
 refine X.seq ?_
 refine X.region ?_
 refine XL.cons (XOp.box [sv] rfl rfl ?_)
 intro b1
 refine XL.cons (XOp.alloc [(.slice none 0 0)] Tryz.zeroValue78 rfl ?_)
 intro b2
 refine XL.nil ?_
 refine X.seq ?_
 refine X.region ?_
 refine XL.cons (XOp.alloc [(.slice none 0 0)] Tryz.zeroValue78 rfl ?_)
 intro b3
 refine XL.nil ?_
 refine X.seq ?_
 refine X.region ?_
 refine XL.cons (XOp.fieldP (b := b1) (0) Tryz.runUnderlying71 rfl Tryz.sizeOf69 (by decide) rfl rfl ?_)
 refine XL.cons (XOp.load1 (v := sv) Tryz.isAgg69 rfl (Rd.own [_, _] rfl rfl) ?_)
 refine XL.cons (XOp.call (args := [sv]) Tryz.call92 rfl (toInt64SS_spec hs (hlx := (by first | assumption | rfl | omega | (left; simp; done) | (right; simp; done))) (hrb := (by first | assumption | rfl | omega | (left; simp; done) | (right; simp; done)))) ?_)
 rintro _ F1 _ le1 ⟨x1, rfl, hr1, hr2, rfl⟩
 replace hs := hs.mono le1
 refine XL.cons (XOp.fieldP (b := b3) (0) Tryz.runUnderlying78 rfl Tryz.sizeOf69 (by decide) rfl rfl ?_)
 refine XL.cons (XOp.store1 (v := x1) [] _ [x1] Tryz.sizeOf69 rfl rfl (one_sl (RowsF.isSl hr1)) rfl rfl rfl ?_)
 refine XL.nil ?_
 refine X.seq ?_
 refine X.region ?_
 refine XL.cons (XOp.loadN [x1] Tryz.isAgg78 Tryz.sizeOf78 rfl rfl (Rd.ownN [] rfl rfl) ?_)
 refine XL.cons (XOp.storeN (vs := [x1]) [_] _ [x1] Tryz.sizeOf78 rfl rfl rfl (ones_cons (one_sl (RowsF.isSl hr1)) ones_nil) rfl rfl rfl ?_)
 refine XL.nil ?_
 refine X.ret (retEnd (L' := L) [.agg #[x1]] (.agg #[x1]) (.cell rfl (loadNV [x1] Tryz.isAgg78 Tryz.sizeOf78 rfl (Rd.ownN [_] rfl rfl)) .nil) rfl le1 (FLe.refl _) (Sub.drop (Sub.drop (Sub.drop (Sub.refl _)))) ?_)
 exact ⟨_, rfl, hr1, hr2, rfl⟩
end Go.Proofs.YtnloeeaidknblaaGreat
set_option linter.unusedSimpArgs false
set_option linter.unusedVariables false
namespace Go.Proofs.YtnloeeaidknblaaGreat
open Go X M

/- laws.markInt64S -/
theorem markInt64S_spec {F : FH} {L : List HP} {xv : Value} {x : List Int} {z : Int} (hz : 0 ≤ z ∧ z + (((x)).length : Int) ≤ 9000000000) :
    Does Tryz.prog 26 [xv, .int .i64 (z)] F (intsH 2 xv x :: L) (fun v F' L' => ∃ x' : List Int, ((x')) = iota z ((x)).length ∧ (.int .i64 (z + (((x)).length : Int)) : Value) = v ∧ F = F' ∧ intsH 2 xv x' :: L = L') := by
 refine Does.of_X Tryz.func26 rfl rfl rfl ?_
 refine X.seq ?_
 refine X.region ?_
 refine XL.cons (XOp.assign (.int .i64 (0)) rfl ?_)
 refine XL.nil ?_
 refine X.seq ?_
 refine X.seq ?_
 refine X.region ?_
 refine XL.cons (XOp.assign (.int .i64 (0)) rfl ?_)
 refine XL.nil ?_
 refine X.block ?_
 refine X.loop (α := Nat × List Int) (fun xQ => [(0, xv), (1, .int .i64 (z + ((xQ.1 : Nat) : Int))), (5, .int .i64 (((xQ.1 : Nat) : Int)))]) (fun xQ => intsH 2 xv xQ.2 :: L) (fun xQ F' => F = F' ∧ (xQ.1 ≤ x.length) ∧ (xQ.2 = iota z xQ.1 ++ x.drop xQ.1) ∧ (xQ.2.length = x.length)) (fun xQ => x.length - xQ.1) (0, x) ⟨rfl, (show Value.int .i64 z = .int .i64 (z + ((0 : Nat) : Int)) from congrArg (Value.int .i64) (by omega)), rfl, trivial⟩ (Sub.cons (Sub.refl _)) ⟨rfl, (by (try dsimp only) <;> omega), (by rw [iota_zero]; rfl), (rfl)⟩ ?_
 rintro ⟨k, os⟩ rE _ _ ⟨rfl, hk, hos, hol⟩
 show X _ _ _ _ (envs [(0, xv), (1, .int .i64 (z + ((k : Nat) : Int))), (5, .int .i64 (((k : Nat) : Int)))] rE) _ (intsH 2 xv os :: L)
 dsimp only at hk hos hol
 refine X.seq ?_
 refine X.seq ?_
 refine X.region ?_
 refine XL.cons (XOp.move (.int .i64 (((k : Nat) : Int))) rfl ?_)
 refine XL.cons (XOp.move (xv) rfl ?_)
 refine XL.cons (XOp.lenS (v := xv) (n := os.length) Tryz.runUnderlying22 rfl (intsH.slv [] rfl) ?_)
 refine XL.cons (XOp.lss (a := ((k : Nat) : Int)) (b := ((os.length : Nat) : Int)) rfl rfl ?_)
 refine XL.nil ?_
 refine X.condD (p := (((k : Nat) : Int) : Int) < ((os.length : Nat) : Int)) rfl (fun h1 => ?_) (fun h1 => ?_)
 ·refine X.skip ?_
  refine X.seq ?_
  refine X.block ?_
  refine X.seq ?_
  refine X.region ?_
  refine XL.cons (XOp.move (xv) rfl ?_)
  refine XL.cons (XOp.move (.int .i64 (((k : Nat) : Int))) rfl ?_)
  refine XL.cons (XOp.move (.int .i64 (z + ((k : Nat) : Int))) rfl ?_)
  refine XL.cons (XOp.indexS (v := xv) (i := ((k : Nat) : Int)) (n := os.length) k Tryz.runUnderlying22 Tryz.sizeOf2 rfl rfl rfl (intsH.slv [] rfl) (by omega) (Nat.mul_one _) ?_)
  refine XL.cons (intsH.storeX (i := k) (v := xv) [] _ (os.set k (z + ((k : Nat) : Int))) Tryz.sizeOf2 rfl rfl rfl (by omega) rfl ?_)
  refine XL.nil ?_
  refine X.region ?_
  refine XL.cons (XOp.move (.int .i64 (z + ((k : Nat) : Int))) rfl ?_)
  refine XL.cons (XOp.addR (a := z + ((k : Nat) : Int)) (b := 1) ((z + ((k : Nat) : Int)) + 1) rfl rfl (by omega) (by omega) ?_)
  refine XL.cons (XOp.assign (.int .i64 ((z + ((k : Nat) : Int)) + 1)) rfl ?_)
  refine XL.nil ?_
  refine X.region ?_
  refine XL.cons (XOp.move (.int .i64 (((k : Nat) : Int))) rfl ?_)
  refine XL.cons (XOp.addR (a := ((k : Nat) : Int)) (b := 1) (((k + 1 : Nat) : Int)) rfl rfl (by omega) (by omega) ?_)
  refine XL.cons (XOp.assign (.int .i64 (((k + 1 : Nat) : Int))) rfl ?_)
  refine XL.nil ?_
  exact ⟨(k + 1, (os.set k (z + ((k : Nat) : Int)))), _, FLe.refl _, (FLe.refl _), ⟨rfl, (congrArg (Value.int .i64) (by omega)), rfl, trivial⟩, (Sub.cons (Sub.refl _)), ⟨rfl, (by (try dsimp only) <;> omega), (by dsimp only; rw [hos]; exact iota_set (by omega)), (by dsimp only; rw [List.length_set]; exact hol)⟩, (by omega)⟩
 ·refine X.exit (thenQ_exit (thenQ_exit (blockQ_exit ?_)))
  refine X.seq ?_
  refine X.region ?_
  refine XL.cons (XOp.move (.int .i64 (z + ((k : Nat) : Int))) rfl ?_)
  refine XL.cons (XOp.assign (.int .i64 (z + ((k : Nat) : Int))) rfl ?_)
  refine XL.nil ?_
  refine X.ret (retEnd (L' := intsH 2 xv os :: L) [.int .i64 (z + ((k : Nat) : Int))] (.int .i64 (z + ((k : Nat) : Int))) (.tmp rfl .nil) rfl (FLe.refl _) (FLe.refl _) (Sub.cons (Sub.refl _)) ?_)
  have hkl : k = x.length := by omega
  subst hkl
  exact ⟨os, by rw [hos, List.drop_eq_nil_of_le (Nat.le_refl _), List.append_nil], rfl, rfl, rfl⟩

/- laws.heldInt64S -/
theorem heldInt64S_spec {F : FH} {L : List HP} {xv : Value} {x : List Int} (hx : IntsF F xv x) {z : Int} (hzb : 0 ≤ z ∧ z + (x.length : Int) ≤ 9000000000) :
    Does Tryz.prog 27 [xv, .int .i64 (z)] F (L) (fun v F' L' => (.int .i64 (heldF x z) : Value) = v ∧ F = F' ∧ L = L') := by
 refine Does.of_X Tryz.func27 rfl rfl rfl ?_
 refine X.seq ?_
 refine X.region ?_
 refine XL.cons (XOp.assign (.int .i64 (0)) rfl ?_)
 refine XL.nil ?_
 refine X.seq ?_
 refine X.seq ?_
 refine X.region ?_
 refine XL.cons (XOp.assign (.int .i64 (0)) rfl ?_)
 refine XL.nil ?_
 refine X.block ?_
 refine X.loop (α := Nat) (fun k => [(0, xv), (1, .int .i64 (z + ((k : Nat) : Int))), (5, .int .i64 (((k : Nat) : Int)))]) (fun k => L) (fun k F' => F = F' ∧ (k ≤ x.length) ∧ (x.take k = iota z k)) (fun k => x.length - k) 0 ⟨rfl, (show Value.int .i64 z = .int .i64 (z + ((0 : Nat) : Int)) from congrArg (Value.int .i64) (by omega)), rfl, trivial⟩ (Sub.refl _) ⟨rfl, (by (try dsimp only) <;> omega), (rfl)⟩ ?_
 rintro k rE _ _ ⟨rfl, hk, hos⟩
 show X _ _ _ _ (envs [(0, xv), (1, .int .i64 (z + ((k : Nat) : Int))), (5, .int .i64 (((k : Nat) : Int)))] rE) _ (L)
 refine X.seq ?_
 refine X.seq ?_
 refine X.region ?_
 refine XL.cons (XOp.move (.int .i64 (((k : Nat) : Int))) rfl ?_)
 refine XL.cons (XOp.move (xv) rfl ?_)
 refine XL.cons (XOp.lenS (v := xv) (n := (x).length) Tryz.runUnderlying22 rfl hx.slv ?_)
 refine XL.cons (XOp.lss (a := ((k : Nat) : Int)) (b := (((x).length : Nat) : Int)) rfl rfl ?_)
 refine XL.nil ?_
 refine X.condD (p := (((k : Nat) : Int) : Int) < (((x).length : Nat) : Int)) rfl (fun h1 => ?_) (fun h1 => ?_)
 ·refine X.skip ?_
  refine X.seq ?_
  refine X.block ?_
  refine X.seq ?_
  refine X.seq ?_
  refine X.region ?_
  refine XL.cons (XOp.move (xv) rfl ?_)
  refine XL.cons (XOp.move (.int .i64 (((k : Nat) : Int))) rfl ?_)
  refine XL.cons (XOp.indexS (v := xv) (i := ((k : Nat) : Int)) (n := (x).length) k Tryz.runUnderlying22 Tryz.sizeOf2 rfl rfl rfl hx.slv (by omega) (Nat.mul_one _) ?_)
  refine XL.cons (XOp.load1 (v := .int .i64 (x.getD k 0)) Tryz.isAgg2 rfl (hx.rd (by omega)) ?_)
  refine XL.cons (XOp.move (.int .i64 (z + ((k : Nat) : Int))) rfl ?_)
  refine XL.cons (XOp.neq (a := x.getD k 0) (b := z + ((k : Nat) : Int)) rfl rfl ?_)
  refine XL.nil ?_
  refine X.condD (p := (x.getD k 0 : Int) ≠ z + ((k : Nat) : Int)) rfl (fun h2 => ?_) (fun h2 => ?_)
  ·refine X.seq ?_
   refine X.region ?_
   refine XL.cons (XOp.assign (.int .i64 (-1)) rfl ?_)
   refine XL.nil ?_
   refine X.ret (thenQ_ret (blockQ_ret (thenQ_ret (thenQ_ret (blockQ_ret (thenQ_ret (retEnd (L' := L) [.int .i64 (-1)] (.int .i64 (-1)) (.tmp rfl .nil) rfl (FLe.refl _) (FLe.refl _) (Sub.refl _) ?_)))))))
   exact ⟨(congrArg (Value.int .i64) (heldF_snoc_no (i := k) (by omega) (by assumption))), rfl, rfl⟩
  ·refine X.skip ?_
   refine X.region ?_
   refine XL.cons (XOp.move (.int .i64 (z + ((k : Nat) : Int))) rfl ?_)
   refine XL.cons (XOp.addR (a := z + ((k : Nat) : Int)) (b := 1) ((z + ((k : Nat) : Int)) + 1) rfl rfl (by omega) (by omega) ?_)
   refine XL.cons (XOp.assign (.int .i64 ((z + ((k : Nat) : Int)) + 1)) rfl ?_)
   refine XL.nil ?_
   refine X.region ?_
   refine XL.cons (XOp.move (.int .i64 (((k : Nat) : Int))) rfl ?_)
   refine XL.cons (XOp.addR (a := ((k : Nat) : Int)) (b := 1) (((k + 1 : Nat) : Int)) rfl rfl (by omega) (by omega) ?_)
   refine XL.cons (XOp.assign (.int .i64 (((k + 1 : Nat) : Int))) rfl ?_)
   refine XL.nil ?_
   exact ⟨k + 1, _, FLe.refl _, (FLe.refl _), ⟨rfl, (congrArg (Value.int .i64) (by omega)), rfl, trivial⟩, (Sub.refl _), ⟨rfl, (by (try dsimp only) <;> omega), (by (try dsimp only); rw [take_succ_getD 0 (by omega), hos, iota_succ]; congr 2; first | assumption | exact Classical.not_not.1 (by assumption) | omega)⟩, (by omega)⟩
 ·refine X.exit (thenQ_exit (thenQ_exit (blockQ_exit ?_)))
  refine X.seq ?_
  refine X.region ?_
  refine XL.cons (XOp.move (.int .i64 (z + ((k : Nat) : Int))) rfl ?_)
  refine XL.cons (XOp.assign (.int .i64 (z + ((k : Nat) : Int))) rfl ?_)
  refine XL.nil ?_
  refine X.ret (retEnd (L' := L) [.int .i64 (z + ((k : Nat) : Int))] (.int .i64 (z + ((k : Nat) : Int))) (.tmp rfl .nil) rfl (FLe.refl _) (FLe.refl _) (Sub.refl _) ?_)
  exact ⟨(congrArg (Value.int .i64) (held_all (by omega) hos)), rfl, rfl⟩

/- laws.markSig -/
theorem markSig_spec {F : FH} {L : List HP} {xv : Value} {x : List Int} {z : Int} (hz : 0 ≤ z ∧ z + (((x)).length : Int) ≤ 9000000000) :
    Does Tryz.prog 87 [.agg #[xv], .int .i64 (z)] F (intsH 2 xv x :: L) (fun v F' L' => ∃ x' : List Int, ((x')) = iota z ((x)).length ∧ (.int .i64 (z + (((x)).length : Int)) : Value) = v ∧ F = F' ∧ intsH 2 xv x' :: L = L') := by
 refine Does.of_X Tryz.func87 rfl rfl rfl ?_
 refine X.seq ?_
 refine X.region ?_
 refine XL.cons (XOp.box [xv] rfl rfl ?_)
 intro b1
 refine XL.cons (XOp.assign (.int .i64 (0)) rfl ?_)
 refine XL.nil ?_
 refine X.seq ?_
 refine X.region ?_
 refine XL.cons (XOp.fieldP (b := b1) (0) Tryz.runUnderlying36 rfl Tryz.sizeOf22 (by decide) rfl rfl ?_)
 refine XL.cons (XOp.load1 (v := xv) Tryz.isAgg22 rfl (Rd.own [] rfl rfl) ?_)
 refine XL.cons (XOp.move (.int .i64 (z)) rfl ?_)
 refine XL.weaken (Sub.front (A := [_])) ?_
 show XL _ _ _ _ _ _ _ (intsH 2 xv x :: cellsH b1 [xv] 36 :: L)
 refine XL.cons (XOp.call (args := [xv, .int .i64 (z)]) Tryz.call26 rfl (markInt64S_spec (by omega)) ?_)
 rintro _ _ _ _ ⟨m1, hm1, rfl, rfl, rfl⟩
 have hml1 := congrArg List.length hm1
 rw [iota_len] at hml1
 try simp only [List.length_append] at hml1
 refine XL.cons (XOp.assign (.int .i64 (z + (((x)).length : Int))) rfl ?_)
 refine XL.nil ?_
 refine X.seq ?_
 refine X.region ?_
 refine XL.cons (XOp.move (.int .i64 (z + (((x)).length : Int))) rfl ?_)
 refine XL.cons (XOp.assign (.int .i64 (z + (((x)).length : Int))) rfl ?_)
 refine XL.nil ?_
 refine X.ret (retEnd (L' := intsH 2 xv m1 :: L) [.int .i64 (z + (((x)).length : Int))] (.int .i64 (z + (((x)).length : Int))) (.tmp rfl .nil) rfl (FLe.refl _) (FLe.refl _) (Sub.cons (Sub.drop (Sub.refl _))) ?_)
 exact ⟨m1, hm1, congrArg (Value.int .i64) (by first | rfl | (simp only [List.length_append]; omega)), rfl, rfl⟩

/- laws.markRuleS -/
theorem markRuleS_spec {F : FH} {L : List HP} {xv : Value} {x : List (List Int × List Int)} {z : Int} (hz : 0 ≤ z ∧ z + (((x.flatMap flatPair)).length : Int) ≤ 9000000000) (hnx : x.length ≤ 4000000) :
    Does Tryz.prog 96 [xv, .int .i64 (z)] F (pairsD 2 161 xv x :: L) (fun v F' L' => ∃ x' : List (List Int × List Int), ((x'.flatMap flatPair)) = iota z ((x.flatMap flatPair)).length ∧ x'.length = x.length ∧ (.int .i64 (z + (((x.flatMap flatPair)).length : Int)) : Value) = v ∧ F = F' ∧ pairsD 2 161 xv x' :: L = L') := by
 refine Does.of_X Tryz.func96 rfl rfl rfl ?_
 refine X.openDeep (fun cs Ls hd => ?_)
 refine X.weaken (Sub.front (A := [_])) ?_
 show X _ _ _ _ _ _ (star Ls :: slH 161 2 xv x.length cs :: L)
 refine X.seq ?_
 refine X.region ?_
 refine XL.cons (XOp.assign (.int .i64 (0)) rfl ?_)
 refine XL.nil ?_
 refine X.seq ?_
 refine X.seq ?_
 refine X.region ?_
 refine XL.cons (XOp.assign (.int .i64 (0)) rfl ?_)
 refine XL.nil ?_
 refine X.block ?_
 refine X.loop (α := Nat × List (List Int × List Int) × List HP) (fun xQ => [(0, xv), (1, .int .i64 (z + ((((x.take xQ.1).flatMap flatPair).length : Nat) : Int))), (5, .int .i64 (((xQ.1 : Nat) : Int)))]) (fun xQ => star xQ.2.2 :: slH 161 2 xv x.length cs :: L) (fun xQ F' => F = F' ∧ (DeepL 2 (PairO 2) cs (xQ.2.1 ++ x.drop xQ.1) xQ.2.2) ∧ (xQ.1 ≤ x.length) ∧ (xQ.2.1.length = xQ.1) ∧ (xQ.2.1.flatMap flatPair = iota z ((x.take xQ.1).flatMap flatPair).length)) (fun xQ => x.length - xQ.1) (0, [], Ls) ⟨rfl, (show Value.int .i64 z = .int .i64 (z + ((((x.take 0).flatMap flatPair).length : Nat) : Int)) from congrArg (Value.int .i64) (by simp)), rfl, trivial⟩ (Sub.cons (Sub.cons (Sub.refl _))) ⟨rfl, (hd), (by (try dsimp only) <;> omega), (rfl), (rfl)⟩ ?_
 rintro ⟨k, os, Ls⟩ rE _ _ ⟨rfl, hd, hk, hol, hfl⟩
 show X _ _ _ _ (envs [(0, xv), (1, .int .i64 (z + ((((x.take k).flatMap flatPair).length : Nat) : Int))), (5, .int .i64 (((k : Nat) : Int)))] rE) _ (star Ls :: slH 161 2 xv x.length cs :: L)
 dsimp only at hd hk hol hfl
 have htl := fun (h : k < x.length) => flat_take_le (f := flatPair) (l := x) ([], []) h
 have hlen : (os ++ x.drop k).length = x.length := by rw [List.length_append, List.length_drop]; omega
 refine X.seq ?_
 refine X.seq ?_
 refine X.region ?_
 refine XL.cons (XOp.move (.int .i64 (((k : Nat) : Int))) rfl ?_)
 refine XL.cons (XOp.move (xv) rfl ?_)
 refine XL.cons (XOp.lenS (v := xv) (n := x.length) Tryz.runUnderlying37 rfl (SlV.own [_] rfl) ?_)
 refine XL.cons (XOp.lss (a := ((k : Nat) : Int)) (b := ((x.length : Nat) : Int)) rfl rfl ?_)
 refine XL.nil ?_
 refine X.condD (p := (((k : Nat) : Int) : Int) < ((x.length : Nat) : Int)) rfl (fun h1 => ?_) (fun h1 => ?_)
 ·refine X.skip ?_
  refine X.seq ?_
  refine X.block ?_
  refine X.seq ?_
  refine X.region ?_
  have hkx : k < x.length := by omega
  have htl2 := htl hkx
  obtain ⟨A, K, B, es, hLs, hel, hR, hg, hput⟩ := hd.at (d := ([], [])) (k := k) (by omega)
  rw [app_getD hol] at hR
  have hself := splice_self hel hg (hd.bound (k := k) (by omega))
  obtain ⟨a, b, he, hK⟩ := hR
  subst he hK
  have hfp : (flatPair (x.getD k ([], []))).length = (x.getD k ([], [])).1.length + (x.getD k ([], [])).2.length := by unfold flatPair; rw [List.length_append]
  subst hLs
  refine XL.weaken (Sub.pull (A := A)) ?_
  show XL _ _ _ _ _ _ _ (intsH 2 a ((x.getD k ([], [])).1) :: intsH 2 b ((x.getD k ([], [])).2) :: star (A ++ B) :: slH 161 2 xv x.length cs :: L)
  skip
  refine XL.cons (XOp.move (xv) rfl ?_)
  refine XL.cons (XOp.move (.int .i64 (((k : Nat) : Int))) rfl ?_)
  refine XL.cons (XOp.indexS (v := xv) (i := ((k : Nat) : Int)) (n := x.length) k Tryz.runUnderlying37 Tryz.sizeOf161 rfl rfl rfl (SlV.own [_, _, _] rfl) (by omega) rfl ?_)
  refine XL.cons (XOp.fieldE (v := xv) (k * 2) Tryz.runUnderlying161 rfl Tryz.sizeOf22 (by decide) rfl rfl ?_)
  refine XL.cons (XOp.load1 (v := a) Tryz.isAgg22 rfl (Rd.sl [_, _, _] rfl (hg 0 _ rfl)) ?_)
  refine XL.cons (XOp.move (.int .i64 (z + ((((x.take k).flatMap flatPair).length : Nat) : Int))) rfl ?_)
  refine XL.cons (XOp.call (args := [a, .int .i64 (z + ((((x.take k).flatMap flatPair).length : Nat) : Int))]) Tryz.call26 rfl (markInt64S_spec (by omega)) ?_)
  rintro _ _ _ _ ⟨m1, hm1, rfl, rfl, rfl⟩
  have hml1 := congrArg List.length hm1
  rw [iota_len] at hml1
  try simp only [List.length_append] at hml1
  refine XL.cons (XOp.assign (.int .i64 ((z + ((((x.take k).flatMap flatPair).length : Nat) : Int)) + (((((x.getD k ([], [])).1))).length : Int))) rfl ?_)
  refine XL.nil ?_
  refine X.region ?_
  refine XL.cons (XOp.move (xv) rfl ?_)
  refine XL.cons (XOp.move (.int .i64 (((k : Nat) : Int))) rfl ?_)
  refine XL.cons (XOp.indexS (v := xv) (i := ((k : Nat) : Int)) (n := x.length) k Tryz.runUnderlying37 Tryz.sizeOf161 rfl rfl rfl (SlV.own [_, _, _] rfl) (by omega) rfl ?_)
  refine XL.cons (XOp.fieldE (v := xv) (k * 2 + 1) Tryz.runUnderlying161 rfl Tryz.sizeOf22 (by decide) rfl rfl ?_)
  refine XL.cons (XOp.load1 (v := b) Tryz.isAgg22 rfl (Rd.sl [_, _, _] rfl (hg 1 _ rfl)) ?_)
  refine XL.cons (XOp.move (.int .i64 ((z + ((((x.take k).flatMap flatPair).length : Nat) : Int)) + (((((x.getD k ([], [])).1))).length : Int))) rfl ?_)
  refine XL.weaken (Sub.front (A := [_])) ?_
  show XL _ _ _ _ _ _ _ (intsH 2 b ((x.getD k ([], [])).2) :: intsH 2 a m1 :: star (A ++ B) :: slH 161 2 xv x.length cs :: L)
  refine XL.cons (XOp.call (args := [b, .int .i64 ((z + ((((x.take k).flatMap flatPair).length : Nat) : Int)) + (((((x.getD k ([], [])).1))).length : Int))]) Tryz.call26 rfl (markInt64S_spec (by omega)) ?_)
  rintro _ _ _ _ ⟨m2, hm2, rfl, rfl, rfl⟩
  have hml2 := congrArg List.length hm2
  rw [iota_len] at hml2
  try simp only [List.length_append] at hml2
  refine XL.cons (XOp.assign (.int .i64 (((z + ((((x.take k).flatMap flatPair).length : Nat) : Int)) + (((((x.getD k ([], [])).1))).length : Int)) + (((((x.getD k ([], [])).2))).length : Int))) rfl ?_)
  refine XL.nil ?_
  refine X.region ?_
  refine XL.weaken (Sub.trans (Sub.front (A := [_, _, _])) (Sub.trans (Sub.front (A := [_, _, _])) (Sub.trans (Sub.front (A := [_, _])) (Sub.trans (Sub.front (A := [_, _, _])) (Sub.cons (Sub.cons (Sub.cons (Sub.cons (Sub.refl _))))))))) ?_
  refine XL.weaken (Sub.push (A := A) (K := [intsH 2 a m1, intsH 2 b m2]) (B := B)) ?_
  show XL _ _ _ _ _ _ _ (star (A ++ ([intsH 2 a m1, intsH 2 b m2] ++ B)) :: slH 161 2 xv x.length cs :: L)
  have hdn := hput [a, b] (m1, m2) _ rfl ⟨a, b, rfl, rfl⟩
  rw [hself, app_set hol hkx] at hdn
  have hfx : flatPair (m1, m2) = iota (z + ((((x.take k).flatMap flatPair).length : Nat) : Int)) (flatPair (x.getD k ([], []))).length := by rw [hfp, iota_add]; show m1 ++ m2 = _; rw [hm1, hm2]
  have hnext : (z + ((((x.take k).flatMap flatPair).length : Nat) : Int)) + ((x.getD k ([], [])).1.length : Int) + ((x.getD k ([], [])).2.length : Int) = z + ((((x.take (k + 1)).flatMap flatPair).length : Nat) : Int) := by rw [flatMap_take_succ flatPair ([], []) hkx, List.length_append, hfp]; omega
  skip
  refine XL.cons (XOp.move (.int .i64 (((k : Nat) : Int))) rfl ?_)
  refine XL.cons (XOp.addR (a := ((k : Nat) : Int)) (b := 1) (((k + 1 : Nat) : Int)) rfl rfl (by omega) (by omega) ?_)
  refine XL.cons (XOp.assign (.int .i64 (((k + 1 : Nat) : Int))) rfl ?_)
  refine XL.nil ?_
  exact ⟨(k + 1, os ++ [(m1, m2)], A ++ ([intsH 2 a m1, intsH 2 b m2] ++ B)), _, FLe.refl _, (FLe.refl _), ⟨rfl, (congrArg (Value.int .i64) hnext), rfl, trivial⟩, (Sub.cons (Sub.cons (Sub.refl _))), ⟨rfl, (hdn), (by (try dsimp only) <;> omega), (by simp [hol]), (marked (d := ([], [])) (by omega) hfl hfx)⟩, (by omega)⟩
 ·refine X.exit (thenQ_exit (thenQ_exit (blockQ_exit ?_)))
  refine X.seq ?_
  refine X.region ?_
  refine XL.cons (XOp.move (.int .i64 (z + ((((x.take k).flatMap flatPair).length : Nat) : Int))) rfl ?_)
  refine XL.cons (XOp.assign (.int .i64 (z + ((((x.take k).flatMap flatPair).length : Nat) : Int))) rfl ?_)
  refine XL.nil ?_
  refine X.ret (retEnd (L' := pairsD 2 161 xv os :: L) [.int .i64 (z + ((((x.take k).flatMap flatPair).length : Nat) : Int))] (.int .i64 (z + ((((x.take k).flatMap flatPair).length : Nat) : Int))) (.tmp rfl .nil) rfl (FLe.refl _) (FLe.refl _) (Sub.trans (Sub.front (A := [_])) (Sub.closeDeep (by rw [app_all (by omega)] at hd; exact hd) (by omega))) ?_)
  rw [app_all (by omega)] at hd
  have hkl : k = x.length := by omega
  exact ⟨os, by rw [hfl, hkl, List.take_length], by omega, by rw [hkl, List.take_length], rfl, rfl⟩

/- laws.markInt64SS -/
theorem markInt64SS_spec {F : FH} {L : List HP} {xv : Value} {x : List (List Int)} {z : Int} (hz : 0 ≤ z ∧ z + (((x.flatMap flatRow)).length : Int) ≤ 9000000000) (hnx : x.length ≤ 4000000) :
    Does Tryz.prog 97 [xv, .int .i64 (z)] F (rowsD 2 22 xv x :: L) (fun v F' L' => ∃ x' : List (List Int), ((x'.flatMap flatRow)) = iota z ((x.flatMap flatRow)).length ∧ x'.length = x.length ∧ (.int .i64 (z + (((x.flatMap flatRow)).length : Int)) : Value) = v ∧ F = F' ∧ rowsD 2 22 xv x' :: L = L') := by
 refine Does.of_X Tryz.func97 rfl rfl rfl ?_
 refine X.openDeep (fun cs Ls hd => ?_)
 refine X.weaken (Sub.front (A := [_])) ?_
 show X _ _ _ _ _ _ (star Ls :: slH 22 1 xv x.length cs :: L)
 refine X.seq ?_
 refine X.region ?_
 refine XL.cons (XOp.assign (.int .i64 (0)) rfl ?_)
 refine XL.nil ?_
 refine X.seq ?_
 refine X.seq ?_
 refine X.region ?_
 refine XL.cons (XOp.assign (.int .i64 (0)) rfl ?_)
 refine XL.nil ?_
 refine X.block ?_
 refine X.loop (α := Nat × List (List Int) × List HP) (fun xQ => [(0, xv), (1, .int .i64 (z + ((((x.take xQ.1).flatMap flatRow).length : Nat) : Int))), (5, .int .i64 (((xQ.1 : Nat) : Int)))]) (fun xQ => star xQ.2.2 :: slH 22 1 xv x.length cs :: L) (fun xQ F' => F = F' ∧ (DeepL 1 (RowO 2) cs (xQ.2.1 ++ x.drop xQ.1) xQ.2.2) ∧ (xQ.1 ≤ x.length) ∧ (xQ.2.1.length = xQ.1) ∧ (xQ.2.1.flatMap flatRow = iota z ((x.take xQ.1).flatMap flatRow).length)) (fun xQ => x.length - xQ.1) (0, [], Ls) ⟨rfl, (show Value.int .i64 z = .int .i64 (z + ((((x.take 0).flatMap flatRow).length : Nat) : Int)) from congrArg (Value.int .i64) (by simp)), rfl, trivial⟩ (Sub.cons (Sub.cons (Sub.refl _))) ⟨rfl, (hd), (by (try dsimp only) <;> omega), (rfl), (rfl)⟩ ?_
 rintro ⟨k, os, Ls⟩ rE _ _ ⟨rfl, hd, hk, hol, hfl⟩
 show X _ _ _ _ (envs [(0, xv), (1, .int .i64 (z + ((((x.take k).flatMap flatRow).length : Nat) : Int))), (5, .int .i64 (((k : Nat) : Int)))] rE) _ (star Ls :: slH 22 1 xv x.length cs :: L)
 dsimp only at hd hk hol hfl
 have htl := fun (h : k < x.length) => flat_take_le (f := flatRow) (l := x) [] h
 have hlen : (os ++ x.drop k).length = x.length := by rw [List.length_append, List.length_drop]; omega
 refine X.seq ?_
 refine X.seq ?_
 refine X.region ?_
 refine XL.cons (XOp.move (.int .i64 (((k : Nat) : Int))) rfl ?_)
 refine XL.cons (XOp.move (xv) rfl ?_)
 refine XL.cons (XOp.lenS (v := xv) (n := x.length) Tryz.runUnderlying69 rfl (SlV.own [_] rfl) ?_)
 refine XL.cons (XOp.lss (a := ((k : Nat) : Int)) (b := ((x.length : Nat) : Int)) rfl rfl ?_)
 refine XL.nil ?_
 refine X.condD (p := (((k : Nat) : Int) : Int) < ((x.length : Nat) : Int)) rfl (fun h1 => ?_) (fun h1 => ?_)
 ·refine X.skip ?_
  refine X.seq ?_
  refine X.block ?_
  refine X.region ?_
  have hkx : k < x.length := by omega
  have htl2 := htl hkx
  obtain ⟨A, K, B, es, hLs, hel, hR, hg, hput⟩ := hd.at (d := []) (k := k) (by omega)
  rw [app_getD hol] at hR
  have hself := splice_self hel hg (hd.bound (k := k) (by omega))
  obtain ⟨a, he, hK⟩ := hR
  subst he hK
  have hfp : (flatRow (x.getD k [])).length = (x.getD k []).length := rfl
  subst hLs
  refine XL.weaken (Sub.pull (A := A)) ?_
  show XL _ _ _ _ _ _ _ (intsH 2 a ((x.getD k [])) :: star (A ++ B) :: slH 22 1 xv x.length cs :: L)
  skip
  refine XL.cons (XOp.move (xv) rfl ?_)
  refine XL.cons (XOp.move (.int .i64 (((k : Nat) : Int))) rfl ?_)
  refine XL.cons (XOp.indexS (v := xv) (i := ((k : Nat) : Int)) (n := x.length) k Tryz.runUnderlying69 Tryz.sizeOf22 rfl rfl rfl (SlV.own [_, _] rfl) (by omega) (Nat.mul_one _) ?_)
  refine XL.cons (XOp.load1 (v := a) Tryz.isAgg22 rfl (Rd.sl [_, _] rfl (by simpa using hg 0 _ rfl)) ?_)
  refine XL.cons (XOp.move (.int .i64 (z + ((((x.take k).flatMap flatRow).length : Nat) : Int))) rfl ?_)
  refine XL.cons (XOp.call (args := [a, .int .i64 (z + ((((x.take k).flatMap flatRow).length : Nat) : Int))]) Tryz.call26 rfl (markInt64S_spec (by omega)) ?_)
  rintro _ _ _ _ ⟨m1, hm1, rfl, rfl, rfl⟩
  have hml1 := congrArg List.length hm1
  rw [iota_len] at hml1
  try simp only [List.length_append] at hml1
  refine XL.cons (XOp.assign (.int .i64 ((z + ((((x.take k).flatMap flatRow).length : Nat) : Int)) + (((((x.getD k [])))).length : Int))) rfl ?_)
  refine XL.nil ?_
  refine X.region ?_
  refine XL.weaken (Sub.cons (Sub.cons (Sub.cons (Sub.refl _)))) ?_
  refine XL.weaken (Sub.push (A := A) (K := [intsH 2 a m1]) (B := B)) ?_
  show XL _ _ _ _ _ _ _ (star (A ++ ([intsH 2 a m1] ++ B)) :: slH 22 1 xv x.length cs :: L)
  have hdn := hput [a] m1 _ rfl ⟨a, rfl, rfl⟩
  rw [hself, app_set hol hkx] at hdn
  have hfx : flatRow m1 = iota (z + ((((x.take k).flatMap flatRow).length : Nat) : Int)) (flatRow (x.getD k [])).length := by rw [hfp]; exact hm1
  have hnext : (z + ((((x.take k).flatMap flatRow).length : Nat) : Int)) + ((x.getD k []).length : Int) = z + ((((x.take (k + 1)).flatMap flatRow).length : Nat) : Int) := by rw [flatMap_take_succ flatRow [] hkx, List.length_append, hfp]; omega
  skip
  refine XL.cons (XOp.move (.int .i64 (((k : Nat) : Int))) rfl ?_)
  refine XL.cons (XOp.addR (a := ((k : Nat) : Int)) (b := 1) (((k + 1 : Nat) : Int)) rfl rfl (by omega) (by omega) ?_)
  refine XL.cons (XOp.assign (.int .i64 (((k + 1 : Nat) : Int))) rfl ?_)
  refine XL.nil ?_
  exact ⟨(k + 1, os ++ [m1], A ++ ([intsH 2 a m1] ++ B)), _, FLe.refl _, (FLe.refl _), ⟨rfl, (congrArg (Value.int .i64) hnext), rfl, trivial⟩, (Sub.cons (Sub.cons (Sub.refl _))), ⟨rfl, (hdn), (by (try dsimp only) <;> omega), (by simp [hol]), (marked (d := []) (by omega) hfl hfx)⟩, (by omega)⟩
 ·refine X.exit (thenQ_exit (thenQ_exit (blockQ_exit ?_)))
  refine X.seq ?_
  refine X.region ?_
  refine XL.cons (XOp.move (.int .i64 (z + ((((x.take k).flatMap flatRow).length : Nat) : Int))) rfl ?_)
  refine XL.cons (XOp.assign (.int .i64 (z + ((((x.take k).flatMap flatRow).length : Nat) : Int))) rfl ?_)
  refine XL.nil ?_
  refine X.ret (retEnd (L' := rowsD 2 22 xv os :: L) [.int .i64 (z + ((((x.take k).flatMap flatRow).length : Nat) : Int))] (.int .i64 (z + ((((x.take k).flatMap flatRow).length : Nat) : Int))) (.tmp rfl .nil) rfl (FLe.refl _) (FLe.refl _) (Sub.trans (Sub.front (A := [_])) (Sub.closeDeep (by rw [app_all (by omega)] at hd; exact hd) (by omega))) ?_)
  rw [app_all (by omega)] at hd
  have hkl : k = x.length := by omega
  exact ⟨os, by rw [hfl, hkl, List.take_length], by omega, by rw [hkl, List.take_length], rfl, rfl⟩

/- laws.markSystem -/
theorem markSystem_spec {F : FH} {L : List HP} {xv : Value} {x : List Int} {yv : Value} {y : List (List Int × List Int)} {z : Int} (hz : 0 ≤ z ∧ z + (((x) ++ (y.flatMap flatPair)).length : Int) ≤ 9000000000) (hny : y.length ≤ 4000000) :
    Does Tryz.prog 36 [.agg #[xv, yv], .int .i64 (z)] F (intsH 2 xv x :: pairsD 2 161 yv y :: L) (fun v F' L' => ∃ x' : List Int, ∃ y' : List (List Int × List Int), ((x') ++ (y'.flatMap flatPair)) = iota z ((x) ++ (y.flatMap flatPair)).length ∧ y'.length = y.length ∧ (.int .i64 (z + (((x) ++ (y.flatMap flatPair)).length : Int)) : Value) = v ∧ F = F' ∧ intsH 2 xv x' :: pairsD 2 161 yv y' :: L = L') := by
 refine Does.of_X Tryz.func36 rfl rfl rfl ?_
 have hlx : ((x) ++ (y.flatMap flatPair)).length = x.length + (y.flatMap flatPair).length := List.length_append
 refine X.seq ?_
 refine X.region ?_
 refine XL.cons (XOp.box [xv, yv] rfl rfl ?_)
 intro b1
 refine XL.cons (XOp.assign (.int .i64 (0)) rfl ?_)
 refine XL.nil ?_
 refine X.seq ?_
 refine X.region ?_
 refine XL.cons (XOp.fieldP (b := b1) (0) Tryz.runUnderlying39 rfl Tryz.sizeOf36 (by decide) rfl rfl ?_)
 refine XL.cons (XOp.loadN [xv] Tryz.isAgg36 Tryz.sizeOf36 rfl rfl (Rd.ownN [] rfl rfl) ?_)
 refine XL.cons (XOp.move (.int .i64 (z)) rfl ?_)
 refine XL.weaken (Sub.front (A := [_])) ?_
 show XL _ _ _ _ _ _ _ (intsH 2 xv x :: cellsH b1 [xv, yv] 39 :: pairsD 2 161 yv y :: L)
 refine XL.cons (XOp.call (args := [.agg #[xv], .int .i64 (z)]) Tryz.call87 rfl (markSig_spec (by omega)) ?_)
 rintro _ _ _ _ ⟨m1, hm1, rfl, rfl, rfl⟩
 have hml1 := congrArg List.length hm1
 rw [iota_len] at hml1
 try simp only [List.length_append] at hml1
 refine XL.cons (XOp.assign (.int .i64 (z + (((x)).length : Int))) rfl ?_)
 refine XL.nil ?_
 refine X.seq ?_
 refine X.region ?_
 refine XL.cons (XOp.fieldP (b := b1) (1) Tryz.runUnderlying39 rfl Tryz.sizeOf37 (by decide) rfl rfl ?_)
 refine XL.cons (XOp.load1 (v := yv) Tryz.isAgg37 rfl (Rd.own [_] rfl rfl) ?_)
 refine XL.cons (XOp.move (.int .i64 (z + (((x)).length : Int))) rfl ?_)
 refine XL.weaken (Sub.front (A := [_, _])) ?_
 show XL _ _ _ _ _ _ _ (pairsD 2 161 yv y :: intsH 2 xv m1 :: cellsH b1 [xv, yv] 39 :: L)
 refine XL.cons (XOp.call (args := [yv, .int .i64 (z + (((x)).length : Int))]) Tryz.call96 rfl (markRuleS_spec (by omega) (by omega)) ?_)
 rintro _ _ _ _ ⟨m2, hm2, hk1, rfl, rfl, rfl⟩
 have hml2 := congrArg List.length hm2
 rw [iota_len] at hml2
 try simp only [List.length_append] at hml2
 refine XL.cons (XOp.assign (.int .i64 ((z + (((x)).length : Int)) + (((y.flatMap flatPair)).length : Int))) rfl ?_)
 refine XL.nil ?_
 refine X.seq ?_
 refine X.region ?_
 refine XL.cons (XOp.move (.int .i64 ((z + (((x)).length : Int)) + (((y.flatMap flatPair)).length : Int))) rfl ?_)
 refine XL.cons (XOp.assign (.int .i64 ((z + (((x)).length : Int)) + (((y.flatMap flatPair)).length : Int))) rfl ?_)
 refine XL.nil ?_
 refine X.ret (retEnd (L' := intsH 2 xv m1 :: pairsD 2 161 yv m2 :: L) [.int .i64 ((z + (((x)).length : Int)) + (((y.flatMap flatPair)).length : Int))] (.int .i64 ((z + (((x)).length : Int)) + (((y.flatMap flatPair)).length : Int))) (.tmp rfl .nil) rfl (FLe.refl _) (FLe.refl _) (Sub.trans (Sub.front (A := [_])) (Sub.cons (Sub.cons (Sub.drop (Sub.refl _))))) ?_)
 exact ⟨m1, m2, by rw [List.length_append, iota_add, hm1, hm2], (by assumption), congrArg (Value.int .i64) (by first | rfl | (simp only [List.length_append]; omega)), rfl, rfl⟩

/- laws.markSubst -/
theorem markSubst_spec {F : FH} {L : List HP} {xv : Value} {x : List (List Int)} {z : Int} (hz : 0 ≤ z ∧ z + (((x.flatMap flatRow)).length : Int) ≤ 9000000000) (hnx : x.length ≤ 4000000) :
    Does Tryz.prog 38 [.agg #[xv], .int .i64 (z)] F (rowsD 2 22 xv x :: L) (fun v F' L' => ∃ x' : List (List Int), ((x'.flatMap flatRow)) = iota z ((x.flatMap flatRow)).length ∧ x'.length = x.length ∧ (.int .i64 (z + (((x.flatMap flatRow)).length : Int)) : Value) = v ∧ F = F' ∧ rowsD 2 22 xv x' :: L = L') := by
 refine Does.of_X Tryz.func38 rfl rfl rfl ?_
 refine X.seq ?_
 refine X.region ?_
 refine XL.cons (XOp.box [xv] rfl rfl ?_)
 intro b1
 refine XL.cons (XOp.assign (.int .i64 (0)) rfl ?_)
 refine XL.nil ?_
 refine X.seq ?_
 refine X.region ?_
 refine XL.cons (XOp.fieldP (b := b1) (0) Tryz.runUnderlying78 rfl Tryz.sizeOf69 (by decide) rfl rfl ?_)
 refine XL.cons (XOp.load1 (v := xv) Tryz.isAgg69 rfl (Rd.own [] rfl rfl) ?_)
 refine XL.cons (XOp.move (.int .i64 (z)) rfl ?_)
 refine XL.weaken (Sub.front (A := [_])) ?_
 show XL _ _ _ _ _ _ _ (rowsD 2 22 xv x :: cellsH b1 [xv] 78 :: L)
 refine XL.cons (XOp.call (args := [xv, .int .i64 (z)]) Tryz.call97 rfl (markInt64SS_spec (by omega) (by omega)) ?_)
 rintro _ _ _ _ ⟨m1, hm1, hk1, rfl, rfl, rfl⟩
 have hml1 := congrArg List.length hm1
 rw [iota_len] at hml1
 try simp only [List.length_append] at hml1
 refine XL.cons (XOp.assign (.int .i64 (z + (((x.flatMap flatRow)).length : Int))) rfl ?_)
 refine XL.nil ?_
 refine X.seq ?_
 refine X.region ?_
 refine XL.cons (XOp.move (.int .i64 (z + (((x.flatMap flatRow)).length : Int))) rfl ?_)
 refine XL.cons (XOp.assign (.int .i64 (z + (((x.flatMap flatRow)).length : Int))) rfl ?_)
 refine XL.nil ?_
 refine X.ret (retEnd (L' := rowsD 2 22 xv m1 :: L) [.int .i64 (z + (((x.flatMap flatRow)).length : Int))] (.int .i64 (z + (((x.flatMap flatRow)).length : Int))) (.tmp rfl .nil) rfl (FLe.refl _) (FLe.refl _) (Sub.cons (Sub.drop (Sub.refl _))) ?_)
 exact ⟨m1, hm1, (by assumption), congrArg (Value.int .i64) (by first | rfl | (simp only [List.length_append]; omega)), rfl, rfl⟩
end Go.Proofs.YtnloeeaidknblaaGreat
set_option linter.unusedSimpArgs false
set_option linter.unusedVariables false
namespace Go.Proofs.YtnloeeaidknblaaGreat
open Go X M

/- laws.szInt64SS -/
theorem szInt64SS_spec {F : FH} {L : List HP} {rsv : Value} {rs : List (List Int)} (hrs : RowsF F rsv rs) {z : Int} (hz : 0 ≤ z ∧ z ≤ 4000000) (hrl : rs.length ≤ 9223372036854775807) (hrb : ∀ i, i < rs.length → (rs.getD i []).length ≤ 9223372036854775807) :
    Does Tryz.prog 89 [rsv, .int .i64 (z)] F (L) (fun v F' L' => (.int .i64 (dec z (szG lenR rs)) : Value) = v ∧ F = F' ∧ L = L') := by
 refine Does.of_X Tryz.func89 rfl rfl rfl ?_
 refine X.seq ?_
 refine X.region ?_
 refine XL.cons (XOp.assign (.int .i64 (0)) rfl ?_)
 refine XL.nil ?_
 refine X.seq ?_
 refine X.region ?_
 refine XL.cons (XOp.move (.int .i64 (z)) rfl ?_)
 refine XL.cons (XOp.move (rsv) rfl ?_)
 refine XL.cons (XOp.lenS (v := rsv) (n := (rs).length) Tryz.runUnderlying69 rfl hrs.slv ?_)
 refine XL.cons (XOp.subR (a := z) (b := (((rs).length : Nat) : Int)) (z - ((((rs).length : Nat) : Int))) rfl rfl (by omega) (by omega) ?_)
 refine XL.cons (XOp.assign (.int .i64 (z - ((((rs).length : Nat) : Int)))) rfl ?_)
 refine XL.nil ?_
 refine X.seq ?_
 refine X.seq ?_
 refine X.region ?_
 refine XL.cons (XOp.move (.int .i64 (z - ((((rs).length : Nat) : Int)))) rfl ?_)
 refine XL.cons (XOp.lss (a := z - ((((rs).length : Nat) : Int))) (b := 0) rfl rfl ?_)
 refine XL.nil ?_
 refine X.condD (p := (z - ((((rs).length : Nat) : Int)) : Int) < 0) rfl (fun h1 => ?_) (fun h1 => ?_)
 ·refine X.seq ?_
  refine X.region ?_
  refine XL.cons (XOp.assign (.int .i64 (-1)) rfl ?_)
  refine XL.nil ?_
  refine X.ret (thenQ_ret (retEnd (L' := L) [.int .i64 (-1)] (.int .i64 (-1)) (.tmp rfl .nil) rfl (FLe.refl _) (FLe.refl _) (Sub.refl _) ?_))
  exact ⟨(congrArg (Value.int .i64) (dec_mono (n := rs.length) (by rw [dec_neg (by omega)]; omega) (by unfold szG; omega))), rfl, rfl⟩
 ·refine X.skip ?_
  refine X.seq ?_
  refine X.seq ?_
  refine X.region ?_
  refine XL.cons (XOp.assign (.int .i64 (0)) rfl ?_)
  refine XL.nil ?_
  refine X.block ?_
  refine X.loop (α := Nat) (fun k => [(0, rsv), (1, .int .i64 (dec z (rs.length + gTo lenR rs k))), (5, .int .i64 (((k : Nat) : Int)))]) (fun k => L) (fun k F' => F = F' ∧ (k ≤ rs.length) ∧ (0 ≤ dec z (rs.length + gTo lenR rs k))) (fun k => rs.length - k) 0 ⟨rfl, (congrArg (Value.int .i64) (by show z - rs.length = dec z (rs.length + 0); rw [Nat.add_zero, dec_pos (by omega)])), rfl, trivial⟩ (Sub.refl _) ⟨rfl, (by (try dsimp only) <;> omega), (by show 0 ≤ dec z (rs.length + 0); rw [Nat.add_zero, dec_pos (by omega)]; omega)⟩ ?_
  rintro k rE _ _ ⟨rfl, hk, hnn⟩
  show X _ _ _ _ (envs [(0, rsv), (1, .int .i64 (dec z (rs.length + gTo lenR rs k))), (5, .int .i64 (((k : Nat) : Int)))] rE) _ (L)
  have hdr := dec_range z (rs.length + gTo lenR rs k)
  have hrk := hrb k
  have hgk : lenR (rs.getD k []) = (rs.getD k []).length := rfl
  refine X.seq ?_
  refine X.seq ?_
  refine X.region ?_
  refine XL.cons (XOp.move (.int .i64 (((k : Nat) : Int))) rfl ?_)
  refine XL.cons (XOp.move (rsv) rfl ?_)
  refine XL.cons (XOp.lenS (v := rsv) (n := (rs).length) Tryz.runUnderlying69 rfl hrs.slv ?_)
  refine XL.cons (XOp.lss (a := ((k : Nat) : Int)) (b := (((rs).length : Nat) : Int)) rfl rfl ?_)
  refine XL.nil ?_
  refine X.condD (p := (((k : Nat) : Int) : Int) < (((rs).length : Nat) : Int)) rfl (fun h2 => ?_) (fun h2 => ?_)
  ·refine X.skip ?_
   refine X.seq ?_
   refine X.block ?_
   refine X.seq ?_
   refine X.region ?_
   refine XL.cons (XOp.move (rsv) rfl ?_)
   refine XL.cons (XOp.move (.int .i64 (((k : Nat) : Int))) rfl ?_)
   refine XL.cons (XOp.indexS (v := rsv) (i := ((k : Nat) : Int)) (n := (rs).length) k Tryz.runUnderlying69 Tryz.sizeOf22 rfl rfl rfl hrs.slv (by omega) (Nat.mul_one _) ?_)
   obtain ⟨a1, ha1, hr1⟩ := hrs.rd (i := k) (by omega)
   refine XL.cons (XOp.load1 (v := a1) Tryz.isAgg22 rfl (hr1 _) ?_)
   refine XL.cons (XOp.move (.int .i64 (dec z (rs.length + gTo lenR rs k))) rfl ?_)
   refine XL.cons (XOp.call (args := [a1, .int .i64 (dec z (rs.length + gTo lenR rs k))]) Tryz.call49 rfl (szInt64S_spec (z := dec z (rs.length + gTo lenR rs k)) ha1 (hz := (by first | assumption | rfl | omega | (left; simp; done) | (right; simp; done))) (hlx := (by first | assumption | rfl | omega | (left; simp; done) | (right; simp; done)))) ?_)
   rintro _ _ _ _ ⟨rfl, rfl, rfl⟩
   refine XL.cons (XOp.assign (.int .i64 (dec (dec z (rs.length + gTo lenR rs k)) ((rs.getD k [])).length)) rfl ?_)
   refine XL.nil ?_
   refine X.seq ?_
   refine X.region ?_
   refine XL.cons (XOp.move (.int .i64 (dec (dec z (rs.length + gTo lenR rs k)) ((rs.getD k [])).length)) rfl ?_)
   refine XL.cons (XOp.lss (a := dec (dec z (rs.length + gTo lenR rs k)) ((rs.getD k [])).length) (b := 0) rfl rfl ?_)
   refine XL.nil ?_
   refine X.condD (p := (dec (dec z (rs.length + gTo lenR rs k)) ((rs.getD k [])).length : Int) < 0) rfl (fun h3 => ?_) (fun h3 => ?_)
   ·refine X.seq ?_
    refine X.region ?_
    refine XL.cons (XOp.assign (.int .i64 (-1)) rfl ?_)
    refine XL.nil ?_
    refine X.ret (blockQ_ret (thenQ_ret (thenQ_ret (blockQ_ret (thenQ_ret (retEnd (L' := L) [.int .i64 (-1)] (.int .i64 (-1)) (.tmp rfl .nil) rfl (FLe.refl _) (FLe.refl _) (Sub.refl _) ?_))))))
    exact ⟨(congrArg (Value.int .i64) (by have h9 := gTo_le (f := lenR) (l := rs) ([] : List Int) (k + 1) rs.length (by omega) (Nat.le_refl _); refine dec_mono (n := rs.length + gTo lenR rs (k + 1)) ?_ (by unfold szG; omega); rw [← gTo_succ ([] : List Int) (by omega), ← Nat.add_assoc, ← dec_dec (by omega)]; assumption)), rfl, rfl⟩
   ·refine X.skip ?_
    refine X.region ?_
    refine XL.cons (XOp.move (.int .i64 (((k : Nat) : Int))) rfl ?_)
    refine XL.cons (XOp.addR (a := ((k : Nat) : Int)) (b := 1) (((k + 1 : Nat) : Int)) rfl rfl (by omega) (by omega) ?_)
    refine XL.cons (XOp.assign (.int .i64 (((k + 1 : Nat) : Int))) rfl ?_)
    refine XL.nil ?_
    exact ⟨k + 1, _, FLe.refl _, (FLe.refl _), ⟨rfl, (congrArg (Value.int .i64) (by rw [dec_dec (by omega), Nat.add_assoc, ← gTo_succ ([] : List Int) (by omega)]; rfl)), rfl, trivial⟩, (Sub.refl _), ⟨rfl, (by (try dsimp only) <;> omega), (by (try dsimp only); rw [← gTo_succ ([] : List Int) (by omega), ← Nat.add_assoc, ← dec_dec (by omega)]; exact Int.not_lt.1 (by assumption))⟩, (by omega)⟩
  ·refine X.exit (thenQ_exit (thenQ_exit (blockQ_exit ?_)))
   refine X.seq ?_
   refine X.region ?_
   refine XL.cons (XOp.move (.int .i64 (dec z (rs.length + gTo lenR rs k))) rfl ?_)
   refine XL.cons (XOp.assign (.int .i64 (dec z (rs.length + gTo lenR rs k))) rfl ?_)
   refine XL.nil ?_
   refine X.ret (retEnd (L' := L) [.int .i64 (dec z (rs.length + gTo lenR rs k))] (.int .i64 (dec z (rs.length + gTo lenR rs k))) (.tmp rfl .nil) rfl (FLe.refl _) (FLe.refl _) (Sub.refl _) ?_)
   exact ⟨(congrArg (Value.int .i64) (by rw [szG, show k = rs.length from by omega])), rfl, rfl⟩

/- laws.szSubst -/
theorem szSubst_spec {F : FH} {L : List HP} {rsv : Value} {rs : List (List Int)} (hrs : RowsF F rsv rs) {z : Int} (hz : 0 ≤ z ∧ z ≤ 4000000) (hrl : rs.length ≤ 9223372036854775807) (hrb : ∀ i, i < rs.length → (rs.getD i []).length ≤ 9223372036854775807) :
    Does Tryz.prog 29 [.agg #[rsv], .int .i64 (z)] F (L) (fun v F' L' => (.int .i64 (dec z (szG lenR rs)) : Value) = v ∧ F = F' ∧ L = L') := by
 refine Does.of_X Tryz.func29 rfl rfl rfl ?_
 have hdr := dec_range z (szG lenR rs)
 refine X.seq ?_
 refine X.region ?_
 refine XL.cons (XOp.box [rsv] rfl rfl ?_)
 intro b1
 refine XL.cons (XOp.assign (.int .i64 (0)) rfl ?_)
 refine XL.nil ?_
 refine X.seq ?_
 refine X.region ?_
 refine XL.cons (XOp.fieldP (b := b1) (0) Tryz.runUnderlying71 rfl Tryz.sizeOf69 (by decide) rfl rfl ?_)
 refine XL.cons (XOp.load1 (v := rsv) Tryz.isAgg69 rfl (Rd.own [] rfl rfl) ?_)
 refine XL.cons (XOp.move (.int .i64 (z)) rfl ?_)
 refine XL.cons (XOp.call (args := [rsv, .int .i64 (z)]) Tryz.call89 rfl (szInt64SS_spec (z := z) hrs (hz := (by first | assumption | rfl | omega | (left; simp; done) | (right; simp; done))) (hrl := (by first | assumption | rfl | omega | (left; simp; done) | (right; simp; done))) (hrb := (by first | assumption | rfl | omega | (left; simp; done) | (right; simp; done)))) ?_)
 rintro _ _ _ _ ⟨rfl, rfl, rfl⟩
 refine XL.cons (XOp.assign (.int .i64 (dec z (szG lenR rs))) rfl ?_)
 refine XL.nil ?_
 refine X.seq ?_
 refine X.seq ?_
 refine X.region ?_
 refine XL.cons (XOp.move (.int .i64 (dec z (szG lenR rs))) rfl ?_)
 refine XL.cons (XOp.lss (a := dec z (szG lenR rs)) (b := 0) rfl rfl ?_)
 refine XL.nil ?_
 refine X.condD (p := (dec z (szG lenR rs) : Int) < 0) rfl (fun h1 => ?_) (fun h1 => ?_)
 ·refine X.seq ?_
  refine X.region ?_
  refine XL.cons (XOp.assign (.int .i64 (-1)) rfl ?_)
  refine XL.nil ?_
  refine X.ret (thenQ_ret (retEnd (L' := L) [.int .i64 (-1)] (.int .i64 (-1)) (.tmp rfl .nil) rfl (FLe.refl _) (FLe.refl _) (Sub.drop (Sub.refl _)) ?_))
  exact ⟨(congrArg (Value.int .i64) (by omega)), rfl, rfl⟩
 ·refine X.skip ?_
  refine X.seq ?_
  refine X.region ?_
  refine XL.cons (XOp.move (.int .i64 (dec z (szG lenR rs))) rfl ?_)
  refine XL.cons (XOp.assign (.int .i64 (dec z (szG lenR rs))) rfl ?_)
  refine XL.nil ?_
  refine X.ret (retEnd (L' := L) [.int .i64 (dec z (szG lenR rs))] (.int .i64 (dec z (szG lenR rs))) (.tmp rfl .nil) rfl (FLe.refl _) (FLe.refl _) (Sub.drop (Sub.refl _)) ?_)
  exact ⟨rfl, rfl, rfl⟩

/- laws.eqInt64SS -/
theorem eqInt64SS_spec {F : FH} {L : List HP} {av : Value} {a : List (List Int)} (ha : RowsF F av a) {bv : Value} {b : List (List Int)} (hb : RowsF F bv b) (hal : a.length ≤ 9223372036854775807) (hbd : ∀ i, i < a.length → (a.getD i []).length ≤ 9223372036854775807) :
    Does Tryz.prog 95 [av, bv] F (L) (fun v F' L' => (.bool (decide (a = b)) : Value) = v ∧ F = F' ∧ L = L') := by
 refine Does.of_X Tryz.func95 rfl rfl rfl ?_
 refine X.seq ?_
 refine X.region ?_
 refine XL.cons (XOp.assign (.bool (false)) rfl ?_)
 refine XL.nil ?_
 refine X.seq ?_
 refine X.seq ?_
 refine X.region ?_
 refine XL.cons (XOp.move (av) rfl ?_)
 refine XL.cons (XOp.lenS (v := av) (n := (a).length) Tryz.runUnderlying69 rfl ha.slv ?_)
 refine XL.cons (XOp.move (bv) rfl ?_)
 refine XL.cons (XOp.lenS (v := bv) (n := (b).length) Tryz.runUnderlying69 rfl hb.slv ?_)
 refine XL.cons (XOp.neq (a := (((a).length : Nat) : Int)) (b := (((b).length : Nat) : Int)) rfl rfl ?_)
 refine XL.nil ?_
 refine X.condD (p := ((((a).length : Nat) : Int) : Int) ≠ (((b).length : Nat) : Int)) rfl (fun h1 => ?_) (fun h1 => ?_)
 ·refine X.seq ?_
  refine X.region ?_
  refine XL.cons (XOp.assign (.bool (false)) rfl ?_)
  refine XL.nil ?_
  refine X.ret (thenQ_ret (retEnd (L' := L) [.bool (false)] (.bool (false)) (.tmp rfl .nil) rfl (FLe.refl _) (FLe.refl _) (Sub.refl _) ?_))
  exact ⟨(congrArg Value.bool (decide_eq_false (fun e => by rw [e] at h1; omega))), rfl, rfl⟩
 ·refine X.skip ?_
  refine X.seq ?_
  refine X.seq ?_
  refine X.region ?_
  refine XL.cons (XOp.assign (.int .i64 (0)) rfl ?_)
  refine XL.nil ?_
  refine X.block ?_
  refine X.loop (α := Nat) (fun k => [(0, av), (1, bv), (5, .int .i64 (((k : Nat) : Int)))]) (fun k => L) (fun k F' => F = F' ∧ (k ≤ a.length) ∧ (∀ i, i < k → a.getD i ([] : List Int) = b.getD i ([] : List Int))) (fun k => a.length - k) 0 ⟨rfl, rfl, rfl, trivial⟩ (Sub.refl _) ⟨rfl, (by (try dsimp only) <;> omega), (fun i hi => absurd hi (by omega))⟩ ?_
  rintro k rE _ _ ⟨rfl, hk, hall⟩
  show X _ _ _ _ (envs [(0, av), (1, bv), (5, .int .i64 (((k : Nat) : Int)))] rE) _ (L)
  have hbk := hbd k
  refine X.seq ?_
  refine X.seq ?_
  refine X.region ?_
  refine XL.cons (XOp.move (.int .i64 (((k : Nat) : Int))) rfl ?_)
  refine XL.cons (XOp.move (av) rfl ?_)
  refine XL.cons (XOp.lenS (v := av) (n := (a).length) Tryz.runUnderlying69 rfl ha.slv ?_)
  refine XL.cons (XOp.lss (a := ((k : Nat) : Int)) (b := (((a).length : Nat) : Int)) rfl rfl ?_)
  refine XL.nil ?_
  refine X.condD (p := (((k : Nat) : Int) : Int) < (((a).length : Nat) : Int)) rfl (fun h2 => ?_) (fun h2 => ?_)
  ·refine X.skip ?_
   refine X.seq ?_
   refine X.block ?_
   refine X.seq ?_
   obtain ⟨a1, ha1, hr1⟩ := ha.rd (i := k) (by omega)
   obtain ⟨a2, ha2, hr2⟩ := hb.rd (i := k) (by omega)
   refine X.draw [] L 8 [[], [], [], [], [], [], [], []] [[], [], [0, 1], [2], [], [], [4, 5], [6]] (phiL [fun us v => v = av, fun us v => v = (.int .i64 (((k : Nat) : Int)) : Value), fun us v => v = (.pointer (some (elemA av (k))) : Value), fun us v => v = a1, fun us v => v = bv, fun us v => v = (.int .i64 (((k : Nat) : Int)) : Value), fun us v => v = (.pointer (some (elemA bv (k))) : Value), fun us v => v = a2]) (ownL [fun us v => [], fun us v => [], fun us v => [], fun us v => [], fun us v => [], fun us v => [], fun us v => [], fun us v => []]) mixed rfl rfl (by kernel_rfl) ?_ ?_
   ·refine stepsP.cons (fun vals R hpZ => ?_) ?_
    ·refine XG.op (XOp.move (av) rfl ?_)
     exact ⟨rfl, rfl, rfl⟩
    refine stepsP.cons (fun vals R hpZ => ?_) ?_
    ·refine XG.op (XOp.move (.int .i64 (((k : Nat) : Int))) rfl ?_)
     exact ⟨rfl, rfl, rfl⟩
    refine stepsP.cons (fun vals R hpZ => ?_) ?_
    ·rw [(envs_of_sat (l := [(0, av), (1, (.int .i64 (((k : Nat) : Int)) : Value))]) ⟨hpZ 0 (by decide), hpZ 1 (by decide), trivial⟩).symm]
     refine XG.op (XOp.indexS (v := av) (i := ((k : Nat) : Int)) (n := (a).length) k Tryz.runUnderlying69 Tryz.sizeOf22 rfl rfl rfl ha.slv (by omega) (Nat.mul_one _) ?_)
     exact ⟨rfl, rfl, rfl⟩
    refine stepsP.cons (fun vals R hpZ => ?_) ?_
    ·rw [(envs_of_sat (l := [(2, (.pointer (some (elemA av (k))) : Value))]) ⟨hpZ 2 (by decide), trivial⟩).symm]
     refine XG.op (XOp.load1 (v := a1) Tryz.isAgg22 rfl (hr1 _) ?_)
     exact ⟨rfl, rfl, rfl⟩
    refine stepsP.cons (fun vals R hpZ => ?_) ?_
    ·refine XG.op (XOp.move (bv) rfl ?_)
     exact ⟨rfl, rfl, rfl⟩
    refine stepsP.cons (fun vals R hpZ => ?_) ?_
    ·refine XG.op (XOp.move (.int .i64 (((k : Nat) : Int))) rfl ?_)
     exact ⟨rfl, rfl, rfl⟩
    refine stepsP.cons (fun vals R hpZ => ?_) ?_
    ·rw [(envs_of_sat (l := [(4, bv), (5, (.int .i64 (((k : Nat) : Int)) : Value))]) ⟨hpZ 4 (by decide), hpZ 5 (by decide), trivial⟩).symm]
     refine XG.op (XOp.indexS (v := bv) (i := ((k : Nat) : Int)) (n := (b).length) k Tryz.runUnderlying69 Tryz.sizeOf22 rfl rfl rfl hb.slv (by omega) (Nat.mul_one _) ?_)
     exact ⟨rfl, rfl, rfl⟩
    refine stepsP.cons (fun vals R hpZ => ?_) ?_
    ·rw [(envs_of_sat (l := [(6, (.pointer (some (elemA bv (k))) : Value))]) ⟨hpZ 6 (by decide), trivial⟩).symm]
     refine XG.op (XOp.load1 (v := a2) Tryz.isAgg22 rfl (hr2 _) ?_)
     exact ⟨rfl, rfl, rfl⟩
    exact stepsP.nil
   ·intro vals hphi
    have e0 : vals 0 = av := hphi 0 (by decide)
    have e1 : vals 1 = (.int .i64 (((k : Nat) : Int)) : Value) := hphi 1 (by decide)
    have e2 : vals 2 = (.pointer (some (elemA av (k))) : Value) := hphi 2 (by decide)
    have e3 : vals 3 = a1 := hphi 3 (by decide)
    have e4 : vals 4 = bv := hphi 4 (by decide)
    have e5 : vals 5 = (.int .i64 (((k : Nat) : Int)) : Value) := hphi 5 (by decide)
    have e6 : vals 6 = (.pointer (some (elemA bv (k))) : Value) := hphi 6 (by decide)
    have e7 : vals 7 = a2 := hphi 7 (by decide)
    rw [(envs_of_sat (l := [(0, av), (1, (.int .i64 (((k : Nat) : Int)) : Value)), (2, (.pointer (some (elemA av (k))) : Value)), (3, a1), (4, bv), (5, (.int .i64 (((k : Nat) : Int)) : Value)), (6, (.pointer (some (elemA bv (k))) : Value)), (7, a2)]) ⟨e0, e1, e2, e3, e4, e5, e6, e7, trivial⟩).symm]
    show XL _ _ _ _ _ _ _ (L)
    refine XL.cons (XOp.call (args := [a1, a2]) Tryz.call23 rfl (eqInt64S_spec ha1 ha2 (hbd := (.inl (hbk (by omega))))) ?_)
    rintro _ _ _ _ ⟨rfl, rfl, rfl⟩
    refine XL.cons (XOp.notD (p := ((a.getD k [])) = ((b.getD k []))) rfl ?_)
    refine XL.nil ?_
    refine X.condD (p := ¬(((a.getD k [])) = ((b.getD k [])))) rfl (fun h3 => ?_) (fun h3 => ?_)
    ·refine X.seq ?_
     refine X.region ?_
     refine XL.cons (XOp.assign (.bool (false)) rfl ?_)
     refine XL.nil ?_
     refine X.ret (blockQ_ret (thenQ_ret (thenQ_ret (blockQ_ret (thenQ_ret (retEnd (L' := L) [.bool (false)] (.bool (false)) (.tmp rfl .nil) rfl (FLe.refl _) (FLe.refl _) (Sub.refl _) ?_))))))
     exact ⟨(congrArg Value.bool (decide_eq_false (fun e => by subst e; simp at *))), rfl, rfl⟩
    ·refine X.skip ?_
     refine X.region ?_
     refine XL.cons (XOp.move (.int .i64 (((k : Nat) : Int))) rfl ?_)
     refine XL.cons (XOp.addR (a := ((k : Nat) : Int)) (b := 1) (((k + 1 : Nat) : Int)) rfl rfl (by omega) (by omega) ?_)
     refine XL.cons (XOp.assign (.int .i64 (((k + 1 : Nat) : Int))) rfl ?_)
     refine XL.nil ?_
     exact ⟨k + 1, _, FLe.refl _, (FLe.refl _), ⟨rfl, rfl, rfl, trivial⟩, (Sub.refl _), ⟨rfl, (by (try dsimp only) <;> omega), (fun i hi => (Nat.lt_or_ge i k).elim (fun h => hall i h) (fun h => by obtain rfl : i = k := (by omega); first | assumption | exact Classical.not_not.1 (by assumption)))⟩, (by omega)⟩
  ·refine X.exit (thenQ_exit (thenQ_exit (blockQ_exit ?_)))
   refine X.seq ?_
   refine X.region ?_
   refine XL.cons (XOp.assign (.bool (true)) rfl ?_)
   refine XL.nil ?_
   refine X.ret (retEnd (L' := L) [.bool (true)] (.bool (true)) (.tmp rfl .nil) rfl (FLe.refl _) (FLe.refl _) (Sub.refl _) ?_)
   exact ⟨(congrArg Value.bool (decide_eq_true (ext_any ([] : List Int) (by omega) (fun i hi => hall i (by omega))))), rfl, rfl⟩

/- laws.eqSubst -/
theorem eqSubst_spec {F : FH} {L : List HP} {av : Value} {a : List (List Int)} (ha : RowsF F av a) {bv : Value} {b : List (List Int)} (hb : RowsF F bv b) (hal : a.length ≤ 9223372036854775807) (hbd : ∀ i, i < a.length → (a.getD i []).length ≤ 9223372036854775807) :
    Does Tryz.prog 35 [.agg #[av], .agg #[bv]] F (L) (fun v F' L' => (.bool (decide (a = b)) : Value) = v ∧ F = F' ∧ L = L') := by
 refine Does.of_X Tryz.func35 rfl rfl rfl ?_
 refine X.seq ?_
 refine X.region ?_
 refine XL.cons (XOp.box [av] rfl rfl ?_)
 intro b1
 refine XL.cons (XOp.box [bv] rfl rfl ?_)
 intro b2
 refine XL.cons (XOp.assign (.bool (false)) rfl ?_)
 refine XL.nil ?_
 refine X.seq ?_
 refine X.seq ?_
 refine X.region ?_
 refine XL.cons (XOp.fieldP (b := b1) (0) Tryz.runUnderlying78 rfl Tryz.sizeOf69 (by decide) rfl rfl ?_)
 refine XL.cons (XOp.load1 (v := av) Tryz.isAgg69 rfl (Rd.own [_] rfl rfl) ?_)
 refine XL.cons (XOp.fieldP (b := b2) (0) Tryz.runUnderlying78 rfl Tryz.sizeOf69 (by decide) rfl rfl ?_)
 refine XL.cons (XOp.load1 (v := bv) Tryz.isAgg69 rfl (Rd.own [] rfl rfl) ?_)
 refine XL.cons (XOp.call (args := [av, bv]) Tryz.call95 rfl (eqInt64SS_spec ha hb (hal := (by first | assumption | rfl | omega | (left; simp; done) | (right; simp; done))) (hbd := (by first | assumption | rfl | omega | (left; simp; done) | (right; simp; done)))) ?_)
 rintro _ _ _ _ ⟨rfl, rfl, rfl⟩
 refine XL.cons (XOp.notD (p := a = b) rfl ?_)
 refine XL.nil ?_
 refine X.condD (p := ¬(a = b)) rfl (fun h1 => ?_) (fun h1 => ?_)
 ·refine X.seq ?_
  refine X.region ?_
  refine XL.cons (XOp.assign (.bool (false)) rfl ?_)
  refine XL.nil ?_
  refine X.ret (thenQ_ret (retEnd (L' := L) [.bool (false)] (.bool (false)) (.tmp rfl .nil) rfl (FLe.refl _) (FLe.refl _) (Sub.drop (Sub.drop (Sub.refl _))) ?_))
  exact ⟨(congrArg Value.bool (decide_eq_false (by assumption))), rfl, rfl⟩
 ·refine X.skip ?_
  refine X.seq ?_
  refine X.region ?_
  refine XL.cons (XOp.assign (.bool (true)) rfl ?_)
  refine XL.nil ?_
  refine X.ret (retEnd (L' := L) [.bool (true)] (.bool (true)) (.tmp rfl .nil) rfl (FLe.refl _) (FLe.refl _) (Sub.drop (Sub.drop (Sub.refl _))) ?_)
  exact ⟨(congrArg Value.bool (decide_eq_true (by first | assumption | exact Classical.not_not.1 (by assumption)))), rfl, rfl⟩

/- impl.stepArgs -/
theorem stepArgs_spec {F : FH} {L : List HP} {arv : Value} {ar : List Int} (har : IntsF F arv ar) {rsv : Value} {rs : List (List Int × List Int)} (hrs : PairsF F rsv rs) {tv : Value} {t : List Int} (ht : IntsF F tv t) {p : Int} {r : Int} :
    Does Tryz.prog 203 [.agg #[arv, rsv], tv, .int .i64 (p), .int .i64 (r)] F (L) (fun v F' L' => (.bool (stepAtOk ar rs t p r) : Value) = v ∧ F = F' ∧ L = L') := by
 refine Does.of_X Tryz.func203 rfl rfl rfl ?_
 refine X.seq ?_
 refine X.region ?_
 refine XL.cons (XOp.box [arv, rsv] rfl rfl ?_)
 intro b1
 refine XL.cons (XOp.assign (.bool (false)) rfl ?_)
 refine XL.nil ?_
 refine X.seq ?_
 refine X.region ?_
 refine XL.cons (XOp.loadN [arv, rsv] Tryz.isAgg39 Tryz.sizeOf39 rfl rfl (Rd.ownN [] rfl rfl) ?_)
 refine XL.cons (XOp.call (args := [.agg #[arv, rsv]]) Tryz.call118 rfl (SystemOk_spec har hrs) ?_)
 rintro _ _ _ _ ⟨rfl, rfl, rfl⟩
 refine XL.cons (XOp.move (.bool (sysOk ar rs)) rfl ?_)
 by_cases h1 : (sysOk ar rs) = true
 ·refine XL.yes (t := 11) rfl (congrArg Value.bool h1) (XOp.fieldP (b := b1) (0) Tryz.runUnderlying39 rfl Tryz.sizeOf36 (by decide) rfl rfl ?_)
  refine XL.yes (t := 11) rfl (congrArg Value.bool h1) (XOp.loadN [arv] Tryz.isAgg36 Tryz.sizeOf36 rfl rfl (Rd.ownN [] rfl rfl) ?_)
  refine XL.yes (t := 11) rfl (congrArg Value.bool h1) (XOp.move (tv) rfl ?_)
  refine XL.yes (t := 11) rfl (congrArg Value.bool h1) (XOp.move (.int .i64 (p)) rfl ?_)
  refine XL.yes (t := 11) rfl (congrArg Value.bool h1) (XOp.call (args := [.agg #[arv], tv, .int .i64 (p)]) Tryz.call222 rfl (posOk_spec (n := p) har ht) ?_)
  rintro _ _ _ _ ⟨rfl, rfl, rfl⟩
  refine XL.cons (XOp.pickT (.bool (posOk ar t p)) (congrArg Value.bool h1) rfl ?_)
  refine XL.cons (XOp.move (.bool (posOk ar t p)) rfl ?_)
  by_cases h2 : (posOk ar t p) = true
  ·refine XL.yes (t := 18) rfl (congrArg Value.bool h2) (XOp.move (.int .i64 (r)) rfl ?_)
   refine XL.yes (t := 18) rfl (congrArg Value.bool h2) (XOp.geq (a := r) (b := 0) rfl rfl ?_)
   refine XL.cons (XOp.pickT (.bool (decide ((r : Int) ≥ 0))) (congrArg Value.bool h2) rfl ?_)
   refine XL.cons (XOp.move (.bool (decide ((r : Int) ≥ 0))) rfl ?_)
   by_cases h3 : (r : Int) ≥ 0
   ·refine XL.yes (t := 22) rfl (congrArg Value.bool (decide_eq_true h3)) (XOp.move (.int .i64 (r)) rfl ?_)
    refine XL.yes (t := 22) rfl (congrArg Value.bool (decide_eq_true h3)) (XOp.fieldP (b := b1) (1) Tryz.runUnderlying39 rfl Tryz.sizeOf37 (by decide) rfl rfl ?_)
    refine XL.yes (t := 22) rfl (congrArg Value.bool (decide_eq_true h3)) (XOp.load1 (v := rsv) Tryz.isAgg37 rfl (Rd.own [] rfl rfl) ?_)
    refine XL.yes (t := 22) rfl (congrArg Value.bool (decide_eq_true h3)) (XOp.lenS (v := rsv) (n := (rs).length) Tryz.runUnderlying37 rfl hrs.slv ?_)
    refine XL.yes (t := 22) rfl (congrArg Value.bool (decide_eq_true h3)) (XOp.lss (a := r) (b := (((rs).length : Nat) : Int)) rfl rfl ?_)
    refine XL.cons (XOp.pickT (.bool (decide ((r : Int) < (((rs).length : Nat) : Int)))) (congrArg Value.bool (decide_eq_true h3)) rfl ?_)
    refine XL.cons (XOp.assign (.bool (decide ((r : Int) < (((rs).length : Nat) : Int)))) rfl ?_)
    refine XL.nil ?_
    refine X.ret (retEnd (L' := L) [.bool (decide ((r : Int) < (((rs).length : Nat) : Int)))] (.bool (decide ((r : Int) < (((rs).length : Nat) : Int)))) (.tmp rfl .nil) rfl (FLe.refl _) (FLe.refl _) (Sub.drop (Sub.refl _)) ?_)
    exact ⟨(congrArg Value.bool (by unfold stepAtOk rightB; cases hA : sysOk ar rs <;> cases hB : termOk ar t <;> simp_all [posOk] <;> omega)), rfl, rfl⟩
   ·refine XL.no (t := 22) rfl (congrArg Value.bool (decide_eq_false h3)) ?_
    refine XL.no (t := 22) rfl (congrArg Value.bool (decide_eq_false h3)) ?_
    refine XL.no (t := 22) rfl (congrArg Value.bool (decide_eq_false h3)) ?_
    refine XL.no (t := 22) rfl (congrArg Value.bool (decide_eq_false h3)) ?_
    refine XL.no (t := 22) rfl (congrArg Value.bool (decide_eq_false h3)) ?_
    refine XL.cons (XOp.pickF (.bool (false)) (congrArg Value.bool (decide_eq_false h3)) rfl ?_)
    refine XL.cons (XOp.assign (.bool (false)) rfl ?_)
    refine XL.nil ?_
    refine X.ret (retEnd (L' := L) [.bool (false)] (.bool (false)) (.tmp rfl .nil) rfl (FLe.refl _) (FLe.refl _) (Sub.drop (Sub.refl _)) ?_)
    exact ⟨(congrArg Value.bool (by unfold stepAtOk rightB; cases hA : sysOk ar rs <;> cases hB : termOk ar t <;> simp_all [posOk] <;> omega)), rfl, rfl⟩
  ·rw [Bool.not_eq_true] at h2
   refine XL.no (t := 18) rfl (congrArg Value.bool h2) ?_
   refine XL.no (t := 18) rfl (congrArg Value.bool h2) ?_
   refine XL.cons (XOp.pickF (.bool (false)) (congrArg Value.bool h2) rfl ?_)
   refine XL.cons (XOp.move (.bool (false)) rfl ?_)
   refine XL.no (t := 22) rfl rfl ?_
   refine XL.no (t := 22) rfl rfl ?_
   refine XL.no (t := 22) rfl rfl ?_
   refine XL.no (t := 22) rfl rfl ?_
   refine XL.no (t := 22) rfl rfl ?_
   refine XL.cons (XOp.pickF (.bool (false)) rfl rfl ?_)
   refine XL.cons (XOp.assign (.bool (false)) rfl ?_)
   refine XL.nil ?_
   refine X.ret (retEnd (L' := L) [.bool (false)] (.bool (false)) (.tmp rfl .nil) rfl (FLe.refl _) (FLe.refl _) (Sub.drop (Sub.refl _)) ?_)
   exact ⟨(congrArg Value.bool (by unfold stepAtOk rightB; cases hA : sysOk ar rs <;> cases hB : termOk ar t <;> simp_all [posOk] <;> omega)), rfl, rfl⟩
 ·rw [Bool.not_eq_true] at h1
  refine XL.no (t := 11) rfl (congrArg Value.bool h1) ?_
  refine XL.no (t := 11) rfl (congrArg Value.bool h1) ?_
  refine XL.no (t := 11) rfl (congrArg Value.bool h1) ?_
  refine XL.no (t := 11) rfl (congrArg Value.bool h1) ?_
  refine XL.no (t := 11) rfl (congrArg Value.bool h1) ?_
  refine XL.cons (XOp.pickF (.bool (false)) (congrArg Value.bool h1) rfl ?_)
  refine XL.cons (XOp.move (.bool (false)) rfl ?_)
  refine XL.no (t := 18) rfl rfl ?_
  refine XL.no (t := 18) rfl rfl ?_
  refine XL.cons (XOp.pickF (.bool (false)) rfl rfl ?_)
  refine XL.cons (XOp.move (.bool (false)) rfl ?_)
  refine XL.no (t := 22) rfl rfl ?_
  refine XL.no (t := 22) rfl rfl ?_
  refine XL.no (t := 22) rfl rfl ?_
  refine XL.no (t := 22) rfl rfl ?_
  refine XL.no (t := 22) rfl rfl ?_
  refine XL.cons (XOp.pickF (.bool (false)) rfl rfl ?_)
  refine XL.cons (XOp.assign (.bool (false)) rfl ?_)
  refine XL.nil ?_
  refine X.ret (retEnd (L' := L) [.bool (false)] (.bool (false)) (.tmp rfl .nil) rfl (FLe.refl _) (FLe.refl _) (Sub.drop (Sub.refl _)) ?_)
  exact ⟨(congrArg Value.bool (by unfold stepAtOk rightB; cases hA : sysOk ar rs <;> cases hB : termOk ar t <;> simp_all [posOk] <;> omega)), rfl, rfl⟩

/- impl.StepAt -/
theorem StepAt_spec {F : FH} {L : List HP} {arv : Value} {ar : List Int} (har : IntsF F arv ar) {rsv : Value} {rs : List (List Int × List Int)} (hrs : PairsF F rsv rs) {tv : Value} {t : List Int} (ht : IntsF F tv t) {p : Int} {r : Int} :
    Does Tryz.prog 174 [.agg #[arv, rsv], tv, .int .i64 (p), .int .i64 (r)] F (L) (fun v F' L' => ∃ (a : Value), (.tuple #[a, .bool ((stepAtL ar rs t p r).isSome)] : Value) = v ∧ (IntsF F' a ((stepAtL ar rs t p r).getD [])) ∧ (Fresh F F' (intsH 2 a ((stepAtL ar rs t p r).getD []))) ∧ L = L') := by
 refine Does.of_X Tryz.func174 rfl rfl rfl ?_
 refine X.seq ?_
 refine X.region ?_
 refine XL.cons (XOp.box [arv, rsv] rfl rfl ?_)
 intro b1
 refine XL.cons (XOp.assign ((.slice none 0 0)) rfl ?_)
 refine XL.cons (XOp.assign (.bool (false)) rfl ?_)
 refine XL.nil ?_
 refine X.seq ?_
 refine X.seq ?_
 refine X.region ?_
 refine XL.cons (XOp.loadN [arv, rsv] Tryz.isAgg39 Tryz.sizeOf39 rfl rfl (Rd.ownN [] rfl rfl) ?_)
 refine XL.cons (XOp.move (tv) rfl ?_)
 refine XL.cons (XOp.move (.int .i64 (p)) rfl ?_)
 refine XL.cons (XOp.move (.int .i64 (r)) rfl ?_)
 refine XL.cons (XOp.call (args := [.agg #[arv, rsv], tv, .int .i64 (p), .int .i64 (r)]) Tryz.call203 rfl (stepArgs_spec (p := p) (r := r) har hrs ht) ?_)
 rintro _ _ _ _ ⟨rfl, rfl, rfl⟩
 refine XL.cons (XOp.notB (b := stepAtOk ar rs t p r) rfl ?_)
 refine XL.nil ?_
 refine X.cond (t := !(stepAtOk ar rs t p r)) rfl (fun h1 => ?_) (fun h1 => ?_)
 ·have hz0 : stepAtL ar rs t p r = none := by rw [stepAtL, if_neg (by simpa using h1)]
  refine X.seq ?_
  refine X.region ?_
  refine XL.cons (XOp.assign ((.slice none 0 0)) rfl ?_)
  refine XL.cons (XOp.assign (.bool (false)) rfl ?_)
  refine XL.nil ?_
  refine X.ret (thenQ_ret (retEnd (L' := L) [(.slice none 0 0), .bool (false)] (.tuple #[(.slice none 0 0), .bool (false)]) (.tmp rfl (.tmp rfl .nil)) rfl (FLe.refl _) (FLe.refl _) (Sub.drop (Sub.refl _)) ?_))
  exact ⟨_, by rw [hz0]; rfl, by rw [hz0]; exact IntsF.nilV, by rw [hz0]; exact Fresh.ofNil _, rfl⟩
 ·have hok : stepAtOk ar rs t p r = true := by simpa using h1
  have hok2 := hok
  unfold stepAtOk rightB at hok2
  simp only [Bool.and_eq_true, decide_eq_true_eq] at hok2
  obtain ⟨⟨⟨hsys, ho⟩, hp1⟩, hr1⟩ := hok2
  refine X.skip ?_
  refine X.seq ?_
  refine X.region ?_
  refine XL.cons (XOp.loadN [arv, rsv] Tryz.isAgg39 Tryz.sizeOf39 rfl rfl (Rd.ownN [] rfl rfl) ?_)
  refine XL.cons (XOp.move (tv) rfl ?_)
  refine XL.cons (XOp.move (.int .i64 (p)) rfl ?_)
  refine XL.cons (XOp.move (.int .i64 (r)) rfl ?_)
  refine XL.cons (XOp.call (args := [.agg #[arv, rsv], tv, .int .i64 (((p).toNat : Nat) : Int), .int .i64 (((r).toNat : Nat) : Int)]) Tryz.call204 (by rw [show (((p).toNat : Nat) : Int) = p from by omega, show (((r).toNat : Nat) : Int) = r from by omega]; rfl) (step_spec (p := (p).toNat) (r := (r).toNat) har hrs ht (hsys := (by first | assumption | rfl | omega | (left; simp; done) | (right; simp; done))) (ho := (by first | assumption | rfl | omega | (left; simp; done) | (right; simp; done))) (hp := (by first | assumption | rfl | omega | (left; simp; done) | (right; simp; done))) (hr := (by first | assumption | rfl | omega | (left; simp; done) | (right; simp; done)))) ?_)
  rintro _ F1 _ le1 ⟨x1, rfl, hr1, hr2, hr3, rfl⟩
  replace har := har.mono le1
  replace hrs := hrs.mono le1
  replace ht := ht.mono le1
  refine XL.cons (XOp.extract (x1) rfl rfl ?_)
  refine XL.cons (XOp.extract (.bool ((stepL ar rs t ((p).toNat) ((r).toNat)).isSome)) rfl rfl ?_)
  refine XL.cons (XOp.assign (x1) rfl ?_)
  refine XL.cons (XOp.assign (.bool ((stepL ar rs t ((p).toNat) ((r).toNat)).isSome)) rfl ?_)
  refine XL.nil ?_
  refine X.ret (retEnd (L' := L) [x1, .bool ((stepL ar rs t ((p).toNat) ((r).toNat)).isSome)] (.tuple #[x1, .bool ((stepL ar rs t ((p).toNat) ((r).toNat)).isSome)]) (.tmp rfl (.tmp rfl .nil)) rfl le1 (FLe.refl _) (Sub.drop (Sub.refl _)) ?_)
  have e := show stepAtL ar rs t p r = stepL ar rs t p.toNat r.toNat from by rw [stepAtL, if_pos hok]
  exact ⟨_, by rw [e], by rw [e]; exact hr1, by rw [e]; exact hr3, rfl⟩
end Go.Proofs.YtnloeeaidknblaaGreat
set_option linter.unusedSimpArgs false
set_option linter.unusedVariables false
namespace Go.Proofs.YtnloeeaidknblaaGreat
open Go X M

/- spec.StepAt -/
theorem sStepAt_spec {F : FH} {L : List HP} {arv : Value} {ar : List Int} (har : IntsF F arv ar) {rsv : Value} {rs : List (List Int × List Int)} (hrs : PairsF F rsv rs) {tv : Value} {t : List Int} (ht : IntsF F tv t) {p : Int} {r : Int} (hla : ar.length ≤ 4000000) (hlr : rs.length ≤ 4000000) (hrb : ∀ i, i < rs.length → (rs.getD i ([], [])).1.length ≤ 4000000 ∧ (rs.getD i ([], [])).2.length ≤ 4000000) (hlt : t.length ≤ 4000000) :
    Does Tryz.prog 113 [.agg #[arv, rsv], tv, .int .i64 (p), .int .i64 (r)] F (L) (fun v F' L' => ∃ (a : Value), (.tuple #[a, .bool ((stepAtL ar rs t p r).isSome)] : Value) = v ∧ (IntsF F' a ((stepAtL ar rs t p r).getD [])) ∧ L = L') := by
 refine Does.of_X Tryz.func113 rfl rfl rfl ?_
 refine X.seq ?_
 refine X.region ?_
 refine XL.cons (XOp.box [arv, rsv] rfl rfl ?_)
 intro b1
 refine XL.cons (XOp.assign ((.slice none 0 0)) rfl ?_)
 refine XL.cons (XOp.assign (.bool (false)) rfl ?_)
 refine XL.nil ?_
 refine X.seq ?_
 refine X.seq ?_
 refine X.region ?_
 refine XL.cons (XOp.loadN [arv, rsv] Tryz.isAgg39 Tryz.sizeOf39 rfl rfl (Rd.ownN [] rfl rfl) ?_)
 refine XL.cons (XOp.move (tv) rfl ?_)
 refine XL.cons (XOp.call (args := [.agg #[arv, rsv], tv]) Tryz.call112 rfl (l7Right_spec har hrs ht (hla := (by first | assumption | rfl | omega | (left; simp; done) | (right; simp; done))) (hlr := (by first | assumption | rfl | omega | (left; simp; done) | (right; simp; done))) (hrb := (by first | assumption | rfl | omega | (left; simp; done) | (right; simp; done))) (hlt := (by first | assumption | rfl | omega | (left; simp; done) | (right; simp; done)))) ?_)
 rintro _ _ _ _ ⟨rfl, rfl, rfl⟩
 refine XL.cons (XOp.notB (b := rightB ar rs t) rfl ?_)
 refine XL.cons (XOp.move (.bool (!(rightB ar rs t))) rfl ?_)
 by_cases h1 : (!(rightB ar rs t)) = true
 ·refine XL.no (t := 14) rfl (congrArg Value.bool h1) ?_
  refine XL.no (t := 14) rfl (congrArg Value.bool h1) ?_
  refine XL.no (t := 14) rfl (congrArg Value.bool h1) ?_
  refine XL.no (t := 14) rfl (congrArg Value.bool h1) ?_
  refine XL.cons (XOp.pickT (.bool (true)) (congrArg Value.bool h1) rfl ?_)
  refine XL.cons (XOp.move (.bool (true)) rfl ?_)
  refine XL.no (t := 20) rfl rfl ?_
  refine XL.no (t := 20) rfl rfl ?_
  refine XL.no (t := 20) rfl rfl ?_
  refine XL.no (t := 20) rfl rfl ?_
  refine XL.no (t := 20) rfl rfl ?_
  refine XL.no (t := 20) rfl rfl ?_
  refine XL.no (t := 20) rfl rfl ?_
  refine XL.cons (XOp.pickT (.bool (true)) rfl rfl ?_)
  refine XL.nil ?_
  refine X.condT rfl ?_
  refine X.seq ?_
  refine X.region ?_
  refine XL.cons (XOp.buildSlice (s := 1) [] [.int .i64 (0)] [] Tryz.runUnderlying22 Tryz.sizeOf2 Tryz.zeroValue2 rfl (by decide) rfl CellsAre.nil rfl ?_)
  intro v1 hv1
  refine XL.cons (XOp.assign (v1) rfl ?_)
  refine XL.cons (XOp.assign (.bool (false)) rfl ?_)
  refine XL.nil ?_
  show X _ _ _ _ _ _ (intsH 2 v1 ([] : List Int) :: cellsH b1 [arv, rsv] 39 :: L)
  refine X.freezeF [] _ _ rfl (fun F1 le1 hz1 => ?_)
  replace har := har.mono le1
  replace hrs := hrs.mono le1
  replace ht := ht.mono le1
  have hf1 : IntsF F1 v1 ([]) := intsH.fz (xs := []) hz1.fz
  refine X.ret (thenQ_ret (retEnd (L' := L) [v1, .bool (false)] (.tuple #[v1, .bool (false)]) (.tmp rfl (.tmp rfl .nil)) rfl le1 (FLe.refl _) (Sub.drop (Sub.refl _)) ?_))
  have hz0 : stepAtL ar rs t p r = none := by rw [stepAtL, if_neg (by unfold stepAtOk; cases hA : rightB ar rs t <;> simp_all <;> omega)]
  exact ⟨_, by rw [hz0]; rfl, by rw [hz0]; exact hf1, rfl⟩
 ·rw [Bool.not_eq_true] at h1
  refine XL.yes (t := 14) rfl (congrArg Value.bool h1) (XOp.move (tv) rfl ?_)
  refine XL.yes (t := 14) rfl (congrArg Value.bool h1) (XOp.move (.int .i64 (p)) rfl ?_)
  refine XL.yes (t := 14) rfl (congrArg Value.bool h1) (XOp.call (args := [tv, .int .i64 (p)]) Tryz.call168 rfl (l1There_spec (n := p) ht (hbd := (by first | assumption | rfl | omega | (left; simp; done) | (right; simp; done)))) ?_)
  rintro _ _ _ _ ⟨rfl, rfl, rfl⟩
  refine XL.yes (t := 14) rfl (congrArg Value.bool h1) (XOp.notD (p := 0 ≤ p ∧ p < (t.length : Int)) rfl ?_)
  refine XL.cons (XOp.pickF (.bool (decide (¬(0 ≤ p ∧ p < (t.length : Int))))) (congrArg Value.bool h1) rfl ?_)
  refine XL.cons (XOp.move (.bool (decide (¬(0 ≤ p ∧ p < (t.length : Int))))) rfl ?_)
  by_cases h2 : ¬(0 ≤ p ∧ p < (t.length : Int))
  ·refine XL.no (t := 20) rfl (congrArg Value.bool (decide_eq_true h2)) ?_
   refine XL.no (t := 20) rfl (congrArg Value.bool (decide_eq_true h2)) ?_
   refine XL.no (t := 20) rfl (congrArg Value.bool (decide_eq_true h2)) ?_
   refine XL.no (t := 20) rfl (congrArg Value.bool (decide_eq_true h2)) ?_
   refine XL.no (t := 20) rfl (congrArg Value.bool (decide_eq_true h2)) ?_
   refine XL.no (t := 20) rfl (congrArg Value.bool (decide_eq_true h2)) ?_
   refine XL.no (t := 20) rfl (congrArg Value.bool (decide_eq_true h2)) ?_
   refine XL.cons (XOp.pickT (.bool (true)) (congrArg Value.bool (decide_eq_true h2)) rfl ?_)
   refine XL.nil ?_
   refine X.condT rfl ?_
   refine X.seq ?_
   refine X.region ?_
   refine XL.cons (XOp.buildSlice (s := 1) [] [.int .i64 (0)] [] Tryz.runUnderlying22 Tryz.sizeOf2 Tryz.zeroValue2 rfl (by decide) rfl CellsAre.nil rfl ?_)
   intro v2 hv2
   refine XL.cons (XOp.assign (v2) rfl ?_)
   refine XL.cons (XOp.assign (.bool (false)) rfl ?_)
   refine XL.nil ?_
   show X _ _ _ _ _ _ (intsH 2 v2 ([] : List Int) :: cellsH b1 [arv, rsv] 39 :: L)
   refine X.freezeF [] _ _ rfl (fun F2 le2 hz2 => ?_)
   replace har := har.mono le2
   replace hrs := hrs.mono le2
   replace ht := ht.mono le2
   have hf2 : IntsF F2 v2 ([]) := intsH.fz (xs := []) hz2.fz
   refine X.ret (thenQ_ret (retEnd (L' := L) [v2, .bool (false)] (.tuple #[v2, .bool (false)]) (.tmp rfl (.tmp rfl .nil)) rfl le2 (FLe.refl _) (Sub.drop (Sub.refl _)) ?_))
   have hz0 : stepAtL ar rs t p r = none := by rw [stepAtL, if_neg (by unfold stepAtOk; cases hA : rightB ar rs t <;> simp_all <;> omega)]
   exact ⟨_, by rw [hz0]; rfl, by rw [hz0]; exact hf2, rfl⟩
  ·refine XL.yes (t := 20) rfl (congrArg Value.bool (decide_eq_false h2)) (XOp.move (.int .i64 (r)) rfl ?_)
   refine XL.yes (t := 20) rfl (congrArg Value.bool (decide_eq_false h2)) (XOp.fieldP (b := b1) (1) Tryz.runUnderlying39 rfl Tryz.sizeOf37 (by decide) rfl rfl ?_)
   refine XL.yes (t := 20) rfl (congrArg Value.bool (decide_eq_false h2)) (XOp.load1 (v := rsv) Tryz.isAgg37 rfl (Rd.own [] rfl rfl) ?_)
   refine XL.yes (t := 20) rfl (congrArg Value.bool (decide_eq_false h2)) (XOp.lenS (v := rsv) (n := (rs).length) Tryz.runUnderlying37 rfl hrs.slv ?_)
   refine XL.yes (t := 20) rfl (congrArg Value.bool (decide_eq_false h2)) (XOp.subR (a := (((rs).length : Nat) : Int)) (b := 1) (((((rs).length : Nat) : Int)) - 1) rfl rfl (by omega) (by omega) ?_)
   refine XL.yes (t := 20) rfl (congrArg Value.bool (decide_eq_false h2)) (XOp.call (args := [.int .i64 (r), .int .i64 (0), .int .i64 (((((rs).length : Nat) : Int)) - 1)]) Tryz.call66 rfl (l1In_spec (n := r) (a := 0) (b := ((((rs).length : Nat) : Int)) - 1)) ?_)
   rintro _ _ _ _ ⟨rfl, rfl, rfl⟩
   refine XL.yes (t := 20) rfl (congrArg Value.bool (decide_eq_false h2)) (XOp.notD (p := 0 ≤ r ∧ r ≤ (((((rs).length : Nat) : Int)) - 1)) rfl ?_)
   refine XL.cons (XOp.pickF (.bool (decide (¬(0 ≤ r ∧ r ≤ (((((rs).length : Nat) : Int)) - 1))))) (congrArg Value.bool (decide_eq_false h2)) rfl ?_)
   refine XL.nil ?_
   refine X.condD (p := ¬(0 ≤ r ∧ r ≤ (((((rs).length : Nat) : Int)) - 1))) rfl (fun h3 => ?_) (fun h3 => ?_)
   ·refine X.seq ?_
    refine X.region ?_
    refine XL.cons (XOp.buildSlice (s := 1) [] [.int .i64 (0)] [] Tryz.runUnderlying22 Tryz.sizeOf2 Tryz.zeroValue2 rfl (by decide) rfl CellsAre.nil rfl ?_)
    intro v3 hv3
    refine XL.cons (XOp.assign (v3) rfl ?_)
    refine XL.cons (XOp.assign (.bool (false)) rfl ?_)
    refine XL.nil ?_
    show X _ _ _ _ _ _ (intsH 2 v3 ([] : List Int) :: cellsH b1 [arv, rsv] 39 :: L)
    refine X.freezeF [] _ _ rfl (fun F3 le3 hz3 => ?_)
    replace har := har.mono le3
    replace hrs := hrs.mono le3
    replace ht := ht.mono le3
    have hf3 : IntsF F3 v3 ([]) := intsH.fz (xs := []) hz3.fz
    refine X.ret (thenQ_ret (retEnd (L' := L) [v3, .bool (false)] (.tuple #[v3, .bool (false)]) (.tmp rfl (.tmp rfl .nil)) rfl le3 (FLe.refl _) (Sub.drop (Sub.refl _)) ?_))
    have hz0 : stepAtL ar rs t p r = none := by rw [stepAtL, if_neg (by unfold stepAtOk; cases hA : rightB ar rs t <;> simp_all <;> omega)]
    exact ⟨_, by rw [hz0]; rfl, by rw [hz0]; exact hf3, rfl⟩
   ·refine X.skip ?_
    refine X.seq ?_
    refine X.region ?_
    have hok : stepAtOk ar rs t p r = true := by unfold stepAtOk; cases hA : rightB ar rs t <;> simp_all <;> omega
    have hok2 := hok
    unfold stepAtOk rightB at hok2
    simp only [Bool.and_eq_true, decide_eq_true_eq] at hok2
    obtain ⟨⟨⟨hsys, ho⟩, hp1⟩, hr1⟩ := hok2
    refine XL.cons (XOp.loadN [arv, rsv] Tryz.isAgg39 Tryz.sizeOf39 rfl rfl (Rd.ownN [] rfl rfl) ?_)
    refine XL.cons (XOp.move (tv) rfl ?_)
    refine XL.cons (XOp.move (.int .i64 (p)) rfl ?_)
    refine XL.cons (XOp.move (.int .i64 (r)) rfl ?_)
    refine XL.cons (XOp.call (args := [.agg #[arv, rsv], tv, .int .i64 (((p).toNat : Nat) : Int), .int .i64 (((r).toNat : Nat) : Int)]) Tryz.call169 (by rw [show (((p).toNat : Nat) : Int) = p from by omega, show (((r).toNat : Nat) : Int) = r from by omega]; rfl) (l7Step_spec (p := (p).toNat) (r := (r).toNat) har hrs ht (hsys := (by first | assumption | rfl | omega | (left; simp; done) | (right; simp; done))) (ho := (by first | assumption | rfl | omega | (left; simp; done) | (right; simp; done))) (hp := (by first | assumption | rfl | omega | (left; simp; done) | (right; simp; done))) (hr := (by first | assumption | rfl | omega | (left; simp; done) | (right; simp; done)))) ?_)
    rintro _ F4 _ le4 ⟨x1, rfl, hr1, rfl⟩
    replace har := har.mono le4
    replace hrs := hrs.mono le4
    replace ht := ht.mono le4
    refine XL.cons (XOp.extract (x1) rfl rfl ?_)
    refine XL.cons (XOp.extract (.bool ((stepL ar rs t ((p).toNat) ((r).toNat)).isSome)) rfl rfl ?_)
    refine XL.cons (XOp.assign (x1) rfl ?_)
    refine XL.cons (XOp.assign (.bool ((stepL ar rs t ((p).toNat) ((r).toNat)).isSome)) rfl ?_)
    refine XL.nil ?_
    refine X.ret (retEnd (L' := L) [x1, .bool ((stepL ar rs t ((p).toNat) ((r).toNat)).isSome)] (.tuple #[x1, .bool ((stepL ar rs t ((p).toNat) ((r).toNat)).isSome)]) (.tmp rfl (.tmp rfl .nil)) rfl le4 (FLe.refl _) (Sub.drop (Sub.refl _)) ?_)
    have e := show stepAtL ar rs t p r = stepL ar rs t p.toNat r.toNat from by rw [stepAtL, if_pos hok]
    exact ⟨_, by rw [e], by rw [e]; exact hr1, rfl⟩
end Go.Proofs.YtnloeeaidknblaaGreat
set_option linter.unusedSimpArgs false
set_option linter.unusedVariables false
namespace Go.Proofs.YtnloeeaidknblaaGreat
open Go X M

/- impl.SubstOk -/
theorem SubstOk_spec {F : FH} {L : List HP} {arv : Value} {ar : List Int} (har : IntsF F arv ar) {sv : Value} {s : List (List Int)} (hs : RowsF F sv s) :
    Does Tryz.prog 94 [.agg #[arv], .agg #[sv]] F (L) (fun v F' L' => (.bool (substOk ar s) : Value) = v ∧ F = F' ∧ L = L') := by
 refine Does.of_X Tryz.func94 rfl rfl rfl ?_
 refine X.seq ?_
 refine X.region ?_
 refine XL.cons (XOp.box [arv] rfl rfl ?_)
 intro b1
 refine XL.cons (XOp.box [sv] rfl rfl ?_)
 intro b2
 refine XL.cons (XOp.assign (.bool (false)) rfl ?_)
 refine XL.nil ?_
 refine X.seq ?_
 refine X.seq ?_
 refine X.region ?_
 refine XL.cons (XOp.loadN [arv] Tryz.isAgg36 Tryz.sizeOf36 rfl rfl (Rd.ownN [_] rfl rfl) ?_)
 refine XL.cons (XOp.call (args := [.agg #[arv]]) Tryz.call137 rfl (SigOk_spec har) ?_)
 rintro _ _ _ _ ⟨rfl, rfl, rfl⟩
 refine XL.cons (XOp.notB (b := sigOk ar) rfl ?_)
 refine XL.cons (XOp.move (.bool (!(sigOk ar))) rfl ?_)
 by_cases h1 : (!(sigOk ar)) = true
 ·refine XL.no (t := 10) rfl (congrArg Value.bool h1) ?_
  refine XL.no (t := 10) rfl (congrArg Value.bool h1) ?_
  refine XL.no (t := 10) rfl (congrArg Value.bool h1) ?_
  refine XL.no (t := 10) rfl (congrArg Value.bool h1) ?_
  refine XL.cons (XOp.pickT (.bool (true)) (congrArg Value.bool h1) rfl ?_)
  refine XL.nil ?_
  refine X.condT rfl ?_
  refine X.seq ?_
  refine X.region ?_
  refine XL.cons (XOp.assign (.bool (false)) rfl ?_)
  refine XL.nil ?_
  refine X.ret (thenQ_ret (retEnd (L' := L) [.bool (false)] (.bool (false)) (.tmp rfl .nil) rfl (FLe.refl _) (FLe.refl _) (Sub.drop (Sub.drop (Sub.refl _))) ?_))
  exact ⟨(congrArg Value.bool (substOk_false (fun h => by have := h.1; have := h.2.1; simp_all <;> omega))), rfl, rfl⟩
 ·rw [Bool.not_eq_true] at h1
  refine XL.yes (t := 10) rfl (congrArg Value.bool h1) (XOp.fieldP (b := b2) (0) Tryz.runUnderlying78 rfl Tryz.sizeOf69 (by decide) rfl rfl ?_)
  refine XL.yes (t := 10) rfl (congrArg Value.bool h1) (XOp.load1 (v := sv) Tryz.isAgg69 rfl (Rd.own [] rfl rfl) ?_)
  refine XL.yes (t := 10) rfl (congrArg Value.bool h1) (XOp.lenS (v := sv) (n := (s).length) Tryz.runUnderlying69 rfl hs.slv ?_)
  refine XL.yes (t := 10) rfl (congrArg Value.bool h1) (XOp.gtr (a := (((s).length : Nat) : Int)) (b := 24) rfl rfl ?_)
  refine XL.cons (XOp.pickF (.bool (decide (((((s).length : Nat) : Int) : Int) > 24))) (congrArg Value.bool h1) rfl ?_)
  refine XL.nil ?_
  refine X.condD (p := ((((s).length : Nat) : Int) : Int) > 24) rfl (fun h2 => ?_) (fun h2 => ?_)
  ·refine X.seq ?_
   refine X.region ?_
   refine XL.cons (XOp.assign (.bool (false)) rfl ?_)
   refine XL.nil ?_
   refine X.ret (thenQ_ret (retEnd (L' := L) [.bool (false)] (.bool (false)) (.tmp rfl .nil) rfl (FLe.refl _) (FLe.refl _) (Sub.drop (Sub.drop (Sub.refl _))) ?_))
   exact ⟨(congrArg Value.bool (substOk_false (fun h => by have := h.1; have := h.2.1; simp_all <;> omega))), rfl, rfl⟩
  ·refine X.skip ?_
   refine X.seq ?_
   refine X.seq ?_
   refine X.region ?_
   refine XL.cons (XOp.fieldP (b := b2) (0) Tryz.runUnderlying78 rfl Tryz.sizeOf69 (by decide) rfl rfl ?_)
   refine XL.cons (XOp.load1 (v := sv) Tryz.isAgg69 rfl (Rd.own [] rfl rfl) ?_)
   refine XL.cons (XOp.lenS (v := sv) (n := (s).length) Tryz.runUnderlying69 rfl hs.slv ?_)
   refine XL.cons (XOp.move (.int .i64 (0)) rfl ?_)
   refine XL.nil ?_
   refine X.block ?_
   refine X.loop (α := Nat) (fun k => [(2, ptr b1 0), (17, sv), (18, .int .i64 ((((s).length : Nat) : Int))), (19, .int .i64 (((k : Nat) : Int)))]) (fun k => cellsH b2 [sv] 78 :: cellsH b1 [arv] 36 :: L) (fun k F' => F = F' ∧ (k ≤ s.length) ∧ (∀ i, i < k → s.getD i [] = [] ∨ termOk ar (s.getD i []) = true)) (fun k => s.length - k) 0 ⟨rfl, rfl, rfl, rfl, trivial⟩ (Sub.cons (Sub.cons (Sub.refl _))) ⟨rfl, (by (try dsimp only) <;> omega), (fun i hi => absurd hi (by omega))⟩ ?_
   rintro k rE _ _ ⟨rfl, hk, hall⟩
   show X _ _ _ _ (envs [(2, ptr b1 0), (17, sv), (18, .int .i64 ((((s).length : Nat) : Int))), (19, .int .i64 (((k : Nat) : Int)))] rE) _ (cellsH b2 [sv] 78 :: cellsH b1 [arv] 36 :: L)
   refine X.seq ?_
   refine X.region ?_
   refine XL.cons (XOp.lss (a := ((k : Nat) : Int)) (b := (((s).length : Nat) : Int)) rfl rfl ?_)
   refine XL.nil ?_
   refine X.seq ?_
   refine X.condD (p := (((k : Nat) : Int) : Int) < (((s).length : Nat) : Int)) rfl (fun h3 => ?_) (fun h3 => ?_)
   ·refine X.skip ?_
    refine X.seq ?_
    refine X.block ?_
    refine X.seq ?_
    refine X.region ?_
    refine XL.cons (XOp.indexS (v := sv) (i := ((k : Nat) : Int)) (n := (s).length) k Tryz.runUnderlying69 Tryz.sizeOf22 rfl rfl rfl hs.slv (by omega) (Nat.mul_one _) ?_)
    obtain ⟨a1, ha1, hr1⟩ := hs.rd (i := k) (by omega)
    refine XL.cons (XOp.load1 (v := a1) Tryz.isAgg22 rfl (hr1 _) ?_)
    refine XL.cons (XOp.assign (a1) rfl ?_)
    refine XL.nil ?_
    refine X.seq ?_
    refine X.region ?_
    refine XL.cons (XOp.move (a1) rfl ?_)
    refine XL.cons (XOp.lenS (v := a1) (n := ((s.getD k [])).length) Tryz.runUnderlying22 rfl ha1.slv ?_)
    refine XL.cons (XOp.gtr (a := ((((s.getD k [])).length : Nat) : Int)) (b := 0) rfl rfl ?_)
    refine XL.cons (XOp.move (.bool (decide ((((((s.getD k [])).length : Nat) : Int) : Int) > 0))) rfl ?_)
    by_cases h4 : (((((s.getD k [])).length : Nat) : Int) : Int) > 0
    ·refine XL.yes (t := 26) rfl (congrArg Value.bool (decide_eq_true h4)) (XOp.loadN [arv] Tryz.isAgg36 Tryz.sizeOf36 rfl rfl (Rd.ownN [_] rfl rfl) ?_)
     refine XL.yes (t := 26) rfl (congrArg Value.bool (decide_eq_true h4)) (XOp.move (a1) rfl ?_)
     refine XL.yes (t := 26) rfl (congrArg Value.bool (decide_eq_true h4)) (XOp.call (args := [.agg #[arv], a1]) Tryz.call141 rfl (TermOk_spec har ha1) ?_)
     rintro _ _ _ _ ⟨rfl, rfl, rfl⟩
     refine XL.yes (t := 26) rfl (congrArg Value.bool (decide_eq_true h4)) (XOp.notB (b := termOk ar ((s.getD k []))) rfl ?_)
     refine XL.cons (XOp.pickT (.bool (!(termOk ar ((s.getD k []))))) (congrArg Value.bool (decide_eq_true h4)) rfl ?_)
     refine XL.nil ?_
     refine X.cond (t := !(termOk ar ((s.getD k [])))) rfl (fun h5 => ?_) (fun h5 => ?_)
     ·refine X.seq ?_
      refine X.region ?_
      refine XL.cons (XOp.assign (.bool (false)) rfl ?_)
      refine XL.nil ?_
      refine X.ret (blockQ_ret (thenQ_ret (thenQ_ret (blockQ_ret (thenQ_ret (retEnd (L' := L) [.bool (false)] (.bool (false)) (.tmp rfl .nil) rfl (FLe.refl _) (FLe.refl _) (Sub.drop (Sub.drop (Sub.refl _))) ?_))))))
      exact ⟨(congrArg Value.bool (substOk_false (fun h => by have h9 := h.2.2 k (by omega); rcases h9 with h9 | h9; (have := congrArg List.length h9; simp only [List.length_nil] at this; omega); simp_all))), rfl, rfl⟩
     ·refine X.skip ?_
      refine X.region ?_
      refine XL.cons (XOp.addR (a := ((k : Nat) : Int)) (b := 1) (((k + 1 : Nat) : Int)) rfl rfl (by omega) (by omega) ?_)
      refine XL.cons (XOp.move (.int .i64 (((k + 1 : Nat) : Int))) rfl ?_)
      refine XL.nil ?_
      exact ⟨k + 1, _, FLe.refl _, (FLe.refl _), ⟨rfl, rfl, rfl, rfl, trivial⟩, (Sub.cons (Sub.cons (Sub.refl _))), ⟨rfl, (by (try dsimp only) <;> omega), (fun i hi => (Nat.lt_or_ge i k).elim (fun h => hall i h) (fun h => by obtain rfl : i = k := (by omega); first | exact .inr (by assumption) | exact .inl (len_nil (by assumption)) | (have := len_nil (by assumption); simp_all) | simp_all))⟩, (by omega)⟩
    ·refine XL.no (t := 26) rfl (congrArg Value.bool (decide_eq_false h4)) ?_
     refine XL.no (t := 26) rfl (congrArg Value.bool (decide_eq_false h4)) ?_
     refine XL.no (t := 26) rfl (congrArg Value.bool (decide_eq_false h4)) ?_
     refine XL.no (t := 26) rfl (congrArg Value.bool (decide_eq_false h4)) ?_
     refine XL.cons (XOp.pickF (.bool (false)) (congrArg Value.bool (decide_eq_false h4)) rfl ?_)
     refine XL.nil ?_
     refine X.condF rfl ?_
     refine X.skip ?_
     refine X.region ?_
     refine XL.cons (XOp.addR (a := ((k : Nat) : Int)) (b := 1) (((k + 1 : Nat) : Int)) rfl rfl (by omega) (by omega) ?_)
     refine XL.cons (XOp.move (.int .i64 (((k + 1 : Nat) : Int))) rfl ?_)
     refine XL.nil ?_
     exact ⟨k + 1, _, FLe.refl _, (FLe.refl _), ⟨rfl, rfl, rfl, rfl, trivial⟩, (Sub.cons (Sub.cons (Sub.refl _))), ⟨rfl, (by (try dsimp only) <;> omega), (fun i hi => (Nat.lt_or_ge i k).elim (fun h => hall i h) (fun h => by obtain rfl : i = k := (by omega); first | exact .inr (by assumption) | exact .inl (len_nil (by assumption)) | (have := len_nil (by assumption); simp_all) | simp_all))⟩, (by omega)⟩
   ·refine X.exit (thenQ_exit (thenQ_exit (blockQ_exit ?_)))
    refine X.seq ?_
    refine X.region ?_
    refine XL.cons (XOp.assign (.bool (true)) rfl ?_)
    refine XL.nil ?_
    refine X.ret (retEnd (L' := L) [.bool (true)] (.bool (true)) (.tmp rfl .nil) rfl (FLe.refl _) (FLe.refl _) (Sub.drop (Sub.drop (Sub.refl _))) ?_)
    exact ⟨(congrArg Value.bool (substOk_iff.2 ⟨by simp_all, by omega, fun i hi => hall i (by omega)⟩)), rfl, rfl⟩

/- spec.SubstOk -/
theorem sSubstOk_spec {F : FH} {L : List HP} {arv : Value} {ar : List Int} (har : IntsF F arv ar) {sv : Value} {s : List (List Int)} (hs : RowsF F sv s) (hla : ar.length ≤ 4000000) (hsl : s.length ≤ 4000000) (hsb : ∀ i, i < s.length → (s.getD i []).length ≤ 4000000) :
    Does Tryz.prog 158 [.agg #[arv], .agg #[sv]] F (L) (fun v F' L' => (.bool (substOk ar s) : Value) = v ∧ F = F' ∧ L = L') := by
 refine Does.of_X Tryz.func158 rfl rfl rfl ?_
 refine X.seq ?_
 refine X.region ?_
 refine XL.cons (XOp.box [arv] rfl rfl ?_)
 intro b1
 refine XL.cons (XOp.box [sv] rfl rfl ?_)
 intro b2
 refine XL.cons (XOp.assign (.bool (false)) rfl ?_)
 refine XL.nil ?_
 refine X.seq ?_
 refine X.seq ?_
 refine X.region ?_
 refine XL.cons (XOp.loadN [arv] Tryz.isAgg36 Tryz.sizeOf36 rfl rfl (Rd.ownN [_] rfl rfl) ?_)
 refine XL.cons (XOp.call (args := [.agg #[arv]]) Tryz.call125 rfl (sSigOk_spec har (hla := (by first | assumption | rfl | omega | (left; simp; done) | (right; simp; done)))) ?_)
 rintro _ _ _ _ ⟨rfl, rfl, rfl⟩
 refine XL.cons (XOp.notB (b := sigOk ar) rfl ?_)
 refine XL.cons (XOp.move (.bool (!(sigOk ar))) rfl ?_)
 by_cases h1 : (!(sigOk ar)) = true
 ·refine XL.no (t := 9) rfl (congrArg Value.bool h1) ?_
  refine XL.no (t := 9) rfl (congrArg Value.bool h1) ?_
  refine XL.no (t := 9) rfl (congrArg Value.bool h1) ?_
  refine XL.no (t := 9) rfl (congrArg Value.bool h1) ?_
  refine XL.cons (XOp.pickT (.bool (true)) (congrArg Value.bool h1) rfl ?_)
  refine XL.nil ?_
  refine X.condT rfl ?_
  refine X.seq ?_
  refine X.region ?_
  refine XL.cons (XOp.assign (.bool (false)) rfl ?_)
  refine XL.nil ?_
  refine X.ret (thenQ_ret (retEnd (L' := L) [.bool (false)] (.bool (false)) (.tmp rfl .nil) rfl (FLe.refl _) (FLe.refl _) (Sub.drop (Sub.drop (Sub.refl _))) ?_))
  exact ⟨(congrArg Value.bool (substOk_false (fun h => by have := h.1; have := h.2.1; simp_all <;> omega))), rfl, rfl⟩
 ·rw [Bool.not_eq_true] at h1
  refine XL.yes (t := 9) rfl (congrArg Value.bool h1) (XOp.fieldP (b := b2) (0) Tryz.runUnderlying78 rfl Tryz.sizeOf69 (by decide) rfl rfl ?_)
  refine XL.yes (t := 9) rfl (congrArg Value.bool h1) (XOp.load1 (v := sv) Tryz.isAgg69 rfl (Rd.own [] rfl rfl) ?_)
  refine XL.yes (t := 9) rfl (congrArg Value.bool h1) (XOp.lenS (v := sv) (n := (s).length) Tryz.runUnderlying69 rfl hs.slv ?_)
  refine XL.yes (t := 9) rfl (congrArg Value.bool h1) (XOp.gtr (a := (((s).length : Nat) : Int)) (b := 24) rfl rfl ?_)
  refine XL.cons (XOp.pickF (.bool (decide (((((s).length : Nat) : Int) : Int) > 24))) (congrArg Value.bool h1) rfl ?_)
  refine XL.nil ?_
  refine X.condD (p := ((((s).length : Nat) : Int) : Int) > 24) rfl (fun h2 => ?_) (fun h2 => ?_)
  ·refine X.seq ?_
   refine X.region ?_
   refine XL.cons (XOp.assign (.bool (false)) rfl ?_)
   refine XL.nil ?_
   refine X.ret (thenQ_ret (retEnd (L' := L) [.bool (false)] (.bool (false)) (.tmp rfl .nil) rfl (FLe.refl _) (FLe.refl _) (Sub.drop (Sub.drop (Sub.refl _))) ?_))
   exact ⟨(congrArg Value.bool (substOk_false (fun h => by have := h.1; have := h.2.1; simp_all <;> omega))), rfl, rfl⟩
  ·refine X.skip ?_
   refine X.seq ?_
   refine X.seq ?_
   refine X.region ?_
   refine XL.cons (XOp.assign (.int .i64 (0)) rfl ?_)
   refine XL.nil ?_
   refine X.block ?_
   refine X.loop (α := Nat) (fun k => [(2, ptr b1 0), (3, ptr b2 0), (5, .int .i64 (((k : Nat) : Int)))]) (fun k => cellsH b2 [sv] 78 :: cellsH b1 [arv] 36 :: L) (fun k F' => F = F' ∧ (k ≤ s.length) ∧ (∀ i, i < k → s.getD i [] = [] ∨ termOk ar (s.getD i []) = true)) (fun k => s.length - k) 0 ⟨rfl, rfl, rfl, trivial⟩ (Sub.cons (Sub.cons (Sub.refl _))) ⟨rfl, (by (try dsimp only) <;> omega), (fun i hi => absurd hi (by omega))⟩ ?_
   rintro k rE _ _ ⟨rfl, hk, hall⟩
   show X _ _ _ _ (envs [(2, ptr b1 0), (3, ptr b2 0), (5, .int .i64 (((k : Nat) : Int)))] rE) _ (cellsH b2 [sv] 78 :: cellsH b1 [arv] 36 :: L)
   have hsbk := hsb k
   refine X.seq ?_
   refine X.seq ?_
   refine X.region ?_
   refine XL.cons (XOp.move (.int .i64 (((k : Nat) : Int))) rfl ?_)
   refine XL.cons (XOp.fieldP (b := b2) (0) Tryz.runUnderlying78 rfl Tryz.sizeOf69 (by decide) rfl rfl ?_)
   refine XL.cons (XOp.load1 (v := sv) Tryz.isAgg69 rfl (Rd.own [] rfl rfl) ?_)
   refine XL.cons (XOp.lenS (v := sv) (n := (s).length) Tryz.runUnderlying69 rfl hs.slv ?_)
   refine XL.cons (XOp.lss (a := ((k : Nat) : Int)) (b := (((s).length : Nat) : Int)) rfl rfl ?_)
   refine XL.nil ?_
   refine X.condD (p := (((k : Nat) : Int) : Int) < (((s).length : Nat) : Int)) rfl (fun h3 => ?_) (fun h3 => ?_)
   ·refine X.skip ?_
    refine X.seq ?_
    refine X.block ?_
    refine X.seq ?_
    obtain ⟨a1, ha1, hr1⟩ := hs.rd (i := k) (by omega)
    by_cases h4 : (((((s.getD k [])).length : Nat) : Int) : Int) > 0
    ·refine X.draw [cellsH b2 [sv] 78, cellsH b1 [arv] 36] L 14 [[], [], [], [], [], [], [], [], [], [], [], [], [], []] [[], [0], [], [1, 2], [3], [4], [5], [6], [7], [7], [7, 9], [7], [7, 10, 11], [7, 12]] (phiL [fun us v => v = ptr b2 0, fun us v => v = sv, fun us v => v = (.int .i64 (((k : Nat) : Int)) : Value), fun us v => v = (.pointer (some (elemA sv (k))) : Value), fun us v => v = a1, fun us v => v = (.int .i64 (((((s.getD k [])).length : Nat) : Int)) : Value), fun us v => v = (.bool (decide ((((((s.getD k [])).length : Nat) : Int) : Int) > 0)) : Value), fun us v => v = (.bool (decide ((((((s.getD k [])).length : Nat) : Int) : Int) > 0)) : Value), fun us v => v = (.agg #[arv] : Value), fun us v => v = ptr b2 0, fun us v => v = sv, fun us v => v = (.int .i64 (((k : Nat) : Int)) : Value), fun us v => v = (.pointer (some (elemA sv (k))) : Value), fun us v => v = a1]) (ownL [fun us v => [], fun us v => [], fun us v => [], fun us v => [], fun us v => [], fun us v => [], fun us v => [], fun us v => [], fun us v => [], fun us v => [], fun us v => [], fun us v => [], fun us v => [], fun us v => []]) mixed rfl rfl (by kernel_rfl) ?_ ?_
     ·refine stepsP.cons (fun vals R hpZ => ?_) ?_
      ·refine XG.op (XOp.fieldP (b := b2) (0) Tryz.runUnderlying78 rfl Tryz.sizeOf69 (by decide) rfl rfl ?_)
       exact ⟨rfl, rfl, rfl⟩
      refine stepsP.cons (fun vals R hpZ => ?_) ?_
      ·rw [(envs_of_sat (l := [(0, ptr b2 0)]) ⟨hpZ 0 (by decide), trivial⟩).symm]
       refine XG.op (XOp.load1 (v := sv) Tryz.isAgg69 rfl (Rd.own [] rfl rfl) ?_)
       exact ⟨rfl, rfl, rfl⟩
      refine stepsP.cons (fun vals R hpZ => ?_) ?_
      ·refine XG.op (XOp.move (.int .i64 (((k : Nat) : Int))) rfl ?_)
       exact ⟨rfl, rfl, rfl⟩
      refine stepsP.cons (fun vals R hpZ => ?_) ?_
      ·rw [(envs_of_sat (l := [(1, sv), (2, (.int .i64 (((k : Nat) : Int)) : Value))]) ⟨hpZ 1 (by decide), hpZ 2 (by decide), trivial⟩).symm]
       refine XG.op (XOp.indexS (v := sv) (i := ((k : Nat) : Int)) (n := (s).length) k Tryz.runUnderlying69 Tryz.sizeOf22 rfl rfl rfl hs.slv (by omega) (Nat.mul_one _) ?_)
       exact ⟨rfl, rfl, rfl⟩
      refine stepsP.cons (fun vals R hpZ => ?_) ?_
      ·rw [(envs_of_sat (l := [(3, (.pointer (some (elemA sv (k))) : Value))]) ⟨hpZ 3 (by decide), trivial⟩).symm]
       refine XG.op (XOp.load1 (v := a1) Tryz.isAgg22 rfl (hr1 _) ?_)
       exact ⟨rfl, rfl, rfl⟩
      refine stepsP.cons (fun vals R hpZ => ?_) ?_
      ·rw [(envs_of_sat (l := [(4, a1)]) ⟨hpZ 4 (by decide), trivial⟩).symm]
       refine XG.op (XOp.lenS (v := a1) (n := ((s.getD k [])).length) Tryz.runUnderlying22 rfl ha1.slv ?_)
       exact ⟨rfl, rfl, rfl⟩
      refine stepsP.cons (fun vals R hpZ => ?_) ?_
      ·rw [(envs_of_sat (l := [(5, (.int .i64 (((((s.getD k [])).length : Nat) : Int)) : Value))]) ⟨hpZ 5 (by decide), trivial⟩).symm]
       refine XG.op (XOp.gtr (a := ((((s.getD k [])).length : Nat) : Int)) (b := 0) rfl rfl ?_)
       exact ⟨rfl, rfl, rfl⟩
      refine stepsP.cons (fun vals R hpZ => ?_) ?_
      ·rw [(envs_of_sat (l := [(6, (.bool (decide ((((((s.getD k [])).length : Nat) : Int) : Int) > 0)) : Value))]) ⟨hpZ 6 (by decide), trivial⟩).symm]
       refine XG.op (XOp.move (.bool (decide ((((((s.getD k [])).length : Nat) : Int) : Int) > 0))) rfl ?_)
       exact ⟨rfl, rfl, rfl⟩
      refine stepsP.cons (fun vals R hpZ => ?_) ?_
      ·rw [(envs_of_sat (l := [(7, (.bool (decide ((((((s.getD k [])).length : Nat) : Int) : Int) > 0)) : Value))]) ⟨hpZ 7 (by decide), trivial⟩).symm]
       refine XG.yes (t := 29) rfl (congrArg Value.bool (decide_eq_true h4)) (XOp.loadN [arv] Tryz.isAgg36 Tryz.sizeOf36 rfl rfl (Rd.ownN [_] rfl rfl) ?_)
       exact ⟨rfl, rfl, rfl⟩
      refine stepsP.cons (fun vals R hpZ => ?_) ?_
      ·rw [(envs_of_sat (l := [(7, (.bool (decide ((((((s.getD k [])).length : Nat) : Int) : Int) > 0)) : Value))]) ⟨hpZ 7 (by decide), trivial⟩).symm]
       refine XG.yes (t := 29) rfl (congrArg Value.bool (decide_eq_true h4)) (XOp.fieldP (b := b2) (0) Tryz.runUnderlying78 rfl Tryz.sizeOf69 (by decide) rfl rfl ?_)
       exact ⟨rfl, rfl, rfl⟩
      refine stepsP.cons (fun vals R hpZ => ?_) ?_
      ·rw [(envs_of_sat (l := [(7, (.bool (decide ((((((s.getD k [])).length : Nat) : Int) : Int) > 0)) : Value)), (9, ptr b2 0)]) ⟨hpZ 7 (by decide), hpZ 9 (by decide), trivial⟩).symm]
       refine XG.yes (t := 29) rfl (congrArg Value.bool (decide_eq_true h4)) (XOp.load1 (v := sv) Tryz.isAgg69 rfl (Rd.own [] rfl rfl) ?_)
       exact ⟨rfl, rfl, rfl⟩
      refine stepsP.cons (fun vals R hpZ => ?_) ?_
      ·rw [(envs_of_sat (l := [(7, (.bool (decide ((((((s.getD k [])).length : Nat) : Int) : Int) > 0)) : Value))]) ⟨hpZ 7 (by decide), trivial⟩).symm]
       refine XG.yes (t := 29) rfl (congrArg Value.bool (decide_eq_true h4)) (XOp.move (.int .i64 (((k : Nat) : Int))) rfl ?_)
       exact ⟨rfl, rfl, rfl⟩
      refine stepsP.cons (fun vals R hpZ => ?_) ?_
      ·rw [(envs_of_sat (l := [(7, (.bool (decide ((((((s.getD k [])).length : Nat) : Int) : Int) > 0)) : Value)), (10, sv), (11, (.int .i64 (((k : Nat) : Int)) : Value))]) ⟨hpZ 7 (by decide), hpZ 10 (by decide), hpZ 11 (by decide), trivial⟩).symm]
       refine XG.yes (t := 29) rfl (congrArg Value.bool (decide_eq_true h4)) (XOp.indexS (v := sv) (i := ((k : Nat) : Int)) (n := (s).length) k Tryz.runUnderlying69 Tryz.sizeOf22 rfl rfl rfl hs.slv (by omega) (Nat.mul_one _) ?_)
       exact ⟨rfl, rfl, rfl⟩
      refine stepsP.cons (fun vals R hpZ => ?_) ?_
      ·rw [(envs_of_sat (l := [(7, (.bool (decide ((((((s.getD k [])).length : Nat) : Int) : Int) > 0)) : Value)), (12, (.pointer (some (elemA sv (k))) : Value))]) ⟨hpZ 7 (by decide), hpZ 12 (by decide), trivial⟩).symm]
       refine XG.yes (t := 29) rfl (congrArg Value.bool (decide_eq_true h4)) (XOp.load1 (v := a1) Tryz.isAgg22 rfl (hr1 _) ?_)
       exact ⟨rfl, rfl, rfl⟩
      exact stepsP.nil
     ·intro vals hphi
      have e0 : vals 0 = ptr b2 0 := hphi 0 (by decide)
      have e1 : vals 1 = sv := hphi 1 (by decide)
      have e2 : vals 2 = (.int .i64 (((k : Nat) : Int)) : Value) := hphi 2 (by decide)
      have e3 : vals 3 = (.pointer (some (elemA sv (k))) : Value) := hphi 3 (by decide)
      have e4 : vals 4 = a1 := hphi 4 (by decide)
      have e5 : vals 5 = (.int .i64 (((((s.getD k [])).length : Nat) : Int)) : Value) := hphi 5 (by decide)
      have e6 : vals 6 = (.bool (decide ((((((s.getD k [])).length : Nat) : Int) : Int) > 0)) : Value) := hphi 6 (by decide)
      have e7 : vals 7 = (.bool (decide ((((((s.getD k [])).length : Nat) : Int) : Int) > 0)) : Value) := hphi 7 (by decide)
      have e8 : vals 8 = (.agg #[arv] : Value) := hphi 8 (by decide)
      have e9 : vals 9 = ptr b2 0 := hphi 9 (by decide)
      have e10 : vals 10 = sv := hphi 10 (by decide)
      have e11 : vals 11 = (.int .i64 (((k : Nat) : Int)) : Value) := hphi 11 (by decide)
      have e12 : vals 12 = (.pointer (some (elemA sv (k))) : Value) := hphi 12 (by decide)
      have e13 : vals 13 = a1 := hphi 13 (by decide)
      rw [(envs_of_sat (l := [(0, ptr b2 0), (1, sv), (2, (.int .i64 (((k : Nat) : Int)) : Value)), (3, (.pointer (some (elemA sv (k))) : Value)), (4, a1), (5, (.int .i64 (((((s.getD k [])).length : Nat) : Int)) : Value)), (6, (.bool (decide ((((((s.getD k [])).length : Nat) : Int) : Int) > 0)) : Value)), (7, (.bool (decide ((((((s.getD k [])).length : Nat) : Int) : Int) > 0)) : Value)), (8, (.agg #[arv] : Value)), (9, ptr b2 0), (10, sv), (11, (.int .i64 (((k : Nat) : Int)) : Value)), (12, (.pointer (some (elemA sv (k))) : Value)), (13, a1)]) ⟨e0, e1, e2, e3, e4, e5, e6, e7, e8, e9, e10, e11, e12, e13, trivial⟩).symm]
      show XL _ _ _ _ _ _ _ (cellsH b2 [sv] 78 :: cellsH b1 [arv] 36 :: L)
      refine XL.yes (t := 29) rfl (congrArg Value.bool (decide_eq_true h4)) (XOp.call (args := [.agg #[arv], a1]) Tryz.call128 rfl (sTermOk_spec har ha1 (hla := (by first | assumption | rfl | omega | (left; simp; done) | (right; simp; done))) (hlt := (by first | assumption | rfl | omega | (left; simp; done) | (right; simp; done)))) ?_)
      rintro _ _ _ _ ⟨rfl, rfl, rfl⟩
      refine XL.yes (t := 29) rfl (congrArg Value.bool (decide_eq_true h4)) (XOp.notB (b := termOk ar ((s.getD k []))) rfl ?_)
      refine XL.cons (XOp.pickT (.bool (!(termOk ar ((s.getD k []))))) (congrArg Value.bool (decide_eq_true h4)) rfl ?_)
      refine XL.nil ?_
      refine X.cond (t := !(termOk ar ((s.getD k [])))) rfl (fun h5 => ?_) (fun h5 => ?_)
      ·refine X.seq ?_
       refine X.region ?_
       refine XL.cons (XOp.assign (.bool (false)) rfl ?_)
       refine XL.nil ?_
       refine X.ret (blockQ_ret (thenQ_ret (thenQ_ret (blockQ_ret (thenQ_ret (retEnd (L' := L) [.bool (false)] (.bool (false)) (.tmp rfl .nil) rfl (FLe.refl _) (FLe.refl _) (Sub.drop (Sub.drop (Sub.refl _))) ?_))))))
       exact ⟨(congrArg Value.bool (substOk_false (fun h => by have h9 := h.2.2 k (by omega); rcases h9 with h9 | h9; (have := congrArg List.length h9; simp only [List.length_nil] at this; omega); simp_all))), rfl, rfl⟩
      ·refine X.skip ?_
       refine X.region ?_
       refine XL.cons (XOp.move (.int .i64 (((k : Nat) : Int))) rfl ?_)
       refine XL.cons (XOp.addR (a := ((k : Nat) : Int)) (b := 1) (((k + 1 : Nat) : Int)) rfl rfl (by omega) (by omega) ?_)
       refine XL.cons (XOp.assign (.int .i64 (((k + 1 : Nat) : Int))) rfl ?_)
       refine XL.nil ?_
       exact ⟨k + 1, _, FLe.refl _, (FLe.refl _), ⟨rfl, rfl, rfl, trivial⟩, (Sub.cons (Sub.cons (Sub.refl _))), ⟨rfl, (by (try dsimp only) <;> omega), (fun i hi => (Nat.lt_or_ge i k).elim (fun h => hall i h) (fun h => by obtain rfl : i = k := (by omega); first | exact .inr (by assumption) | exact .inl (len_nil (by assumption)) | (have := len_nil (by assumption); simp_all) | simp_all))⟩, (by omega)⟩
    ·refine X.draw [cellsH b2 [sv] 78, cellsH b1 [arv] 36] L 14 [[], [], [], [], [], [], [], [], [], [], [], [], [], []] [[], [0], [], [1, 2], [3], [4], [5], [6], [7], [7], [7, 9], [7], [7, 10, 11], [7, 12]] (phiL [fun us v => v = ptr b2 0, fun us v => v = sv, fun us v => v = (.int .i64 (((k : Nat) : Int)) : Value), fun us v => v = (.pointer (some (elemA sv (k))) : Value), fun us v => v = a1, fun us v => v = (.int .i64 (((((s.getD k [])).length : Nat) : Int)) : Value), fun us v => v = (.bool (decide ((((((s.getD k [])).length : Nat) : Int) : Int) > 0)) : Value), fun us v => v = (.bool (decide ((((((s.getD k [])).length : Nat) : Int) : Int) > 0)) : Value), fun us v => v = undef, fun us v => v = undef, fun us v => v = undef, fun us v => v = undef, fun us v => v = undef, fun us v => v = undef]) (ownL [fun us v => [], fun us v => [], fun us v => [], fun us v => [], fun us v => [], fun us v => [], fun us v => [], fun us v => [], fun us v => [], fun us v => [], fun us v => [], fun us v => [], fun us v => [], fun us v => []]) mixed rfl rfl (by kernel_rfl) ?_ ?_
     ·refine stepsP.cons (fun vals R hpZ => ?_) ?_
      ·refine XG.op (XOp.fieldP (b := b2) (0) Tryz.runUnderlying78 rfl Tryz.sizeOf69 (by decide) rfl rfl ?_)
       exact ⟨rfl, rfl, rfl⟩
      refine stepsP.cons (fun vals R hpZ => ?_) ?_
      ·rw [(envs_of_sat (l := [(0, ptr b2 0)]) ⟨hpZ 0 (by decide), trivial⟩).symm]
       refine XG.op (XOp.load1 (v := sv) Tryz.isAgg69 rfl (Rd.own [] rfl rfl) ?_)
       exact ⟨rfl, rfl, rfl⟩
      refine stepsP.cons (fun vals R hpZ => ?_) ?_
      ·refine XG.op (XOp.move (.int .i64 (((k : Nat) : Int))) rfl ?_)
       exact ⟨rfl, rfl, rfl⟩
      refine stepsP.cons (fun vals R hpZ => ?_) ?_
      ·rw [(envs_of_sat (l := [(1, sv), (2, (.int .i64 (((k : Nat) : Int)) : Value))]) ⟨hpZ 1 (by decide), hpZ 2 (by decide), trivial⟩).symm]
       refine XG.op (XOp.indexS (v := sv) (i := ((k : Nat) : Int)) (n := (s).length) k Tryz.runUnderlying69 Tryz.sizeOf22 rfl rfl rfl hs.slv (by omega) (Nat.mul_one _) ?_)
       exact ⟨rfl, rfl, rfl⟩
      refine stepsP.cons (fun vals R hpZ => ?_) ?_
      ·rw [(envs_of_sat (l := [(3, (.pointer (some (elemA sv (k))) : Value))]) ⟨hpZ 3 (by decide), trivial⟩).symm]
       refine XG.op (XOp.load1 (v := a1) Tryz.isAgg22 rfl (hr1 _) ?_)
       exact ⟨rfl, rfl, rfl⟩
      refine stepsP.cons (fun vals R hpZ => ?_) ?_
      ·rw [(envs_of_sat (l := [(4, a1)]) ⟨hpZ 4 (by decide), trivial⟩).symm]
       refine XG.op (XOp.lenS (v := a1) (n := ((s.getD k [])).length) Tryz.runUnderlying22 rfl ha1.slv ?_)
       exact ⟨rfl, rfl, rfl⟩
      refine stepsP.cons (fun vals R hpZ => ?_) ?_
      ·rw [(envs_of_sat (l := [(5, (.int .i64 (((((s.getD k [])).length : Nat) : Int)) : Value))]) ⟨hpZ 5 (by decide), trivial⟩).symm]
       refine XG.op (XOp.gtr (a := ((((s.getD k [])).length : Nat) : Int)) (b := 0) rfl rfl ?_)
       exact ⟨rfl, rfl, rfl⟩
      refine stepsP.cons (fun vals R hpZ => ?_) ?_
      ·rw [(envs_of_sat (l := [(6, (.bool (decide ((((((s.getD k [])).length : Nat) : Int) : Int) > 0)) : Value))]) ⟨hpZ 6 (by decide), trivial⟩).symm]
       refine XG.op (XOp.move (.bool (decide ((((((s.getD k [])).length : Nat) : Int) : Int) > 0))) rfl ?_)
       exact ⟨rfl, rfl, rfl⟩
      refine stepsP.cons (fun vals R hpZ => ?_) ?_
      ·rw [(envs_of_sat (l := [(7, (.bool (decide ((((((s.getD k [])).length : Nat) : Int) : Int) > 0)) : Value))]) ⟨hpZ 7 (by decide), trivial⟩).symm]
       exact XG.no (t := 29) rfl (congrArg Value.bool (decide_eq_false h4)) ⟨rfl, rfl, rfl⟩
      refine stepsP.cons (fun vals R hpZ => ?_) ?_
      ·rw [(envs_of_sat (l := [(7, (.bool (decide ((((((s.getD k [])).length : Nat) : Int) : Int) > 0)) : Value))]) ⟨hpZ 7 (by decide), trivial⟩).symm]
       exact XG.no (t := 29) rfl (congrArg Value.bool (decide_eq_false h4)) ⟨rfl, rfl, rfl⟩
      refine stepsP.cons (fun vals R hpZ => ?_) ?_
      ·rw [(envs_of_sat (l := [(7, (.bool (decide ((((((s.getD k [])).length : Nat) : Int) : Int) > 0)) : Value)), (9, undef)]) ⟨hpZ 7 (by decide), hpZ 9 (by decide), trivial⟩).symm]
       exact XG.no (t := 29) rfl (congrArg Value.bool (decide_eq_false h4)) ⟨rfl, rfl, rfl⟩
      refine stepsP.cons (fun vals R hpZ => ?_) ?_
      ·rw [(envs_of_sat (l := [(7, (.bool (decide ((((((s.getD k [])).length : Nat) : Int) : Int) > 0)) : Value))]) ⟨hpZ 7 (by decide), trivial⟩).symm]
       exact XG.no (t := 29) rfl (congrArg Value.bool (decide_eq_false h4)) ⟨rfl, rfl, rfl⟩
      refine stepsP.cons (fun vals R hpZ => ?_) ?_
      ·rw [(envs_of_sat (l := [(7, (.bool (decide ((((((s.getD k [])).length : Nat) : Int) : Int) > 0)) : Value)), (10, undef), (11, undef)]) ⟨hpZ 7 (by decide), hpZ 10 (by decide), hpZ 11 (by decide), trivial⟩).symm]
       exact XG.no (t := 29) rfl (congrArg Value.bool (decide_eq_false h4)) ⟨rfl, rfl, rfl⟩
      refine stepsP.cons (fun vals R hpZ => ?_) ?_
      ·rw [(envs_of_sat (l := [(7, (.bool (decide ((((((s.getD k [])).length : Nat) : Int) : Int) > 0)) : Value)), (12, undef)]) ⟨hpZ 7 (by decide), hpZ 12 (by decide), trivial⟩).symm]
       exact XG.no (t := 29) rfl (congrArg Value.bool (decide_eq_false h4)) ⟨rfl, rfl, rfl⟩
      exact stepsP.nil
     ·intro vals hphi
      have e0 : vals 0 = ptr b2 0 := hphi 0 (by decide)
      have e1 : vals 1 = sv := hphi 1 (by decide)
      have e2 : vals 2 = (.int .i64 (((k : Nat) : Int)) : Value) := hphi 2 (by decide)
      have e3 : vals 3 = (.pointer (some (elemA sv (k))) : Value) := hphi 3 (by decide)
      have e4 : vals 4 = a1 := hphi 4 (by decide)
      have e5 : vals 5 = (.int .i64 (((((s.getD k [])).length : Nat) : Int)) : Value) := hphi 5 (by decide)
      have e6 : vals 6 = (.bool (decide ((((((s.getD k [])).length : Nat) : Int) : Int) > 0)) : Value) := hphi 6 (by decide)
      have e7 : vals 7 = (.bool (decide ((((((s.getD k [])).length : Nat) : Int) : Int) > 0)) : Value) := hphi 7 (by decide)
      have e8 : vals 8 = undef := hphi 8 (by decide)
      have e9 : vals 9 = undef := hphi 9 (by decide)
      have e10 : vals 10 = undef := hphi 10 (by decide)
      have e11 : vals 11 = undef := hphi 11 (by decide)
      have e12 : vals 12 = undef := hphi 12 (by decide)
      have e13 : vals 13 = undef := hphi 13 (by decide)
      rw [(envs_of_sat (l := [(0, ptr b2 0), (1, sv), (2, (.int .i64 (((k : Nat) : Int)) : Value)), (3, (.pointer (some (elemA sv (k))) : Value)), (4, a1), (5, (.int .i64 (((((s.getD k [])).length : Nat) : Int)) : Value)), (6, (.bool (decide ((((((s.getD k [])).length : Nat) : Int) : Int) > 0)) : Value)), (7, (.bool (decide ((((((s.getD k [])).length : Nat) : Int) : Int) > 0)) : Value)), (8, undef), (9, undef), (10, undef), (11, undef), (12, undef), (13, undef)]) ⟨e0, e1, e2, e3, e4, e5, e6, e7, e8, e9, e10, e11, e12, e13, trivial⟩).symm]
      show XL _ _ _ _ _ _ _ (cellsH b2 [sv] 78 :: cellsH b1 [arv] 36 :: L)
      refine XL.no (t := 29) rfl (congrArg Value.bool (decide_eq_false h4)) ?_
      refine XL.no (t := 29) rfl (congrArg Value.bool (decide_eq_false h4)) ?_
      refine XL.cons (XOp.pickF (.bool (false)) (congrArg Value.bool (decide_eq_false h4)) rfl ?_)
      refine XL.nil ?_
      refine X.condF rfl ?_
      refine X.skip ?_
      refine X.region ?_
      refine XL.cons (XOp.move (.int .i64 (((k : Nat) : Int))) rfl ?_)
      refine XL.cons (XOp.addR (a := ((k : Nat) : Int)) (b := 1) (((k + 1 : Nat) : Int)) rfl rfl (by omega) (by omega) ?_)
      refine XL.cons (XOp.assign (.int .i64 (((k + 1 : Nat) : Int))) rfl ?_)
      refine XL.nil ?_
      exact ⟨k + 1, _, FLe.refl _, (FLe.refl _), ⟨rfl, rfl, rfl, trivial⟩, (Sub.cons (Sub.cons (Sub.refl _))), ⟨rfl, (by (try dsimp only) <;> omega), (fun i hi => (Nat.lt_or_ge i k).elim (fun h => hall i h) (fun h => by obtain rfl : i = k := (by omega); first | exact .inr (by assumption) | exact .inl (len_nil (by assumption)) | (have := len_nil (by assumption); simp_all) | simp_all))⟩, (by omega)⟩
   ·refine X.exit (thenQ_exit (thenQ_exit (blockQ_exit ?_)))
    refine X.seq ?_
    refine X.region ?_
    refine XL.cons (XOp.assign (.bool (true)) rfl ?_)
    refine XL.nil ?_
    refine X.ret (retEnd (L' := L) [.bool (true)] (.bool (true)) (.tmp rfl .nil) rfl (FLe.refl _) (FLe.refl _) (Sub.drop (Sub.drop (Sub.refl _))) ?_)
    exact ⟨(congrArg Value.bool (substOk_iff.2 ⟨by simp_all, by omega, fun i hi => hall i (by omega)⟩)), rfl, rfl⟩

/- spec.Filled -/
theorem sFilled_spec {F : FH} {L : List HP} {arv : Value} {ar : List Int} (har : IntsF F arv ar) {sv : Value} {s : List (List Int)} (hs : RowsF F sv s) {tv : Value} {t : List Int} (ht : IntsF F tv t) (hla : ar.length ≤ 4000000) (hsl : s.length ≤ 4000000) (hsb : ∀ i, i < s.length → (s.getD i []).length ≤ 4000000) (hlt : t.length ≤ 4000000) :
    Does Tryz.prog 91 [.agg #[arv], .agg #[sv], tv] F (L) (fun v F' L' => ∃ (a : Value), (.tuple #[a, .bool ((filledL ar s t).isSome)] : Value) = v ∧ (IntsF F' a ((filledL ar s t).getD [])) ∧ L = L') := by
 refine Does.of_X Tryz.func91 rfl rfl rfl ?_
 refine X.seq ?_
 refine X.region ?_
 refine XL.cons (XOp.box [arv] rfl rfl ?_)
 intro b1
 refine XL.cons (XOp.box [sv] rfl rfl ?_)
 intro b2
 refine XL.cons (XOp.assign ((.slice none 0 0)) rfl ?_)
 refine XL.cons (XOp.assign (.bool (false)) rfl ?_)
 refine XL.nil ?_
 refine X.seq ?_
 refine X.seq ?_
 refine X.region ?_
 refine XL.cons (XOp.loadN [arv] Tryz.isAgg36 Tryz.sizeOf36 rfl rfl (Rd.ownN [_] rfl rfl) ?_)
 refine XL.cons (XOp.loadN [sv] Tryz.isAgg78 Tryz.sizeOf78 rfl rfl (Rd.ownN [] rfl rfl) ?_)
 refine XL.cons (XOp.call (args := [.agg #[arv], .agg #[sv]]) Tryz.call158 rfl (sSubstOk_spec har hs (hla := (by first | assumption | rfl | omega | (left; simp; done) | (right; simp; done))) (hsl := (by first | assumption | rfl | omega | (left; simp; done) | (right; simp; done))) (hsb := (by first | assumption | rfl | omega | (left; simp; done) | (right; simp; done)))) ?_)
 rintro _ _ _ _ ⟨rfl, rfl, rfl⟩
 refine XL.cons (XOp.notB (b := substOk ar s) rfl ?_)
 refine XL.cons (XOp.move (.bool (!(substOk ar s))) rfl ?_)
 by_cases h1 : (!(substOk ar s)) = true
 ·refine XL.no (t := 12) rfl (congrArg Value.bool h1) ?_
  refine XL.no (t := 12) rfl (congrArg Value.bool h1) ?_
  refine XL.no (t := 12) rfl (congrArg Value.bool h1) ?_
  refine XL.no (t := 12) rfl (congrArg Value.bool h1) ?_
  refine XL.cons (XOp.pickT (.bool (true)) (congrArg Value.bool h1) rfl ?_)
  refine XL.nil ?_
  refine X.condT rfl ?_
  refine X.seq ?_
  refine X.region ?_
  refine XL.cons (XOp.buildSlice (s := 1) [] [.int .i64 (0)] [] Tryz.runUnderlying22 Tryz.sizeOf2 Tryz.zeroValue2 rfl (by decide) rfl CellsAre.nil rfl ?_)
  intro v1 hv1
  refine XL.cons (XOp.assign (v1) rfl ?_)
  refine XL.cons (XOp.assign (.bool (false)) rfl ?_)
  refine XL.nil ?_
  show X _ _ _ _ _ _ (intsH 2 v1 ([] : List Int) :: cellsH b2 [sv] 78 :: cellsH b1 [arv] 36 :: L)
  refine X.freezeF [] _ _ rfl (fun F1 le1 hz1 => ?_)
  replace har := har.mono le1
  replace hs := hs.mono le1
  replace ht := ht.mono le1
  have hf1 : IntsF F1 v1 ([]) := intsH.fz (xs := []) hz1.fz
  refine X.ret (thenQ_ret (retEnd (L' := L) [v1, .bool (false)] (.tuple #[v1, .bool (false)]) (.tmp rfl (.tmp rfl .nil)) rfl le1 (FLe.refl _) (Sub.drop (Sub.drop (Sub.refl _))) ?_))
  have e : filledL ar s t = none := by unfold filledL; rw [if_neg (by simp_all)]
  exact ⟨_, by rw [e]; rfl, by rw [e]; exact hf1, rfl⟩
 ·rw [Bool.not_eq_true] at h1
  have hsk : substOk ar s = true := by simpa using h1
  have hsk2 := substOk_len hsk
  have hsk3 := (substOk_iff.1 hsk).2.1
  refine XL.yes (t := 12) rfl (congrArg Value.bool h1) (XOp.loadN [arv] Tryz.isAgg36 Tryz.sizeOf36 rfl rfl (Rd.ownN [_] rfl rfl) ?_)
  refine XL.yes (t := 12) rfl (congrArg Value.bool h1) (XOp.move (tv) rfl ?_)
  refine XL.yes (t := 12) rfl (congrArg Value.bool h1) (XOp.call (args := [.agg #[arv], tv]) Tryz.call128 rfl (sTermOk_spec har ht (hla := (by first | assumption | rfl | omega | (left; simp; done) | (right; simp; done))) (hlt := (by first | assumption | rfl | omega | (left; simp; done) | (right; simp; done)))) ?_)
  rintro _ _ _ _ ⟨rfl, rfl, rfl⟩
  refine XL.yes (t := 12) rfl (congrArg Value.bool h1) (XOp.notB (b := termOk ar t) rfl ?_)
  refine XL.cons (XOp.pickF (.bool (!(termOk ar t))) (congrArg Value.bool h1) rfl ?_)
  refine XL.nil ?_
  refine X.cond (t := !(termOk ar t)) rfl (fun h2 => ?_) (fun h2 => ?_)
  ·refine X.seq ?_
   refine X.region ?_
   refine XL.cons (XOp.buildSlice (s := 1) [] [.int .i64 (0)] [] Tryz.runUnderlying22 Tryz.sizeOf2 Tryz.zeroValue2 rfl (by decide) rfl CellsAre.nil rfl ?_)
   intro v2 hv2
   refine XL.cons (XOp.assign (v2) rfl ?_)
   refine XL.cons (XOp.assign (.bool (false)) rfl ?_)
   refine XL.nil ?_
   show X _ _ _ _ _ _ (intsH 2 v2 ([] : List Int) :: cellsH b2 [sv] 78 :: cellsH b1 [arv] 36 :: L)
   refine X.freezeF [] _ _ rfl (fun F2 le2 hz2 => ?_)
   replace har := har.mono le2
   replace hs := hs.mono le2
   replace ht := ht.mono le2
   have hf2 : IntsF F2 v2 ([]) := intsH.fz (xs := []) hz2.fz
   refine X.ret (thenQ_ret (retEnd (L' := L) [v2, .bool (false)] (.tuple #[v2, .bool (false)]) (.tmp rfl (.tmp rfl .nil)) rfl le2 (FLe.refl _) (Sub.drop (Sub.drop (Sub.refl _))) ?_))
   have e : filledL ar s t = none := by unfold filledL; rw [if_neg (by simp_all)]
   exact ⟨_, by rw [e]; rfl, by rw [e]; exact hf2, rfl⟩
  ·have hto : termOk ar t = true := by simpa using h2
   have htl2 := termOk_len hto
   have htg := fun k (hk : k < t.length) => termOk_ge hto hk
   refine X.skip ?_
   refine X.seq ?_
   refine X.region ?_
   refine XL.cons (XOp.loadN [sv] Tryz.isAgg78 Tryz.sizeOf78 rfl rfl (Rd.ownN [] rfl rfl) ?_)
   refine XL.cons (XOp.move (tv) rfl ?_)
   refine XL.cons (XOp.call (args := [.agg #[sv], tv]) Tryz.call73 rfl (l2Filled_spec hs ht (hsl := (by first | assumption | rfl | omega | (left; simp; done) | (right; simp; done))) (hsb := (fun i => by have := hsk2 i; omega)) (htl := (by first | assumption | rfl | omega | (left; simp; done) | (right; simp; done))) (htg := (fun k hk => by have := htg k hk; omega))) ?_)
   rintro _ F3 _ le3 ⟨x1, rfl, hr1, rfl⟩
   replace har := har.mono le3
   replace hs := hs.mono le3
   replace ht := ht.mono le3
   refine XL.cons (XOp.extract (x1) rfl rfl ?_)
   refine XL.cons (XOp.extract (.bool ((fillL s t).isSome)) rfl rfl ?_)
   refine XL.cons (XOp.assign (x1) rfl ?_)
   refine XL.cons (XOp.assign (.bool ((fillL s t).isSome)) rfl ?_)
   refine XL.nil ?_
   refine X.ret (retEnd (L' := L) [x1, .bool ((fillL s t).isSome)] (.tuple #[x1, .bool ((fillL s t).isSome)]) (.tmp rfl (.tmp rfl .nil)) rfl le3 (FLe.refl _) (Sub.drop (Sub.drop (Sub.refl _))) ?_)
   have e : filledL ar s t = fillL s t := by unfold filledL; rw [if_pos ⟨hsk, hto⟩]
   exact ⟨_, by rw [e], by rw [e]; exact hr1, rfl⟩
end Go.Proofs.YtnloeeaidknblaaGreat
