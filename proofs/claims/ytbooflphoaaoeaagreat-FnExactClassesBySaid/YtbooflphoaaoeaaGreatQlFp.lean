/-
  Walks: the statements' own helpers: copies.
-/
import Derived.Test.YtbooflphoaaoeaaGreatQlFo
import Derived.Test.YtbooflphoaaoeaaGreatX13
import Derived.Test.YtbooflphoaaoeaaGreatP8
set_option linter.unusedSimpArgs false
set_option linter.unusedVariables false
namespace Go.Proofs.YtbooflphoaaoeaaGreat
open Go X M

/- laws.toSig -/
theorem toSig_spec {F : FH} {L : List HP} {xsv : Value} {xs : List Int} (hxs : IntsF F xsv xs) (hlx : xs.length ≤ 4000000) :
    Does Tryz.prog 51 [.agg #[xsv]] F (L) (fun v F' L' => ∃ (a : Value), (.agg #[a] : Value) = v ∧ (IntsF F' a xs) ∧ (Fresh F F' (star [intsH 2 a xs])) ∧ L = L') := by
  refine Does.of_X Tryz.func51 rfl rfl rfl ?_
  refine X.seq ?_
  refine X.region ?_
  refine XL.cons (XOp.box [xsv] rfl rfl ?_)
  intro b1
  refine XL.cons (XOp.alloc [(.slice none 0 0)] Tryz.zeroValue34 rfl ?_)
  intro b2
  refine XL.nil ?_
  refine X.seq ?_
  refine X.region ?_
  refine XL.cons (XOp.alloc [(.slice none 0 0)] Tryz.zeroValue34 rfl ?_)
  intro b3
  refine XL.nil ?_
  refine X.seq ?_
  refine X.region ?_
  refine XL.cons (XOp.fieldP (b := b1) (0) Tryz.runUnderlying24 rfl Tryz.sizeOf22 (by decide) rfl rfl ?_)
  refine XL.cons (XOp.load1 (v := xsv) Tryz.isAgg22 rfl (Rd.own [_, _] rfl rfl) ?_)
  refine XL.cons (XOp.frzF <| XOp.call (args := [xsv]) Tryz.call13 rfl (toInt64S_spec hxs (hlx := (by first | assumption | rfl | omega | (left; simp; done) | (right; simp; done)))) ?_)
  rintro v1 _ _ _ ⟨rfl, hs1, rfl⟩
  refine ⟨_, _, rfl, fun F1 le1 hz1 => ?_⟩
  replace hxs := hxs.mono le1
  have hf1 : IntsF F1 v1 ((xs)) := intsH.fz (xs := (xs)) hz1.fz
  refine XL.cons (XOp.fieldP (b := b3) (0) Tryz.runUnderlying34 rfl Tryz.sizeOf22 (by decide) rfl rfl ?_)
  refine XL.cons (XOp.store1 (v := v1) [] _ [v1] Tryz.sizeOf22 rfl rfl (one_sl (IntsF.isSl hf1)) rfl rfl rfl ?_)
  refine XL.nil ?_
  refine X.seq ?_
  refine X.region ?_
  refine XL.cons (XOp.loadN [v1] Tryz.isAgg34 Tryz.sizeOf34 rfl rfl (Rd.ownN [] rfl rfl) ?_)
  refine XL.cons (XOp.storeN (vs := [v1]) [_] _ [v1] Tryz.sizeOf34 rfl rfl rfl (ones_cons (one_sl (IntsF.isSl hf1)) ones_nil) rfl rfl rfl ?_)
  refine XL.nil ?_
  refine X.ret (retEnd (L' := L) [.agg #[v1]] (.agg #[v1]) (.cell rfl (loadNV [v1] Tryz.isAgg34 Tryz.sizeOf34 rfl (Rd.ownN [_] rfl rfl)) .nil) rfl le1 (FLe.refl _) (Sub.drop (Sub.drop (Sub.drop (Sub.refl _)))) ?_)
  exact ⟨_, rfl, hf1, (Fresh.one hz1), rfl⟩

/- laws.toRule -/
theorem toRule_spec {F : FH} {L : List HP} {lv : Value} {l : List Int} (hl : IntsF F lv l) {rv : Value} {r : List Int} (hr : IntsF F rv r) (hll : l.length ≤ 4000000) (hlr : r.length ≤ 4000000) :
    Does Tryz.prog 110 [.agg #[lv, rv]] F (L) (fun v F' L' => ∃ (a : Value), ∃ (b : Value), (.agg #[a, b] : Value) = v ∧ (IntsF F' a l) ∧ (IntsF F' b r) ∧ (Fresh F F' (star [intsH 2 a l, intsH 2 b r])) ∧ L = L') := by
  refine Does.of_X Tryz.func110 rfl rfl rfl ?_
  refine X.seq ?_
  refine X.region ?_
  refine XL.cons (XOp.box [lv, rv] rfl rfl ?_)
  intro b1
  refine XL.cons (XOp.alloc [(.slice none 0 0), (.slice none 0 0)] Tryz.zeroValue135 rfl ?_)
  intro b2
  refine XL.nil ?_
  refine X.seq ?_
  refine X.region ?_
  refine XL.cons (XOp.alloc [(.slice none 0 0), (.slice none 0 0)] Tryz.zeroValue135 rfl ?_)
  intro b3
  refine XL.nil ?_
  refine X.seq ?_
  refine X.region ?_
  refine XL.cons (XOp.fieldP (b := b1) (0) Tryz.runUnderlying127 rfl Tryz.sizeOf22 (by decide) rfl rfl ?_)
  refine XL.cons (XOp.load1 (v := lv) Tryz.isAgg22 rfl (Rd.own [_, _] rfl rfl) ?_)
  refine XL.cons (XOp.frzF <| XOp.call (args := [lv]) Tryz.call13 rfl (toInt64S_spec hl (hlx := (by first | assumption | rfl | omega | (left; simp; done) | (right; simp; done)))) ?_)
  rintro v1 _ _ _ ⟨rfl, hs1, rfl⟩
  refine ⟨_, _, rfl, fun F1 le1 hz1 => ?_⟩
  replace hl := hl.mono le1
  replace hr := hr.mono le1
  have hf1 : IntsF F1 v1 ((l)) := intsH.fz (xs := (l)) hz1.fz
  refine XL.cons (XOp.fieldP (b := b3) (0) Tryz.runUnderlying135 rfl Tryz.sizeOf22 (by decide) rfl rfl ?_)
  refine XL.cons (XOp.store1 (v := v1) [] _ [v1, (.slice none 0 0)] Tryz.sizeOf22 rfl rfl (one_sl (IntsF.isSl hf1)) rfl rfl rfl ?_)
  refine XL.nil ?_
  refine X.seq ?_
  refine X.region ?_
  refine XL.cons (XOp.fieldP (b := b1) (1) Tryz.runUnderlying127 rfl Tryz.sizeOf22 (by decide) rfl rfl ?_)
  refine XL.cons (XOp.load1 (v := rv) Tryz.isAgg22 rfl (Rd.own [_, _] rfl rfl) ?_)
  refine XL.cons (XOp.frzF <| XOp.call (args := [rv]) Tryz.call13 rfl (toInt64S_spec hr (hlx := (by first | assumption | rfl | omega | (left; simp; done) | (right; simp; done)))) ?_)
  rintro v2 _ _ _ ⟨rfl, hs2, rfl⟩
  refine ⟨_, _, rfl, fun F2 le2 hz2 => ?_⟩
  replace hl := hl.mono le2
  replace hr := hr.mono le2
  replace hf1 := hf1.mono le2
  have hf2 : IntsF F2 v2 ((r)) := intsH.fz (xs := (r)) hz2.fz
  refine XL.cons (XOp.fieldP (b := b3) (1) Tryz.runUnderlying135 rfl Tryz.sizeOf22 (by decide) rfl rfl ?_)
  refine XL.cons (XOp.store1 (v := v2) [] _ [v1, v2] Tryz.sizeOf22 rfl rfl (one_sl (IntsF.isSl hf2)) rfl rfl rfl ?_)
  refine XL.nil ?_
  refine X.seq ?_
  refine X.region ?_
  refine XL.cons (XOp.loadN [v1, v2] Tryz.isAgg135 Tryz.sizeOf135 rfl rfl (Rd.ownN [] rfl rfl) ?_)
  refine XL.cons (XOp.storeN (vs := [v1, v2]) [_] _ [v1, v2] Tryz.sizeOf135 rfl rfl rfl (ones_cons (one_sl (IntsF.isSl hf1)) (ones_cons (one_sl (IntsF.isSl hf2)) ones_nil)) rfl rfl rfl ?_)
  refine XL.nil ?_
  refine X.ret (retEnd (L' := L) [.agg #[v1, v2]] (.agg #[v1, v2]) (.cell rfl (loadNV [v1, v2] Tryz.isAgg135 Tryz.sizeOf135 rfl (Rd.ownN [_] rfl rfl)) .nil) rfl (FLe.trans le1 le2) (FLe.refl _) (Sub.drop (Sub.drop (Sub.drop (Sub.refl _)))) ?_)
  exact ⟨_, _, rfl, hf1, hf2, (Fresh.app (Fresh.one hz1) le1 (Fresh.one hz2) le2), rfl⟩

/- laws.toRuleS -/
theorem toRuleS_spec {F : FH} {L : List HP} {xv : Value} {x : List (List Int × List Int)} (hx : PairsF F xv x) (hlx : x.length ≤ 4000000) (hrb : ∀ i, i < x.length → (x.getD i ([], [])).1.length ≤ 4000000 ∧ (x.getD i ([], [])).2.length ≤ 4000000) :
    Does Tryz.prog 52 [xv] F (L) (fun v F' L' => ∃ (a : Value), (a : Value) = v ∧ (PairsF F' a x) ∧ (Fresh F F' (star [pairsD 2 135 a x])) ∧ L = L') := by
  refine Does.of_X Tryz.func52 rfl rfl rfl ?_
  refine X.seq ?_
  refine X.region ?_
  refine XL.cons (XOp.assign ((.slice none 0 0)) rfl ?_)
  refine XL.nil ?_
  refine X.seq ?_
  refine X.region ?_
  refine XL.cons (XOp.move (xv) rfl ?_)
  refine XL.cons (XOp.lenS (v := xv) (n := (x).length) Tryz.runUnderlying25 rfl hx.slv ?_)
  refine XL.cons (XOp.makeSlice (n := (x).length) (bytes := 48) [(.slice none 0 0), (.slice none 0 0)] Tryz.runUnderlying35 Tryz.sizeOf135 Tryz.typeInfo135 rfl Tryz.zeroValue135 rfl rfl rfl rfl (by omega) (by omega) ?_)
  intro v1 hv1
  obtain ⟨cs1, hq1, hc1⟩ : ∃ cs, ((List.range (((x).length) * 2)).map fun i => [Value.slice none 0 0, Value.slice none 0 0].toArray[i % [Value.slice none 0 0, Value.slice none 0 0].toArray.size]!) = cs ∧ PairsC F cs (List.replicate ((x).length) ([], []) : List (List Int × List Int)) := ⟨_, rfl, PairsC.nils _⟩
  rw [hq1]
  refine XL.cons (XOp.assign (v1) rfl ?_)
  refine XL.nil ?_
  refine X.seq ?_
  refine X.seq ?_
  refine X.region ?_
  refine XL.cons (XOp.assign (.int .i64 (0)) rfl ?_)
  refine XL.nil ?_
  refine X.block ?_
  obtain ⟨L0, hD0, hS0⟩ := deepNils2 2 x.length
  rw [hq1] at hD0
  refine X.loop (α := Nat × List (List Int × List Int) × List Value × List HP × FH) (fun xQ => [(0, xv), (3, v1), (4, .int .i64 (((xQ.1 : Nat) : Int)))]) (fun xQ => slH 135 2 v1 x.length xQ.2.2.1 :: L) (fun xQ F' => xQ.2.2.2.2 = F' ∧ F ≤ xQ.2.2.2.2 ∧ (PairsC xQ.2.2.2.2 xQ.2.2.1 xQ.2.1) ∧ (xQ.1 ≤ x.length) ∧ (xQ.2.1.length = x.length) ∧ (xQ.2.1.take xQ.1 = x.take xQ.1) ∧ (DeepL 2 (PairO 2) xQ.2.2.1 xQ.2.1 xQ.2.2.2.1) ∧ (Fresh F xQ.2.2.2.2 (star xQ.2.2.2.1))) (fun xQ => x.length - xQ.1) (0, (List.replicate ((x).length) ([], []) : List (List Int × List Int)), cs1, L0, F) ⟨rfl, rfl, rfl, trivial⟩ (Sub.cons (Sub.refl _)) ⟨rfl, FLe.refl _, (hc1), (by (try dsimp only) <;> omega), (by simp), (rfl), (hD0), (Fresh.empty hS0)⟩ ?_
  rintro ⟨k, os, cs, Ls, G1⟩ rE _ _ ⟨rfl, leG, hC, hk, hol, hos, hD, hZ⟩
  show X _ _ _ _ (envs [(0, xv), (3, v1), (4, .int .i64 (((k : Nat) : Int)))] rE) _ (slH 135 2 v1 x.length cs :: L)
  replace leG : F ≤ G1 := leG
  dsimp only at hC hk hol hos hD hZ
  have hrk := hrb k
  have leG1 := leG
  replace hx := hx.mono leG1
  replace hc1 := hc1.mono leG1
  refine X.seq ?_
  refine X.seq ?_
  refine X.region ?_
  refine XL.cons (XOp.move (.int .i64 (((k : Nat) : Int))) rfl ?_)
  refine XL.cons (XOp.move (xv) rfl ?_)
  refine XL.cons (XOp.lenS (v := xv) (n := (x).length) Tryz.runUnderlying25 rfl hx.slv ?_)
  refine XL.cons (XOp.lss (a := ((k : Nat) : Int)) (b := (((x).length : Nat) : Int)) rfl rfl ?_)
  refine XL.nil ?_
  refine X.condD (p := (((k : Nat) : Int) : Int) < (((x).length : Nat) : Int)) rfl (fun h1 => ?_) (fun h1 => ?_)
  · refine X.skip ?_
    refine X.seq ?_
    refine X.block ?_
    refine X.region ?_
    refine XL.cons (XOp.move (v1) rfl ?_)
    refine XL.cons (XOp.move (.int .i64 (((k : Nat) : Int))) rfl ?_)
    refine XL.cons (XOp.move (xv) rfl ?_)
    refine XL.cons (XOp.move (.int .i64 (((k : Nat) : Int))) rfl ?_)
    refine XL.cons (XOp.indexS (v := xv) (i := ((k : Nat) : Int)) (n := (x).length) k Tryz.runUnderlying25 Tryz.sizeOf127 rfl rfl rfl hx.slv (by omega) rfl ?_)
    obtain ⟨a1, a2, ha1, ha2, hr1, hr2⟩ := hx.rd (i := k) (by omega)
    refine XL.cons (XOp.loadN [a1, a2] Tryz.isAgg127 Tryz.sizeOf127 rfl rfl (Rd.two (hr1 _) (hr2 _)) ?_)
    refine XL.cons (XOp.call (args := [.agg #[a1, a2]]) Tryz.call110 rfl (toRule_spec ha1 ha2 (hll := (by first | assumption | rfl | omega | (left; simp; done) | (right; simp; done))) (hlr := (by first | assumption | rfl | omega | (left; simp; done) | (right; simp; done)))) ?_)
    rintro _ F1 _ le1 ⟨x1, x2, rfl, hr3, hr4, hr5, rfl⟩
    replace hx := hx.mono le1
    replace hc1 := hc1.mono le1
    replace hC := hC.mono le1
    replace ha1 := ha1.mono le1
    replace ha2 := ha2.mono le1
    replace hr1 := Rd.monoA hr1 le1
    replace hr2 := Rd.monoA hr2 le1
    refine XL.cons (XOp.indexS (v := v1) (i := ((k : Nat) : Int)) (n := x.length) k Tryz.runUnderlying35 Tryz.sizeOf135 rfl rfl rfl (SlV.own [] rfl) (by omega) rfl ?_)
    refine XL.cons (XOp.storeSN (i := k * 2) (m := 2) (vs := [x1, x2]) (cs := cs) [] _ Tryz.sizeOf135 rfl rfl rfl (ones_cons (one_sl (IntsF.isSl hr3)) (ones_cons (one_sl (IntsF.isSl hr4)) ones_nil)) rfl (show k * 2 + 2 ≤ _ from by have h9 := CO.len hC; (try simp only [List.length_set, List.length_replicate] at h9); omega) (Nat.succ_pos _) ?_)
    have hc2 := hC.set (j := k) (by (try simp only [List.length_set, List.length_replicate]); omega) hr3 hr4
    refine XL.nil ?_
    refine X.region ?_
    refine XL.cons (XOp.move (.int .i64 (((k : Nat) : Int))) rfl ?_)
    refine XL.cons (XOp.addR (a := ((k : Nat) : Int)) (b := 1) (((k + 1 : Nat) : Int)) rfl rfl (by omega) (by omega) ?_)
    refine XL.cons (XOp.assign (.int .i64 (((k + 1 : Nat) : Int))) rfl ?_)
    refine XL.nil ?_
    obtain ⟨A, K, B, es, hLs, hel, hR, hg, hput⟩ := hD.at (d := ([], [])) (k := k) (by omega)
    rw [hLs] at hZ
    have hDn := hput _ (((x.getD k ([], [])).1), ((x.getD k ([], [])).2)) [intsH 2 x1 (((x.getD k ([], [])).1)), intsH 2 x2 (((x.getD k ([], [])).2))] rfl ⟨_, _,  rfl, rfl⟩
    exact ⟨(k + 1, (os.set k (((x.getD k ([], [])).1), ((x.getD k ([], [])).2))), (cs.take (k * 2) ++ [x1, x2] ++ cs.drop (k * 2 + 2)), A ++ ([intsH 2 x1 (((x.getD k ([], [])).1)), intsH 2 x2 (((x.getD k ([], [])).2))] ++ B), F1), _, (FLe.trans leG1 le1), (FLe.refl _), ⟨rfl, rfl, rfl, trivial⟩, (Sub.cons (Sub.refl _)), ⟨rfl, (FLe.trans leG1 le1), (hc2), (by (try dsimp only) <;> omega), (by dsimp only; rw [List.length_set]; exact hol), (by dsimp only; rw [take_set_any (by omega), hos, take_succ_getD ([], []) (by omega)]), (hDn), ((Fresh.swap hZ leG1 hr5 le1))⟩, (by omega)⟩
  · refine X.exit (thenQ_exit (thenQ_exit (blockQ_exit ?_)))
    refine X.seq ?_
    refine X.region ?_
    refine XL.cons (XOp.move (v1) rfl ?_)
    refine XL.cons (XOp.assign (v1) rfl ?_)
    refine XL.nil ?_
    refine X.freezeF [] _ _ rfl (fun F2 le2 hz1 => ?_)
    replace hx := hx.mono le2
    replace hc1 := hc1.mono le2
    replace hC := hC.mono le2
    have hf1 : PairsF F2 v1 os := CO.fz hC (by first | rfl | simp | omega) hz1.fz
    refine X.ret (retEnd (L' := L) [v1] (v1) (.tmp rfl .nil) rfl (FLe.trans leG1 le2) (FLe.refl _) (Sub.refl _) ?_)
    have e : os = x := by rw [← List.take_of_length_le (l := x) (i := k) (by omega), ← hos, List.take_of_length_le (by omega)]
    subst e
    exact ⟨_, rfl, hf1, Fresh.one (Fresh.deep hD hZ leG1 hz1 rfl le2), rfl⟩

/- laws.toInt64SS -/
theorem toInt64SS_spec {F : FH} {L : List HP} {xv : Value} {x : List (List Int)} (hx : RowsF F xv x) (hlx : x.length ≤ 4000000) (hrb : ∀ i, i < x.length → (x.getD i []).length ≤ 4000000) :
    Does Tryz.prog 29 [xv] F (L) (fun v F' L' => ∃ (a : Value), (a : Value) = v ∧ (RowsF F' a x) ∧ (Fresh F F' (star [rowsD 2 22 a x])) ∧ L = L') := by
  refine Does.of_X Tryz.func29 rfl rfl rfl ?_
  refine X.seq ?_
  refine X.region ?_
  refine XL.cons (XOp.assign ((.slice none 0 0)) rfl ?_)
  refine XL.nil ?_
  refine X.seq ?_
  refine X.region ?_
  refine XL.cons (XOp.move (xv) rfl ?_)
  refine XL.cons (XOp.lenS (v := xv) (n := (x).length) Tryz.runUnderlying54 rfl hx.slv ?_)
  refine XL.cons (XOp.makeSlice (n := (x).length) (bytes := 24) [(.slice none 0 0)] Tryz.runUnderlying54 Tryz.sizeOf22 Tryz.typeInfo22 rfl Tryz.zeroValue22 rfl rfl rfl rfl (by omega) (by omega) ?_)
  intro v1 hv1
  rw [nils]
  have hc1 : RowsC F _ _ := RowsC.nils ((x).length)
  refine XL.cons (XOp.assign (v1) rfl ?_)
  refine XL.nil ?_
  refine X.seq ?_
  refine X.seq ?_
  refine X.region ?_
  refine XL.cons (XOp.assign (.int .i64 (0)) rfl ?_)
  refine XL.nil ?_
  refine X.block ?_
  obtain ⟨L0, hD0, hS0⟩ := deepNils1 2 x.length
  rw [nils] at hD0
  refine X.loop (α := Nat × List (List Int) × List Value × List HP × FH) (fun xQ => [(0, xv), (3, v1), (4, .int .i64 (((xQ.1 : Nat) : Int)))]) (fun xQ => slH 22 1 v1 x.length xQ.2.2.1 :: L) (fun xQ F' => xQ.2.2.2.2 = F' ∧ F ≤ xQ.2.2.2.2 ∧ (RowsC xQ.2.2.2.2 xQ.2.2.1 xQ.2.1) ∧ (xQ.1 ≤ x.length) ∧ (xQ.2.1.length = x.length) ∧ (xQ.2.1.take xQ.1 = x.take xQ.1) ∧ (DeepL 1 (RowO 2) xQ.2.2.1 xQ.2.1 xQ.2.2.2.1) ∧ (Fresh F xQ.2.2.2.2 (star xQ.2.2.2.1))) (fun xQ => x.length - xQ.1) (0, (List.replicate ((x).length) [] : List (List Int)), (List.replicate ((x).length) (Value.slice none 0 0)), L0, F) ⟨rfl, rfl, rfl, trivial⟩ (Sub.cons (Sub.refl _)) ⟨rfl, FLe.refl _, (hc1), (by (try dsimp only) <;> omega), (by simp), (rfl), (hD0), (Fresh.empty hS0)⟩ ?_
  rintro ⟨k, os, cs, Ls, G1⟩ rE _ _ ⟨rfl, leG, hC, hk, hol, hos, hD, hZ⟩
  show X _ _ _ _ (envs [(0, xv), (3, v1), (4, .int .i64 (((k : Nat) : Int)))] rE) _ (slH 22 1 v1 x.length cs :: L)
  replace leG : F ≤ G1 := leG
  dsimp only at hC hk hol hos hD hZ
  have hrk := hrb k
  have leG1 := leG
  replace hx := hx.mono leG1
  replace hc1 := hc1.mono leG1
  refine X.seq ?_
  refine X.seq ?_
  refine X.region ?_
  refine XL.cons (XOp.move (.int .i64 (((k : Nat) : Int))) rfl ?_)
  refine XL.cons (XOp.move (xv) rfl ?_)
  refine XL.cons (XOp.lenS (v := xv) (n := (x).length) Tryz.runUnderlying54 rfl hx.slv ?_)
  refine XL.cons (XOp.lss (a := ((k : Nat) : Int)) (b := (((x).length : Nat) : Int)) rfl rfl ?_)
  refine XL.nil ?_
  refine X.condD (p := (((k : Nat) : Int) : Int) < (((x).length : Nat) : Int)) rfl (fun h1 => ?_) (fun h1 => ?_)
  · refine X.skip ?_
    refine X.seq ?_
    refine X.block ?_
    refine X.region ?_
    refine XL.cons (XOp.move (v1) rfl ?_)
    refine XL.cons (XOp.move (.int .i64 (((k : Nat) : Int))) rfl ?_)
    refine XL.cons (XOp.move (xv) rfl ?_)
    refine XL.cons (XOp.move (.int .i64 (((k : Nat) : Int))) rfl ?_)
    refine XL.cons (XOp.indexS (v := xv) (i := ((k : Nat) : Int)) (n := (x).length) k Tryz.runUnderlying54 Tryz.sizeOf22 rfl rfl rfl hx.slv (by omega) (Nat.mul_one _) ?_)
    obtain ⟨a1, ha1, hr1⟩ := hx.rd (i := k) (by omega)
    refine XL.cons (XOp.load1 (v := a1) Tryz.isAgg22 rfl (hr1 _) ?_)
    refine XL.cons (XOp.frzF <| XOp.call (args := [a1]) Tryz.call13 rfl (toInt64S_spec ha1 (hlx := (by first | assumption | rfl | omega | (left; simp; done) | (right; simp; done)))) ?_)
    rintro v2 _ _ _ ⟨rfl, hs1, rfl⟩
    refine ⟨_, _, rfl, fun F1 le1 hz1 => ?_⟩
    replace hx := hx.mono le1
    replace hc1 := hc1.mono le1
    replace hC := hC.mono le1
    replace ha1 := ha1.mono le1
    replace hr1 := Rd.monoA hr1 le1
    have hf1 : IntsF F1 v2 ((((x.getD k [])))) := intsH.fz (xs := (((x.getD k [])))) hz1.fz
    refine XL.cons (XOp.indexS (v := v1) (i := ((k : Nat) : Int)) (n := x.length) k Tryz.runUnderlying54 Tryz.sizeOf22 rfl rfl rfl (SlV.own [] rfl) (by omega) (Nat.mul_one _) ?_)
    refine XL.cons (XOp.storeS (i := k) (cs := cs) [] _ Tryz.sizeOf22 rfl rfl (one_sl (IntsF.isSl hf1)) rfl (by have h9 := CO.len hC; (try simp only [List.length_set, List.length_replicate] at h9 ⊢) <;> omega) ?_)
    have hc2 := hC.set k hf1
    refine XL.nil ?_
    refine X.region ?_
    refine XL.cons (XOp.move (.int .i64 (((k : Nat) : Int))) rfl ?_)
    refine XL.cons (XOp.addR (a := ((k : Nat) : Int)) (b := 1) (((k + 1 : Nat) : Int)) rfl rfl (by omega) (by omega) ?_)
    refine XL.cons (XOp.assign (.int .i64 (((k + 1 : Nat) : Int))) rfl ?_)
    refine XL.nil ?_
    obtain ⟨A, K, B, es, hLs, hel, hR, hg, hput⟩ := hD.at (d := []) (k := k) (by omega)
    rw [hLs] at hZ
    have hDn := hput _ ((((x.getD k [])))) [intsH 2 v2 ((((x.getD k []))))] rfl ⟨_,  rfl, rfl⟩
    have hbd9 := hD.bound (k := k) (by omega)
    rw [Nat.mul_one, ← set_one (List.getElem?_eq_getElem (by omega))] at hDn
    exact ⟨(k + 1, (os.set k ((((x.getD k []))))), (cs.set k v2), A ++ ([intsH 2 v2 ((((x.getD k []))))] ++ B), F1), _, (FLe.trans leG1 le1), (FLe.refl _), ⟨rfl, rfl, rfl, trivial⟩, (Sub.cons (Sub.refl _)), ⟨rfl, (FLe.trans leG1 le1), (hc2), (by (try dsimp only) <;> omega), (by dsimp only; rw [List.length_set]; exact hol), (by dsimp only; rw [take_set_any (by omega), hos, take_succ_getD [] (by omega)]), (hDn), ((Fresh.swap hZ leG1 (Fresh.one hz1) le1))⟩, (by omega)⟩
  · refine X.exit (thenQ_exit (thenQ_exit (blockQ_exit ?_)))
    refine X.seq ?_
    refine X.region ?_
    refine XL.cons (XOp.move (v1) rfl ?_)
    refine XL.cons (XOp.assign (v1) rfl ?_)
    refine XL.nil ?_
    refine X.freezeF [] _ _ rfl (fun F2 le2 hz2 => ?_)
    replace hx := hx.mono le2
    replace hc1 := hc1.mono le2
    replace hC := hC.mono le2
    have hf2 : RowsF F2 v1 os := CO.fz hC (by first | rfl | simp | omega) hz2.fz
    refine X.ret (retEnd (L' := L) [v1] (v1) (.tmp rfl .nil) rfl (FLe.trans leG1 le2) (FLe.refl _) (Sub.refl _) ?_)
    have e : os = x := by rw [← List.take_of_length_le (l := x) (i := k) (by omega), ← hos, List.take_of_length_le (by omega)]
    subst e
    exact ⟨_, rfl, hf2, Fresh.one (Fresh.deep hD hZ leG1 hz2 rfl le2), rfl⟩

/- laws.toSystem -/
theorem toSystem_spec {F : FH} {L : List HP} {arv : Value} {ar : List Int} (har : IntsF F arv ar) {rsv : Value} {rs : List (List Int × List Int)} (hrs : PairsF F rsv rs) (hla : ar.length ≤ 4000000) (hrl : rs.length ≤ 4000000) (hrb : ∀ i, i < rs.length → (rs.getD i ([], [])).1.length ≤ 4000000 ∧ (rs.getD i ([], [])).2.length ≤ 4000000) :
    Does Tryz.prog 12 [.agg #[arv, rsv]] F (L) (fun v F' L' => ∃ (a : Value), ∃ (b : Value), (.agg #[a, b] : Value) = v ∧ (IntsF F' a ar) ∧ (PairsF F' b rs) ∧ (Fresh F F' (star [intsH 2 a ar, pairsD 2 135 b rs])) ∧ L = L') := by
  refine Does.of_X Tryz.func12 rfl rfl rfl ?_
  refine X.seq ?_
  refine X.region ?_
  refine XL.cons (XOp.box [arv, rsv] rfl rfl ?_)
  intro b1
  refine XL.cons (XOp.alloc [(.slice none 0 0), (.slice none 0 0)] Tryz.zeroValue37 rfl ?_)
  intro b2
  refine XL.nil ?_
  refine X.seq ?_
  refine X.region ?_
  refine XL.cons (XOp.alloc [(.slice none 0 0), (.slice none 0 0)] Tryz.zeroValue37 rfl ?_)
  intro b3
  refine XL.nil ?_
  refine X.seq ?_
  refine X.region ?_
  refine XL.cons (XOp.fieldP (b := b1) (0) Tryz.runUnderlying27 rfl Tryz.sizeOf24 (by decide) rfl rfl ?_)
  refine XL.cons (XOp.loadN [arv] Tryz.isAgg24 Tryz.sizeOf24 rfl rfl (Rd.ownN [_, _] rfl rfl) ?_)
  refine XL.cons (XOp.call (args := [.agg #[arv]]) Tryz.call51 rfl (toSig_spec har (hlx := (by first | assumption | rfl | omega | (left; simp; done) | (right; simp; done)))) ?_)
  rintro _ F1 _ le1 ⟨x1, rfl, hr1, hr2, rfl⟩
  replace har := har.mono le1
  replace hrs := hrs.mono le1
  refine XL.cons (XOp.fieldP (b := b3) (0) Tryz.runUnderlying37 rfl Tryz.sizeOf34 (by decide) rfl rfl ?_)
  refine XL.cons (XOp.storeN (vs := [x1]) [] _ [x1, (.slice none 0 0)] Tryz.sizeOf34 rfl rfl rfl (ones_cons (one_sl (IntsF.isSl hr1)) ones_nil) rfl rfl rfl ?_)
  refine XL.nil ?_
  refine X.seq ?_
  refine X.region ?_
  refine XL.cons (XOp.fieldP (b := b1) (1) Tryz.runUnderlying27 rfl Tryz.sizeOf25 (by decide) rfl rfl ?_)
  refine XL.cons (XOp.load1 (v := rsv) Tryz.isAgg25 rfl (Rd.own [_, _] rfl rfl) ?_)
  refine XL.cons (XOp.call (args := [rsv]) Tryz.call52 rfl (toRuleS_spec hrs (hlx := (by first | assumption | rfl | omega | (left; simp; done) | (right; simp; done))) (hrb := (by first | assumption | rfl | omega | (left; simp; done) | (right; simp; done)))) ?_)
  rintro _ F2 _ le2 ⟨x2, rfl, hr3, hr4, rfl⟩
  replace har := har.mono le2
  replace hrs := hrs.mono le2
  replace hr1 := hr1.mono le2
  refine XL.cons (XOp.fieldP (b := b3) (1) Tryz.runUnderlying37 rfl Tryz.sizeOf35 (by decide) rfl rfl ?_)
  refine XL.cons (XOp.store1 (v := x2) [] _ [x1, x2] Tryz.sizeOf35 rfl rfl (one_sl (PairsF.isSl hr3)) rfl rfl rfl ?_)
  refine XL.nil ?_
  refine X.seq ?_
  refine X.region ?_
  refine XL.cons (XOp.loadN [x1, x2] Tryz.isAgg37 Tryz.sizeOf37 rfl rfl (Rd.ownN [] rfl rfl) ?_)
  refine XL.cons (XOp.storeN (vs := [x1, x2]) [_] _ [x1, x2] Tryz.sizeOf37 rfl rfl rfl (ones_cons (one_sl (IntsF.isSl hr1)) (ones_cons (one_sl (PairsF.isSl hr3)) ones_nil)) rfl rfl rfl ?_)
  refine XL.nil ?_
  refine X.ret (retEnd (L' := L) [.agg #[x1, x2]] (.agg #[x1, x2]) (.cell rfl (loadNV [x1, x2] Tryz.isAgg37 Tryz.sizeOf37 rfl (Rd.ownN [_] rfl rfl)) .nil) rfl (FLe.trans le1 le2) (FLe.refl _) (Sub.drop (Sub.drop (Sub.drop (Sub.refl _)))) ?_)
  exact ⟨_, _, rfl, hr1, hr3, (Fresh.app hr2 le1 hr4 le2), rfl⟩
end Go.Proofs.YtbooflphoaaoeaaGreat
