/-
  Walks: the statements' own helpers: copies.
-/
import Derived.Test.YtacbenjncjcglaaGreatQhFo
import Derived.Test.YtacbenjncjcglaaGreatX13
import Derived.Test.YtacbenjncjcglaaGreatP8
set_option linter.unusedSimpArgs false
set_option linter.unusedVariables false
namespace Go.Proofs.YtacbenjncjcglaaGreat
open Go X M

/- laws.toSig -/
theorem toSig_spec {F : FH} {L : List HP} {xsv : Value} {xs : List Int} (hxs : IntsF F xsv xs) (hlx : xs.length ≤ 4000000) :
    Does Tryz.prog 41 [.agg #[xsv]] F (L) (fun v F' L' => ∃ (a : Value), (.agg #[a] : Value) = v ∧ (IntsF F' a xs) ∧ (Fresh F F' (star [intsH 2 a xs])) ∧ L = L') := by
  refine Does.of_X Tryz.func41 rfl rfl rfl ?_
  refine X.seq ?_
  refine X.region ?_
  refine XL.cons (XOp.box [xsv] rfl rfl ?_)
  intro b1
  refine XL.cons (XOp.alloc [(.slice none 0 0)] Tryz.zeroValue42 rfl ?_)
  intro b2
  refine XL.nil ?_
  refine X.seq ?_
  refine X.region ?_
  refine XL.cons (XOp.alloc [(.slice none 0 0)] Tryz.zeroValue42 rfl ?_)
  intro b3
  refine XL.nil ?_
  refine X.seq ?_
  refine X.region ?_
  refine XL.cons (XOp.fieldP (b := b1) (0) Tryz.runUnderlying24 rfl Tryz.sizeOf22 (by decide) rfl rfl ?_)
  refine XL.cons (XOp.load1 (v := xsv) Tryz.isAgg22 rfl (Rd.own [_, _] rfl rfl) ?_)
  refine XL.cons (XOp.frzF <| XOp.call (args := [xsv]) Tryz.call43 rfl (toInt64S_spec hxs (hlx := (by first | assumption | rfl | omega | (left; simp; done) | (right; simp; done)))) ?_)
  rintro v1 _ _ _ ⟨rfl, hs1, rfl⟩
  refine ⟨_, _, rfl, fun F1 le1 hz1 => ?_⟩
  replace hxs := hxs.mono le1
  have hf1 : IntsF F1 v1 ((xs)) := intsH.fz (xs := (xs)) hz1.fz
  refine XL.cons (XOp.fieldP (b := b3) (0) Tryz.runUnderlying42 rfl Tryz.sizeOf22 (by decide) rfl rfl ?_)
  refine XL.cons (XOp.store1 (v := v1) [] _ [v1] Tryz.sizeOf22 rfl rfl (one_sl (IntsF.isSl hf1)) rfl rfl rfl ?_)
  refine XL.nil ?_
  refine X.seq ?_
  refine X.region ?_
  refine XL.cons (XOp.loadN [v1] Tryz.isAgg42 Tryz.sizeOf42 rfl rfl (Rd.ownN [] rfl rfl) ?_)
  refine XL.cons (XOp.storeN (vs := [v1]) [_] _ [v1] Tryz.sizeOf42 rfl rfl rfl (ones_cons (one_sl (IntsF.isSl hf1)) ones_nil) rfl rfl rfl ?_)
  refine XL.nil ?_
  refine X.ret (retEnd (L' := L) [.agg #[v1]] (.agg #[v1]) (.cell rfl (loadNV [v1] Tryz.isAgg42 Tryz.sizeOf42 rfl (Rd.ownN [_] rfl rfl)) .nil) rfl le1 (FLe.refl _) (Sub.drop (Sub.drop (Sub.drop (Sub.refl _)))) ?_)
  exact ⟨_, rfl, hf1, (Fresh.one hz1), rfl⟩

/- laws.toRule -/
theorem toRule_spec {F : FH} {L : List HP} {lv : Value} {l : List Int} (hl : IntsF F lv l) {rv : Value} {r : List Int} (hr : IntsF F rv r) (hll : l.length ≤ 4000000) (hlr : r.length ≤ 4000000) :
    Does Tryz.prog 87 [.agg #[lv, rv]] F (L) (fun v F' L' => ∃ (a : Value), ∃ (b : Value), (.agg #[a, b] : Value) = v ∧ (IntsF F' a l) ∧ (IntsF F' b r) ∧ (Fresh F F' (star [intsH 2 a l, intsH 2 b r])) ∧ L = L') := by
  refine Does.of_X Tryz.func87 rfl rfl rfl ?_
  refine X.seq ?_
  refine X.region ?_
  refine XL.cons (XOp.box [lv, rv] rfl rfl ?_)
  intro b1
  refine XL.cons (XOp.alloc [(.slice none 0 0), (.slice none 0 0)] Tryz.zeroValue110 rfl ?_)
  intro b2
  refine XL.nil ?_
  refine X.seq ?_
  refine X.region ?_
  refine XL.cons (XOp.alloc [(.slice none 0 0), (.slice none 0 0)] Tryz.zeroValue110 rfl ?_)
  intro b3
  refine XL.nil ?_
  refine X.seq ?_
  refine X.region ?_
  refine XL.cons (XOp.fieldP (b := b1) (0) Tryz.runUnderlying105 rfl Tryz.sizeOf22 (by decide) rfl rfl ?_)
  refine XL.cons (XOp.load1 (v := lv) Tryz.isAgg22 rfl (Rd.own [_, _] rfl rfl) ?_)
  refine XL.cons (XOp.frzF <| XOp.call (args := [lv]) Tryz.call43 rfl (toInt64S_spec hl (hlx := (by first | assumption | rfl | omega | (left; simp; done) | (right; simp; done)))) ?_)
  rintro v1 _ _ _ ⟨rfl, hs1, rfl⟩
  refine ⟨_, _, rfl, fun F1 le1 hz1 => ?_⟩
  replace hl := hl.mono le1
  replace hr := hr.mono le1
  have hf1 : IntsF F1 v1 ((l)) := intsH.fz (xs := (l)) hz1.fz
  refine XL.cons (XOp.fieldP (b := b3) (0) Tryz.runUnderlying110 rfl Tryz.sizeOf22 (by decide) rfl rfl ?_)
  refine XL.cons (XOp.store1 (v := v1) [] _ [v1, (.slice none 0 0)] Tryz.sizeOf22 rfl rfl (one_sl (IntsF.isSl hf1)) rfl rfl rfl ?_)
  refine XL.nil ?_
  refine X.seq ?_
  refine X.region ?_
  refine XL.cons (XOp.fieldP (b := b1) (1) Tryz.runUnderlying105 rfl Tryz.sizeOf22 (by decide) rfl rfl ?_)
  refine XL.cons (XOp.load1 (v := rv) Tryz.isAgg22 rfl (Rd.own [_, _] rfl rfl) ?_)
  refine XL.cons (XOp.frzF <| XOp.call (args := [rv]) Tryz.call43 rfl (toInt64S_spec hr (hlx := (by first | assumption | rfl | omega | (left; simp; done) | (right; simp; done)))) ?_)
  rintro v2 _ _ _ ⟨rfl, hs2, rfl⟩
  refine ⟨_, _, rfl, fun F2 le2 hz2 => ?_⟩
  replace hl := hl.mono le2
  replace hr := hr.mono le2
  replace hf1 := hf1.mono le2
  have hf2 : IntsF F2 v2 ((r)) := intsH.fz (xs := (r)) hz2.fz
  refine XL.cons (XOp.fieldP (b := b3) (1) Tryz.runUnderlying110 rfl Tryz.sizeOf22 (by decide) rfl rfl ?_)
  refine XL.cons (XOp.store1 (v := v2) [] _ [v1, v2] Tryz.sizeOf22 rfl rfl (one_sl (IntsF.isSl hf2)) rfl rfl rfl ?_)
  refine XL.nil ?_
  refine X.seq ?_
  refine X.region ?_
  refine XL.cons (XOp.loadN [v1, v2] Tryz.isAgg110 Tryz.sizeOf110 rfl rfl (Rd.ownN [] rfl rfl) ?_)
  refine XL.cons (XOp.storeN (vs := [v1, v2]) [_] _ [v1, v2] Tryz.sizeOf110 rfl rfl rfl (ones_cons (one_sl (IntsF.isSl hf1)) (ones_cons (one_sl (IntsF.isSl hf2)) ones_nil)) rfl rfl rfl ?_)
  refine XL.nil ?_
  refine X.ret (retEnd (L' := L) [.agg #[v1, v2]] (.agg #[v1, v2]) (.cell rfl (loadNV [v1, v2] Tryz.isAgg110 Tryz.sizeOf110 rfl (Rd.ownN [_] rfl rfl)) .nil) rfl (FLe.trans le1 le2) (FLe.refl _) (Sub.drop (Sub.drop (Sub.drop (Sub.refl _)))) ?_)
  exact ⟨_, _, rfl, hf1, hf2, (Fresh.app (Fresh.one hz1) le1 (Fresh.one hz2) le2), rfl⟩

/- laws.toStep -/
theorem toStep_spec {F : FH} {L : List HP} {i : Int} {j : Int} {lv : Value} {l : List Int} (hl : IntsF F lv l) (hll : l.length ≤ 4000000) :
    Does Tryz.prog 88 [.agg #[.int .i64 (i), .int .i64 (j), lv]] F (L) (fun v F' L' => ∃ (a : Value), (.agg #[.int .i64 (i), .int .i64 (j), a] : Value) = v ∧ (IntsF F' a l) ∧ (Fresh F F' (star [intsH 2 a l])) ∧ L = L') := by
  refine Does.of_X Tryz.func88 rfl rfl rfl ?_
  refine X.seq ?_
  refine X.region ?_
  refine XL.cons (XOp.box [.int .i64 (i), .int .i64 (j), lv] rfl rfl ?_)
  intro b1
  refine XL.cons (XOp.alloc [.int .i64 (0), .int .i64 (0), (.slice none 0 0)] Tryz.zeroValue78 rfl ?_)
  intro b2
  refine XL.nil ?_
  refine X.seq ?_
  refine X.region ?_
  refine XL.cons (XOp.alloc [.int .i64 (0), .int .i64 (0), (.slice none 0 0)] Tryz.zeroValue78 rfl ?_)
  intro b3
  refine XL.nil ?_
  refine X.seq ?_
  refine X.region ?_
  refine XL.cons (XOp.fieldP (b := b1) (0) Tryz.runUnderlying107 rfl Tryz.sizeOf2 (by decide) rfl rfl ?_)
  refine XL.cons (XOp.load1 (v := .int .i64 (i)) Tryz.isAgg2 rfl (Rd.own [_, _] rfl rfl) ?_)
  refine XL.cons (XOp.fieldP (b := b3) (0) Tryz.runUnderlying78 rfl Tryz.sizeOf2 (by decide) rfl rfl ?_)
  refine XL.cons (XOp.store1 (v := .int .i64 (i)) [] _ [.int .i64 (i), .int .i64 (0), (.slice none 0 0)] Tryz.sizeOf2 rfl rfl rfl rfl rfl rfl ?_)
  refine XL.nil ?_
  refine X.seq ?_
  refine X.region ?_
  refine XL.cons (XOp.fieldP (b := b1) (1) Tryz.runUnderlying107 rfl Tryz.sizeOf2 (by decide) rfl rfl ?_)
  refine XL.cons (XOp.load1 (v := .int .i64 (j)) Tryz.isAgg2 rfl (Rd.own [_, _] rfl rfl) ?_)
  refine XL.cons (XOp.fieldP (b := b3) (1) Tryz.runUnderlying78 rfl Tryz.sizeOf2 (by decide) rfl rfl ?_)
  refine XL.cons (XOp.store1 (v := .int .i64 (j)) [] _ [.int .i64 (i), .int .i64 (j), (.slice none 0 0)] Tryz.sizeOf2 rfl rfl rfl rfl rfl rfl ?_)
  refine XL.nil ?_
  refine X.seq ?_
  refine X.region ?_
  refine XL.cons (XOp.fieldP (b := b1) (2) Tryz.runUnderlying107 rfl Tryz.sizeOf22 (by decide) rfl rfl ?_)
  refine XL.cons (XOp.load1 (v := lv) Tryz.isAgg22 rfl (Rd.own [_, _] rfl rfl) ?_)
  refine XL.cons (XOp.frzF <| XOp.call (args := [lv]) Tryz.call43 rfl (toInt64S_spec hl (hlx := (by first | assumption | rfl | omega | (left; simp; done) | (right; simp; done)))) ?_)
  rintro v1 _ _ _ ⟨rfl, hs1, rfl⟩
  refine ⟨_, _, rfl, fun F1 le1 hz1 => ?_⟩
  replace hl := hl.mono le1
  have hf1 : IntsF F1 v1 ((l)) := intsH.fz (xs := (l)) hz1.fz
  refine XL.cons (XOp.fieldP (b := b3) (2) Tryz.runUnderlying78 rfl Tryz.sizeOf22 (by decide) rfl rfl ?_)
  refine XL.cons (XOp.store1 (v := v1) [] _ [.int .i64 (i), .int .i64 (j), v1] Tryz.sizeOf22 rfl rfl (one_sl (IntsF.isSl hf1)) rfl rfl rfl ?_)
  refine XL.nil ?_
  refine X.seq ?_
  refine X.region ?_
  refine XL.cons (XOp.loadN [.int .i64 (i), .int .i64 (j), v1] Tryz.isAgg78 Tryz.sizeOf78 rfl rfl (Rd.ownN [] rfl rfl) ?_)
  refine XL.cons (XOp.storeN (vs := [.int .i64 (i), .int .i64 (j), v1]) [_] _ [.int .i64 (i), .int .i64 (j), v1] Tryz.sizeOf78 rfl rfl rfl (ones_cons rfl (ones_cons rfl (ones_cons (one_sl (IntsF.isSl hf1)) ones_nil))) rfl rfl rfl ?_)
  refine XL.nil ?_
  refine X.ret (retEnd (L' := L) [.agg #[.int .i64 (i), .int .i64 (j), v1]] (.agg #[.int .i64 (i), .int .i64 (j), v1]) (.cell rfl (loadNV [.int .i64 (i), .int .i64 (j), v1] Tryz.isAgg78 Tryz.sizeOf78 rfl (Rd.ownN [_] rfl rfl)) .nil) rfl le1 (FLe.refl _) (Sub.drop (Sub.drop (Sub.drop (Sub.refl _)))) ?_)
  exact ⟨_, rfl, hf1, (Fresh.one hz1), rfl⟩

/- laws.toRuleS -/
theorem toRuleS_spec {F : FH} {L : List HP} {xv : Value} {x : List (List Int × List Int)} (hx : PairsF F xv x) (hlx : x.length ≤ 4000000) (hrb : ∀ i, i < x.length → (x.getD i ([], [])).1.length ≤ 4000000 ∧ (x.getD i ([], [])).2.length ≤ 4000000) :
    Does Tryz.prog 42 [xv] F (L) (fun v F' L' => ∃ (a : Value), (a : Value) = v ∧ (PairsF F' a x) ∧ (Fresh F F' (star [pairsD 2 110 a x])) ∧ L = L') := by
  refine Does.of_X Tryz.func42 rfl rfl rfl ?_
  refine X.seq ?_
  refine X.region ?_
  refine XL.cons (XOp.assign ((.slice none 0 0)) rfl ?_)
  refine XL.nil ?_
  refine X.seq ?_
  refine X.region ?_
  refine XL.cons (XOp.move (xv) rfl ?_)
  refine XL.cons (XOp.lenS (v := xv) (n := (x).length) Tryz.runUnderlying25 rfl hx.slv ?_)
  refine XL.cons (XOp.makeSlice (n := (x).length) (bytes := 48) [(.slice none 0 0), (.slice none 0 0)] Tryz.runUnderlying43 Tryz.sizeOf110 Tryz.typeInfo110 rfl Tryz.zeroValue110 rfl rfl rfl rfl (by omega) (by omega) ?_)
  intro v1 hv1
  obtain ⟨cs1, hq1, hc1⟩ : ∃ cs, ((List.range (((x).length) * 2)).map fun i => [Value.slice none 0 0, Value.slice none 0 0].toArray[i % [Value.slice none 0 0, Value.slice none 0 0].toArray.size]!) = cs ∧ PairsC F cs (List.replicate ((x).length) ([], []) : List (List Int × List Int)) := ⟨_, rfl, PairsC.nils _⟩
  rw [hq1]
  refine XL.cons (XOp.assign (v1) rfl ?_)
  refine XL.nil ?_
  refine X.seq ?_
  refine X.seq ?_
  refine X.region ?_
  refine XL.cons (XOp.assign (.int .i64 (0)) rfl ?_)
  refine XL.nil ?_
  refine X.block ?_
  obtain ⟨L0, hD0, hS0⟩ := deepNils2 2 x.length
  rw [hq1] at hD0
  refine X.loop (α := Nat × List (List Int × List Int) × List Value × List HP × FH) (fun xQ => [(0, xv), (3, v1), (4, .int .i64 (((xQ.1 : Nat) : Int)))]) (fun xQ => slH 110 2 v1 x.length xQ.2.2.1 :: L) (fun xQ F' => xQ.2.2.2.2 = F' ∧ F ≤ xQ.2.2.2.2 ∧ (PairsC xQ.2.2.2.2 xQ.2.2.1 xQ.2.1) ∧ (xQ.1 ≤ x.length) ∧ (xQ.2.1.length = x.length) ∧ (xQ.2.1.take xQ.1 = x.take xQ.1) ∧ (DeepL 2 (PairO 2) xQ.2.2.1 xQ.2.1 xQ.2.2.2.1) ∧ (Fresh F xQ.2.2.2.2 (star xQ.2.2.2.1))) (fun xQ => x.length - xQ.1) (0, (List.replicate ((x).length) ([], []) : List (List Int × List Int)), cs1, L0, F) ⟨rfl, rfl, rfl, trivial⟩ (Sub.cons (Sub.refl _)) ⟨rfl, FLe.refl _, (hc1), (by (try dsimp only) <;> omega), (by simp), (rfl), (hD0), (Fresh.empty hS0)⟩ ?_
  rintro ⟨k, os, cs, Ls, G1⟩ rE _ _ ⟨rfl, leG, hC, hk, hol, hos, hD, hZ⟩
  show X _ _ _ _ (envs [(0, xv), (3, v1), (4, .int .i64 (((k : Nat) : Int)))] rE) _ (slH 110 2 v1 x.length cs :: L)
  replace leG : F ≤ G1 := leG
  dsimp only at hC hk hol hos hD hZ
  have hrk := hrb k
  have leG1 := leG
  replace hx := hx.mono leG1
  replace hc1 := hc1.mono leG1
  refine X.seq ?_
  refine X.seq ?_
  refine X.region ?_
  refine XL.cons (XOp.move (.int .i64 (((k : Nat) : Int))) rfl ?_)
  refine XL.cons (XOp.move (xv) rfl ?_)
  refine XL.cons (XOp.lenS (v := xv) (n := (x).length) Tryz.runUnderlying25 rfl hx.slv ?_)
  refine XL.cons (XOp.lss (a := ((k : Nat) : Int)) (b := (((x).length : Nat) : Int)) rfl rfl ?_)
  refine XL.nil ?_
  refine X.condD (p := (((k : Nat) : Int) : Int) < (((x).length : Nat) : Int)) rfl (fun h1 => ?_) (fun h1 => ?_)
  · refine X.skip ?_
    refine X.seq ?_
    refine X.block ?_
    refine X.region ?_
    refine XL.cons (XOp.move (v1) rfl ?_)
    refine XL.cons (XOp.move (.int .i64 (((k : Nat) : Int))) rfl ?_)
    refine XL.cons (XOp.move (xv) rfl ?_)
    refine XL.cons (XOp.move (.int .i64 (((k : Nat) : Int))) rfl ?_)
    refine XL.cons (XOp.indexS (v := xv) (i := ((k : Nat) : Int)) (n := (x).length) k Tryz.runUnderlying25 Tryz.sizeOf105 rfl rfl rfl hx.slv (by omega) rfl ?_)
    obtain ⟨a1, a2, ha1, ha2, hr1, hr2⟩ := hx.rd (i := k) (by omega)
    refine XL.cons (XOp.loadN [a1, a2] Tryz.isAgg105 Tryz.sizeOf105 rfl rfl (Rd.two (hr1 _) (hr2 _)) ?_)
    refine XL.cons (XOp.call (args := [.agg #[a1, a2]]) Tryz.call87 rfl (toRule_spec ha1 ha2 (hll := (by first | assumption | rfl | omega | (left; simp; done) | (right; simp; done))) (hlr := (by first | assumption | rfl | omega | (left; simp; done) | (right; simp; done)))) ?_)
    rintro _ F1 _ le1 ⟨x1, x2, rfl, hr3, hr4, hr5, rfl⟩
    replace hx := hx.mono le1
    replace hc1 := hc1.mono le1
    replace hC := hC.mono le1
    replace ha1 := ha1.mono le1
    replace ha2 := ha2.mono le1
    replace hr1 := Rd.monoA hr1 le1
    replace hr2 := Rd.monoA hr2 le1
    refine XL.cons (XOp.indexS (v := v1) (i := ((k : Nat) : Int)) (n := x.length) k Tryz.runUnderlying43 Tryz.sizeOf110 rfl rfl rfl (SlV.own [] rfl) (by omega) rfl ?_)
    refine XL.cons (XOp.storeSN (i := k * 2) (m := 2) (vs := [x1, x2]) (cs := cs) [] _ Tryz.sizeOf110 rfl rfl rfl (ones_cons (one_sl (IntsF.isSl hr3)) (ones_cons (one_sl (IntsF.isSl hr4)) ones_nil)) rfl (show k * 2 + 2 ≤ _ from by have h9 := CO.len hC; (try simp only [List.length_set, List.length_replicate] at h9); omega) (Nat.succ_pos _) ?_)
    have hc2 := hC.set (j := k) (by (try simp only [List.length_set, List.length_replicate]); omega) hr3 hr4
    refine XL.nil ?_
    refine X.region ?_
    refine XL.cons (XOp.move (.int .i64 (((k : Nat) : Int))) rfl ?_)
    refine XL.cons (XOp.addR (a := ((k : Nat) : Int)) (b := 1) (((k + 1 : Nat) : Int)) rfl rfl (by omega) (by omega) ?_)
    refine XL.cons (XOp.assign (.int .i64 (((k + 1 : Nat) : Int))) rfl ?_)
    refine XL.nil ?_
    obtain ⟨A, K, B, es, hLs, hel, hR, hg, hput⟩ := hD.at (d := ([], [])) (k := k) (by omega)
    rw [hLs] at hZ
    have hDn := hput _ (((x.getD k ([], [])).1), ((x.getD k ([], [])).2)) [intsH 2 x1 (((x.getD k ([], [])).1)), intsH 2 x2 (((x.getD k ([], [])).2))] rfl ⟨_, _,  rfl, rfl⟩
    exact ⟨(k + 1, (os.set k (((x.getD k ([], [])).1), ((x.getD k ([], [])).2))), (cs.take (k * 2) ++ [x1, x2] ++ cs.drop (k * 2 + 2)), A ++ ([intsH 2 x1 (((x.getD k ([], [])).1)), intsH 2 x2 (((x.getD k ([], [])).2))] ++ B), F1), _, (FLe.trans leG1 le1), (FLe.refl _), ⟨rfl, rfl, rfl, trivial⟩, (Sub.cons (Sub.refl _)), ⟨rfl, (FLe.trans leG1 le1), (hc2), (by (try dsimp only) <;> omega), (by dsimp only; rw [List.length_set]; exact hol), (by dsimp only; rw [take_set_any (by omega), hos, take_succ_getD ([], []) (by omega)]), (hDn), ((Fresh.swap hZ leG1 hr5 le1))⟩, (by omega)⟩
  · refine X.exit (thenQ_exit (thenQ_exit (blockQ_exit ?_)))
    refine X.seq ?_
    refine X.region ?_
    refine XL.cons (XOp.move (v1) rfl ?_)
    refine XL.cons (XOp.assign (v1) rfl ?_)
    refine XL.nil ?_
    refine X.freezeF [] _ _ rfl (fun F2 le2 hz1 => ?_)
    replace hx := hx.mono le2
    replace hc1 := hc1.mono le2
    replace hC := hC.mono le2
    have hf1 : PairsF F2 v1 os := CO.fz hC (by first | rfl | simp | omega) hz1.fz
    refine X.ret (retEnd (L' := L) [v1] (v1) (.tmp rfl .nil) rfl (FLe.trans leG1 le2) (FLe.refl _) (Sub.refl _) ?_)
    have e : os = x := by rw [← List.take_of_length_le (l := x) (i := k) (by omega), ← hos, List.take_of_length_le (by omega)]
    subst e
    exact ⟨_, rfl, hf1, Fresh.one (Fresh.deep hD hZ leG1 hz1 rfl le2), rfl⟩

/- laws.toStepS -/
theorem toStepS_spec {F : FH} {L : List HP} {xv : Value} {x : List StepT} (hx : StepsF F xv x) (hlx : x.length ≤ 4000000) (hrb : ∀ i, i < x.length → (x.getD i (0, 0, [])).2.2.length ≤ 4000000) :
    Does Tryz.prog 44 [xv] F (L) (fun v F' L' => ∃ (a : Value), (a : Value) = v ∧ (StepsF F' a x) ∧ (Fresh F F' (star [stepsD 2 78 a x])) ∧ L = L') := by
  refine Does.of_X Tryz.func44 rfl rfl rfl ?_
  refine X.seq ?_
  refine X.region ?_
  refine XL.cons (XOp.assign ((.slice none 0 0)) rfl ?_)
  refine XL.nil ?_
  refine X.seq ?_
  refine X.region ?_
  refine XL.cons (XOp.move (xv) rfl ?_)
  refine XL.cons (XOp.lenS (v := xv) (n := (x).length) Tryz.runUnderlying28 rfl hx.slv ?_)
  refine XL.cons (XOp.makeSlice (n := (x).length) (bytes := 40) [.int .i64 (0), .int .i64 (0), (.slice none 0 0)] Tryz.runUnderlying37 Tryz.sizeOf78 Tryz.typeInfo78 rfl Tryz.zeroValue78 rfl rfl rfl rfl (by omega) (by omega) ?_)
  intro v1 hv1
  obtain ⟨cs1, hq1, hc1⟩ : ∃ cs, ((List.range (((x).length) * 3)).map fun i => [Value.int .i64 0, Value.int .i64 0, Value.slice none 0 0].toArray[i % [Value.int .i64 0, Value.int .i64 0, Value.slice none 0 0].toArray.size]!) = cs ∧ StepsC F cs (List.replicate ((x).length) (0, 0, []) : List StepT) := ⟨_, rfl, by obtain ⟨_, h1, h2⟩ := deepNils3 2 ((x).length); exact DeepL.stepsNil h1 h2⟩
  rw [hq1]
  refine XL.cons (XOp.assign (v1) rfl ?_)
  refine XL.nil ?_
  refine X.seq ?_
  refine X.seq ?_
  refine X.region ?_
  refine XL.cons (XOp.assign (.int .i64 (0)) rfl ?_)
  refine XL.nil ?_
  refine X.block ?_
  obtain ⟨L0, hD0, hS0⟩ := deepNils3 2 x.length
  rw [hq1] at hD0
  refine X.loop (α := Nat × List StepT × List Value × List HP × FH) (fun xQ => [(0, xv), (3, v1), (4, .int .i64 (((xQ.1 : Nat) : Int)))]) (fun xQ => slH 78 3 v1 x.length xQ.2.2.1 :: L) (fun xQ F' => xQ.2.2.2.2 = F' ∧ F ≤ xQ.2.2.2.2 ∧ (StepsC xQ.2.2.2.2 xQ.2.2.1 xQ.2.1) ∧ (xQ.1 ≤ x.length) ∧ (xQ.2.1.length = x.length) ∧ (xQ.2.1.take xQ.1 = x.take xQ.1) ∧ (DeepL 3 (StepO 2) xQ.2.2.1 xQ.2.1 xQ.2.2.2.1) ∧ (Fresh F xQ.2.2.2.2 (star xQ.2.2.2.1))) (fun xQ => x.length - xQ.1) (0, (List.replicate ((x).length) (0, 0, []) : List StepT), cs1, L0, F) ⟨rfl, rfl, rfl, trivial⟩ (Sub.cons (Sub.refl _)) ⟨rfl, FLe.refl _, (hc1), (by (try dsimp only) <;> omega), (by simp), (rfl), (hD0), (Fresh.empty hS0)⟩ ?_
  rintro ⟨k, os, cs, Ls, G1⟩ rE _ _ ⟨rfl, leG, hC, hk, hol, hos, hD, hZ⟩
  show X _ _ _ _ (envs [(0, xv), (3, v1), (4, .int .i64 (((k : Nat) : Int)))] rE) _ (slH 78 3 v1 x.length cs :: L)
  replace leG : F ≤ G1 := leG
  dsimp only at hC hk hol hos hD hZ
  have hrk := hrb k
  have leG1 := leG
  replace hx := hx.mono leG1
  replace hc1 := hc1.mono leG1
  refine X.seq ?_
  refine X.seq ?_
  refine X.region ?_
  refine XL.cons (XOp.move (.int .i64 (((k : Nat) : Int))) rfl ?_)
  refine XL.cons (XOp.move (xv) rfl ?_)
  refine XL.cons (XOp.lenS (v := xv) (n := (x).length) Tryz.runUnderlying28 rfl hx.slv ?_)
  refine XL.cons (XOp.lss (a := ((k : Nat) : Int)) (b := (((x).length : Nat) : Int)) rfl rfl ?_)
  refine XL.nil ?_
  refine X.condD (p := (((k : Nat) : Int) : Int) < (((x).length : Nat) : Int)) rfl (fun h1 => ?_) (fun h1 => ?_)
  · refine X.skip ?_
    refine X.seq ?_
    refine X.block ?_
    refine X.region ?_
    refine XL.cons (XOp.move (v1) rfl ?_)
    refine XL.cons (XOp.move (.int .i64 (((k : Nat) : Int))) rfl ?_)
    refine XL.cons (XOp.move (xv) rfl ?_)
    refine XL.cons (XOp.move (.int .i64 (((k : Nat) : Int))) rfl ?_)
    refine XL.cons (XOp.indexS (v := xv) (i := ((k : Nat) : Int)) (n := (x).length) k Tryz.runUnderlying28 Tryz.sizeOf107 rfl rfl rfl hx.slv (by omega) rfl ?_)
    obtain ⟨a1, ha1, hr1, hr2, hr3⟩ := hx.rd (i := k) (by omega)
    refine XL.cons (XOp.loadN [.int .i64 ((x.getD k (0, 0, [])).1), .int .i64 ((x.getD k (0, 0, [])).2.1), a1] Tryz.isAgg107 Tryz.sizeOf107 rfl rfl (Rd.three (hr1 _) (hr2 _) (hr3 _)) ?_)
    refine XL.cons (XOp.call (args := [.agg #[.int .i64 ((x.getD k (0, 0, [])).1), .int .i64 ((x.getD k (0, 0, [])).2.1), a1]]) Tryz.call88 rfl (toStep_spec ha1 (hll := (by first | assumption | rfl | omega | (left; simp; done) | (right; simp; done)))) ?_)
    rintro _ F1 _ le1 ⟨x1, rfl, hr4, hr5, rfl⟩
    replace hx := hx.mono le1
    replace hc1 := hc1.mono le1
    replace hC := hC.mono le1
    replace ha1 := ha1.mono le1
    replace hr1 := Rd.monoA hr1 le1
    replace hr2 := Rd.monoA hr2 le1
    replace hr3 := Rd.monoA hr3 le1
    refine XL.cons (XOp.indexS (v := v1) (i := ((k : Nat) : Int)) (n := x.length) k Tryz.runUnderlying37 Tryz.sizeOf78 rfl rfl rfl (SlV.own [] rfl) (by omega) rfl ?_)
    refine XL.cons (XOp.storeSN (i := k * 3) (m := 3) (vs := [.int .i64 (((x.getD k (0, 0, [])).1)), .int .i64 (((x.getD k (0, 0, [])).2.1)), x1]) (cs := cs) [] _ Tryz.sizeOf78 rfl rfl rfl (ones_cons rfl (ones_cons rfl (ones_cons (one_sl (IntsF.isSl hr4)) ones_nil))) rfl (show k * 3 + 3 ≤ _ from by have h9 := CO.len hC; (try simp only [List.length_set, List.length_replicate] at h9); omega) (Nat.succ_pos _) ?_)
    have hc2 := hC.set (j := k) (a := (((x.getD k (0, 0, [])).1))) (b := (((x.getD k (0, 0, [])).2.1))) (by (try simp only [List.length_set, List.length_replicate]); omega) hr4
    refine XL.nil ?_
    refine X.region ?_
    refine XL.cons (XOp.move (.int .i64 (((k : Nat) : Int))) rfl ?_)
    refine XL.cons (XOp.addR (a := ((k : Nat) : Int)) (b := 1) (((k + 1 : Nat) : Int)) rfl rfl (by omega) (by omega) ?_)
    refine XL.cons (XOp.assign (.int .i64 (((k + 1 : Nat) : Int))) rfl ?_)
    refine XL.nil ?_
    obtain ⟨A, K, B, es, hLs, hel, hR, hg, hput⟩ := hD.at (d := ((0 : Int), (0 : Int), ([] : List Int))) (k := k) (by omega)
    rw [hLs] at hZ
    have hDn := hput _ (((x.getD k (0, 0, [])).1), ((x.getD k (0, 0, [])).2.1), ((x.getD k (0, 0, [])).2.2)) [intsH 2 x1 (((x.getD k (0, 0, [])).2.2))] rfl ⟨_,  rfl, rfl⟩
    exact ⟨(k + 1, (os.set k (((x.getD k (0, 0, [])).1), ((x.getD k (0, 0, [])).2.1), ((x.getD k (0, 0, [])).2.2))), (cs.take (k * 3) ++ [.int .i64 (((x.getD k (0, 0, [])).1)), .int .i64 (((x.getD k (0, 0, [])).2.1)), x1] ++ cs.drop (k * 3 + 3)), A ++ ([intsH 2 x1 (((x.getD k (0, 0, [])).2.2))] ++ B), F1), _, (FLe.trans leG1 le1), (FLe.refl _), ⟨rfl, rfl, rfl, trivial⟩, (Sub.cons (Sub.refl _)), ⟨rfl, (FLe.trans leG1 le1), (hc2), (by (try dsimp only) <;> omega), (by dsimp only; rw [List.length_set]; exact hol), (by dsimp only; rw [take_set_any (by omega), hos, take_succ_getD ((0 : Int), (0 : Int), ([] : List Int)) (by omega)]), (hDn), ((Fresh.swap hZ leG1 hr5 le1))⟩, (by omega)⟩
  · refine X.exit (thenQ_exit (thenQ_exit (blockQ_exit ?_)))
    refine X.seq ?_
    refine X.region ?_
    refine XL.cons (XOp.move (v1) rfl ?_)
    refine XL.cons (XOp.assign (v1) rfl ?_)
    refine XL.nil ?_
    refine X.freezeF [] _ _ rfl (fun F2 le2 hz1 => ?_)
    replace hx := hx.mono le2
    replace hc1 := hc1.mono le2
    replace hC := hC.mono le2
    have hf1 : StepsF F2 v1 os := CO.fz hC (by first | rfl | simp | omega) hz1.fz
    refine X.ret (retEnd (L' := L) [v1] (v1) (.tmp rfl .nil) rfl (FLe.trans leG1 le2) (FLe.refl _) (Sub.refl _) ?_)
    have e : os = x := by rw [← List.take_of_length_le (l := x) (i := k) (by omega), ← hos, List.take_of_length_le (by omega)]
    subst e
    exact ⟨_, rfl, hf1, Fresh.one (Fresh.deep hD hZ leG1 hz1 rfl le2), rfl⟩

/- laws.toInt64SS -/
theorem toInt64SS_spec {F : FH} {L : List HP} {xv : Value} {x : List (List Int)} (hx : RowsF F xv x) (hlx : x.length ≤ 4000000) (hrb : ∀ i, i < x.length → (x.getD i []).length ≤ 4000000) :
    Does Tryz.prog 45 [xv] F (L) (fun v F' L' => ∃ (a : Value), (a : Value) = v ∧ (RowsF F' a x) ∧ (Fresh F F' (star [rowsD 2 22 a x])) ∧ L = L') := by
  refine Does.of_X Tryz.func45 rfl rfl rfl ?_
  refine X.seq ?_
  refine X.region ?_
  refine XL.cons (XOp.assign ((.slice none 0 0)) rfl ?_)
  refine XL.nil ?_
  refine X.seq ?_
  refine X.region ?_
  refine XL.cons (XOp.move (xv) rfl ?_)
  refine XL.cons (XOp.lenS (v := xv) (n := (x).length) Tryz.runUnderlying31 rfl hx.slv ?_)
  refine XL.cons (XOp.makeSlice (n := (x).length) (bytes := 24) [(.slice none 0 0)] Tryz.runUnderlying31 Tryz.sizeOf22 Tryz.typeInfo22 rfl Tryz.zeroValue22 rfl rfl rfl rfl (by omega) (by omega) ?_)
  intro v1 hv1
  rw [nils]
  have hc1 : RowsC F _ _ := RowsC.nils ((x).length)
  refine XL.cons (XOp.assign (v1) rfl ?_)
  refine XL.nil ?_
  refine X.seq ?_
  refine X.seq ?_
  refine X.region ?_
  refine XL.cons (XOp.assign (.int .i64 (0)) rfl ?_)
  refine XL.nil ?_
  refine X.block ?_
  obtain ⟨L0, hD0, hS0⟩ := deepNils1 2 x.length
  rw [nils] at hD0
  refine X.loop (α := Nat × List (List Int) × List Value × List HP × FH) (fun xQ => [(0, xv), (3, v1), (4, .int .i64 (((xQ.1 : Nat) : Int)))]) (fun xQ => slH 22 1 v1 x.length xQ.2.2.1 :: L) (fun xQ F' => xQ.2.2.2.2 = F' ∧ F ≤ xQ.2.2.2.2 ∧ (RowsC xQ.2.2.2.2 xQ.2.2.1 xQ.2.1) ∧ (xQ.1 ≤ x.length) ∧ (xQ.2.1.length = x.length) ∧ (xQ.2.1.take xQ.1 = x.take xQ.1) ∧ (DeepL 1 (RowO 2) xQ.2.2.1 xQ.2.1 xQ.2.2.2.1) ∧ (Fresh F xQ.2.2.2.2 (star xQ.2.2.2.1))) (fun xQ => x.length - xQ.1) (0, (List.replicate ((x).length) [] : List (List Int)), (List.replicate ((x).length) (Value.slice none 0 0)), L0, F) ⟨rfl, rfl, rfl, trivial⟩ (Sub.cons (Sub.refl _)) ⟨rfl, FLe.refl _, (hc1), (by (try dsimp only) <;> omega), (by simp), (rfl), (hD0), (Fresh.empty hS0)⟩ ?_
  rintro ⟨k, os, cs, Ls, G1⟩ rE _ _ ⟨rfl, leG, hC, hk, hol, hos, hD, hZ⟩
  show X _ _ _ _ (envs [(0, xv), (3, v1), (4, .int .i64 (((k : Nat) : Int)))] rE) _ (slH 22 1 v1 x.length cs :: L)
  replace leG : F ≤ G1 := leG
  dsimp only at hC hk hol hos hD hZ
  have hrk := hrb k
  have leG1 := leG
  replace hx := hx.mono leG1
  replace hc1 := hc1.mono leG1
  refine X.seq ?_
  refine X.seq ?_
  refine X.region ?_
  refine XL.cons (XOp.move (.int .i64 (((k : Nat) : Int))) rfl ?_)
  refine XL.cons (XOp.move (xv) rfl ?_)
  refine XL.cons (XOp.lenS (v := xv) (n := (x).length) Tryz.runUnderlying31 rfl hx.slv ?_)
  refine XL.cons (XOp.lss (a := ((k : Nat) : Int)) (b := (((x).length : Nat) : Int)) rfl rfl ?_)
  refine XL.nil ?_
  refine X.condD (p := (((k : Nat) : Int) : Int) < (((x).length : Nat) : Int)) rfl (fun h1 => ?_) (fun h1 => ?_)
  · refine X.skip ?_
    refine X.seq ?_
    refine X.block ?_
    refine X.region ?_
    refine XL.cons (XOp.move (v1) rfl ?_)
    refine XL.cons (XOp.move (.int .i64 (((k : Nat) : Int))) rfl ?_)
    refine XL.cons (XOp.move (xv) rfl ?_)
    refine XL.cons (XOp.move (.int .i64 (((k : Nat) : Int))) rfl ?_)
    refine XL.cons (XOp.indexS (v := xv) (i := ((k : Nat) : Int)) (n := (x).length) k Tryz.runUnderlying31 Tryz.sizeOf22 rfl rfl rfl hx.slv (by omega) (Nat.mul_one _) ?_)
    obtain ⟨a1, ha1, hr1⟩ := hx.rd (i := k) (by omega)
    refine XL.cons (XOp.load1 (v := a1) Tryz.isAgg22 rfl (hr1 _) ?_)
    refine XL.cons (XOp.frzF <| XOp.call (args := [a1]) Tryz.call43 rfl (toInt64S_spec ha1 (hlx := (by first | assumption | rfl | omega | (left; simp; done) | (right; simp; done)))) ?_)
    rintro v2 _ _ _ ⟨rfl, hs1, rfl⟩
    refine ⟨_, _, rfl, fun F1 le1 hz1 => ?_⟩
    replace hx := hx.mono le1
    replace hc1 := hc1.mono le1
    replace hC := hC.mono le1
    replace ha1 := ha1.mono le1
    replace hr1 := Rd.monoA hr1 le1
    have hf1 : IntsF F1 v2 ((((x.getD k [])))) := intsH.fz (xs := (((x.getD k [])))) hz1.fz
    refine XL.cons (XOp.indexS (v := v1) (i := ((k : Nat) : Int)) (n := x.length) k Tryz.runUnderlying31 Tryz.sizeOf22 rfl rfl rfl (SlV.own [] rfl) (by omega) (Nat.mul_one _) ?_)
    refine XL.cons (XOp.storeS (i := k) (cs := cs) [] _ Tryz.sizeOf22 rfl rfl (one_sl (IntsF.isSl hf1)) rfl (by have h9 := CO.len hC; (try simp only [List.length_set, List.length_replicate] at h9 ⊢) <;> omega) ?_)
    have hc2 := hC.set k hf1
    refine XL.nil ?_
    refine X.region ?_
    refine XL.cons (XOp.move (.int .i64 (((k : Nat) : Int))) rfl ?_)
    refine XL.cons (XOp.addR (a := ((k : Nat) : Int)) (b := 1) (((k + 1 : Nat) : Int)) rfl rfl (by omega) (by omega) ?_)
    refine XL.cons (XOp.assign (.int .i64 (((k + 1 : Nat) : Int))) rfl ?_)
    refine XL.nil ?_
    obtain ⟨A, K, B, es, hLs, hel, hR, hg, hput⟩ := hD.at (d := []) (k := k) (by omega)
    rw [hLs] at hZ
    have hDn := hput _ ((((x.getD k [])))) [intsH 2 v2 ((((x.getD k []))))] rfl ⟨_,  rfl, rfl⟩
    have hbd9 := hD.bound (k := k) (by omega)
    rw [Nat.mul_one, ← set_one (List.getElem?_eq_getElem (by omega))] at hDn
    exact ⟨(k + 1, (os.set k ((((x.getD k []))))), (cs.set k v2), A ++ ([intsH 2 v2 ((((x.getD k []))))] ++ B), F1), _, (FLe.trans leG1 le1), (FLe.refl _), ⟨rfl, rfl, rfl, trivial⟩, (Sub.cons (Sub.refl _)), ⟨rfl, (FLe.trans leG1 le1), (hc2), (by (try dsimp only) <;> omega), (by dsimp only; rw [List.length_set]; exact hol), (by dsimp only; rw [take_set_any (by omega), hos, take_succ_getD [] (by omega)]), (hDn), ((Fresh.swap hZ leG1 (Fresh.one hz1) le1))⟩, (by omega)⟩
  · refine X.exit (thenQ_exit (thenQ_exit (blockQ_exit ?_)))
    refine X.seq ?_
    refine X.region ?_
    refine XL.cons (XOp.move (v1) rfl ?_)
    refine XL.cons (XOp.assign (v1) rfl ?_)
    refine XL.nil ?_
    refine X.freezeF [] _ _ rfl (fun F2 le2 hz2 => ?_)
    replace hx := hx.mono le2
    replace hc1 := hc1.mono le2
    replace hC := hC.mono le2
    have hf2 : RowsF F2 v1 os := CO.fz hC (by first | rfl | simp | omega) hz2.fz
    refine X.ret (retEnd (L' := L) [v1] (v1) (.tmp rfl .nil) rfl (FLe.trans leG1 le2) (FLe.refl _) (Sub.refl _) ?_)
    have e : os = x := by rw [← List.take_of_length_le (l := x) (i := k) (by omega), ← hos, List.take_of_length_le (by omega)]
    subst e
    exact ⟨_, rfl, hf2, Fresh.one (Fresh.deep hD hZ leG1 hz2 rfl le2), rfl⟩

/- laws.toSystem -/
theorem toSystem_spec {F : FH} {L : List HP} {arv : Value} {ar : List Int} (har : IntsF F arv ar) {rsv : Value} {rs : List (List Int × List Int)} (hrs : PairsF F rsv rs) (hla : ar.length ≤ 4000000) (hrl : rs.length ≤ 4000000) (hrb : ∀ i, i < rs.length → (rs.getD i ([], [])).1.length ≤ 4000000 ∧ (rs.getD i ([], [])).2.length ≤ 4000000) :
    Does Tryz.prog 9 [.agg #[arv, rsv]] F (L) (fun v F' L' => ∃ (a : Value), ∃ (b : Value), (.agg #[a, b] : Value) = v ∧ (IntsF F' a ar) ∧ (PairsF F' b rs) ∧ (Fresh F F' (star [intsH 2 a ar, pairsD 2 110 b rs])) ∧ L = L') := by
  refine Does.of_X Tryz.func9 rfl rfl rfl ?_
  refine X.seq ?_
  refine X.region ?_
  refine XL.cons (XOp.box [arv, rsv] rfl rfl ?_)
  intro b1
  refine XL.cons (XOp.alloc [(.slice none 0 0), (.slice none 0 0)] Tryz.zeroValue45 rfl ?_)
  intro b2
  refine XL.nil ?_
  refine X.seq ?_
  refine X.region ?_
  refine XL.cons (XOp.alloc [(.slice none 0 0), (.slice none 0 0)] Tryz.zeroValue45 rfl ?_)
  intro b3
  refine XL.nil ?_
  refine X.seq ?_
  refine X.region ?_
  refine XL.cons (XOp.fieldP (b := b1) (0) Tryz.runUnderlying27 rfl Tryz.sizeOf24 (by decide) rfl rfl ?_)
  refine XL.cons (XOp.loadN [arv] Tryz.isAgg24 Tryz.sizeOf24 rfl rfl (Rd.ownN [_, _] rfl rfl) ?_)
  refine XL.cons (XOp.call (args := [.agg #[arv]]) Tryz.call41 rfl (toSig_spec har (hlx := (by first | assumption | rfl | omega | (left; simp; done) | (right; simp; done)))) ?_)
  rintro _ F1 _ le1 ⟨x1, rfl, hr1, hr2, rfl⟩
  replace har := har.mono le1
  replace hrs := hrs.mono le1
  refine XL.cons (XOp.fieldP (b := b3) (0) Tryz.runUnderlying45 rfl Tryz.sizeOf42 (by decide) rfl rfl ?_)
  refine XL.cons (XOp.storeN (vs := [x1]) [] _ [x1, (.slice none 0 0)] Tryz.sizeOf42 rfl rfl rfl (ones_cons (one_sl (IntsF.isSl hr1)) ones_nil) rfl rfl rfl ?_)
  refine XL.nil ?_
  refine X.seq ?_
  refine X.region ?_
  refine XL.cons (XOp.fieldP (b := b1) (1) Tryz.runUnderlying27 rfl Tryz.sizeOf25 (by decide) rfl rfl ?_)
  refine XL.cons (XOp.load1 (v := rsv) Tryz.isAgg25 rfl (Rd.own [_, _] rfl rfl) ?_)
  refine XL.cons (XOp.call (args := [rsv]) Tryz.call42 rfl (toRuleS_spec hrs (hlx := (by first | assumption | rfl | omega | (left; simp; done) | (right; simp; done))) (hrb := (by first | assumption | rfl | omega | (left; simp; done) | (right; simp; done)))) ?_)
  rintro _ F2 _ le2 ⟨x2, rfl, hr3, hr4, rfl⟩
  replace har := har.mono le2
  replace hrs := hrs.mono le2
  replace hr1 := hr1.mono le2
  refine XL.cons (XOp.fieldP (b := b3) (1) Tryz.runUnderlying45 rfl Tryz.sizeOf43 (by decide) rfl rfl ?_)
  refine XL.cons (XOp.store1 (v := x2) [] _ [x1, x2] Tryz.sizeOf43 rfl rfl (one_sl (PairsF.isSl hr3)) rfl rfl rfl ?_)
  refine XL.nil ?_
  refine X.seq ?_
  refine X.region ?_
  refine XL.cons (XOp.loadN [x1, x2] Tryz.isAgg45 Tryz.sizeOf45 rfl rfl (Rd.ownN [] rfl rfl) ?_)
  refine XL.cons (XOp.storeN (vs := [x1, x2]) [_] _ [x1, x2] Tryz.sizeOf45 rfl rfl rfl (ones_cons (one_sl (IntsF.isSl hr1)) (ones_cons (one_sl (PairsF.isSl hr3)) ones_nil)) rfl rfl rfl ?_)
  refine XL.nil ?_
  refine X.ret (retEnd (L' := L) [.agg #[x1, x2]] (.agg #[x1, x2]) (.cell rfl (loadNV [x1, x2] Tryz.isAgg45 Tryz.sizeOf45 rfl (Rd.ownN [_] rfl rfl)) .nil) rfl (FLe.trans le1 le2) (FLe.refl _) (Sub.drop (Sub.drop (Sub.drop (Sub.refl _)))) ?_)
  exact ⟨_, _, rfl, hr1, hr3, (Fresh.app hr2 le1 hr4 le2), rfl⟩

/- laws.toWalk -/
theorem toWalk_spec {F : FH} {L : List HP} {fv : Value} {f : List Int} (hf : IntsF F fv f) {ssv : Value} {ss : List StepT} (hss : StepsF F ssv ss) (hfl : f.length ≤ 4000000) (hsl : ss.length ≤ 4000000) (hsb : ∀ i, i < ss.length → (ss.getD i (0, 0, [])).2.2.length ≤ 4000000) :
    Does Tryz.prog 10 [.agg #[fv, ssv]] F (L) (fun v F' L' => ∃ (a : Value), ∃ (b : Value), (.agg #[a, b] : Value) = v ∧ (IntsF F' a f) ∧ (StepsF F' b ss) ∧ (Fresh F F' (star [intsH 2 a f, stepsD 2 78 b ss])) ∧ L = L') := by
  refine Does.of_X Tryz.func10 rfl rfl rfl ?_
  refine X.seq ?_
  refine X.region ?_
  refine XL.cons (XOp.box [fv, ssv] rfl rfl ?_)
  intro b1
  refine XL.cons (XOp.alloc [(.slice none 0 0), (.slice none 0 0)] Tryz.zeroValue39 rfl ?_)
  intro b2
  refine XL.nil ?_
  refine X.seq ?_
  refine X.region ?_
  refine XL.cons (XOp.alloc [(.slice none 0 0), (.slice none 0 0)] Tryz.zeroValue39 rfl ?_)
  intro b3
  refine XL.nil ?_
  refine X.seq ?_
  refine X.region ?_
  refine XL.cons (XOp.fieldP (b := b1) (0) Tryz.runUnderlying30 rfl Tryz.sizeOf22 (by decide) rfl rfl ?_)
  refine XL.cons (XOp.load1 (v := fv) Tryz.isAgg22 rfl (Rd.own [_, _] rfl rfl) ?_)
  refine XL.cons (XOp.frzF <| XOp.call (args := [fv]) Tryz.call43 rfl (toInt64S_spec hf (hlx := (by first | assumption | rfl | omega | (left; simp; done) | (right; simp; done)))) ?_)
  rintro v1 _ _ _ ⟨rfl, hs1, rfl⟩
  refine ⟨_, _, rfl, fun F1 le1 hz1 => ?_⟩
  replace hf := hf.mono le1
  replace hss := hss.mono le1
  have hf1 : IntsF F1 v1 ((f)) := intsH.fz (xs := (f)) hz1.fz
  refine XL.cons (XOp.fieldP (b := b3) (0) Tryz.runUnderlying39 rfl Tryz.sizeOf22 (by decide) rfl rfl ?_)
  refine XL.cons (XOp.store1 (v := v1) [] _ [v1, (.slice none 0 0)] Tryz.sizeOf22 rfl rfl (one_sl (IntsF.isSl hf1)) rfl rfl rfl ?_)
  refine XL.nil ?_
  refine X.seq ?_
  refine X.region ?_
  refine XL.cons (XOp.fieldP (b := b1) (1) Tryz.runUnderlying30 rfl Tryz.sizeOf28 (by decide) rfl rfl ?_)
  refine XL.cons (XOp.load1 (v := ssv) Tryz.isAgg28 rfl (Rd.own [_, _] rfl rfl) ?_)
  refine XL.cons (XOp.call (args := [ssv]) Tryz.call44 rfl (toStepS_spec hss (hlx := (by first | assumption | rfl | omega | (left; simp; done) | (right; simp; done))) (hrb := (by first | assumption | rfl | omega | (left; simp; done) | (right; simp; done)))) ?_)
  rintro _ F2 _ le2 ⟨x1, rfl, hr1, hr2, rfl⟩
  replace hf := hf.mono le2
  replace hss := hss.mono le2
  replace hf1 := hf1.mono le2
  refine XL.cons (XOp.fieldP (b := b3) (1) Tryz.runUnderlying39 rfl Tryz.sizeOf37 (by decide) rfl rfl ?_)
  refine XL.cons (XOp.store1 (v := x1) [] _ [v1, x1] Tryz.sizeOf37 rfl rfl (one_sl (StepsF.isSl hr1)) rfl rfl rfl ?_)
  refine XL.nil ?_
  refine X.seq ?_
  refine X.region ?_
  refine XL.cons (XOp.loadN [v1, x1] Tryz.isAgg39 Tryz.sizeOf39 rfl rfl (Rd.ownN [] rfl rfl) ?_)
  refine XL.cons (XOp.storeN (vs := [v1, x1]) [_] _ [v1, x1] Tryz.sizeOf39 rfl rfl rfl (ones_cons (one_sl (IntsF.isSl hf1)) (ones_cons (one_sl (StepsF.isSl hr1)) ones_nil)) rfl rfl rfl ?_)
  refine XL.nil ?_
  refine X.ret (retEnd (L' := L) [.agg #[v1, x1]] (.agg #[v1, x1]) (.cell rfl (loadNV [v1, x1] Tryz.isAgg39 Tryz.sizeOf39 rfl (Rd.ownN [_] rfl rfl)) .nil) rfl (FLe.trans le1 le2) (FLe.refl _) (Sub.drop (Sub.drop (Sub.drop (Sub.refl _)))) ?_)
  exact ⟨_, _, rfl, hf1, hr1, (Fresh.app (Fresh.one hz1) le1 hr2 le2), rfl⟩

/- laws.toSubst -/
theorem toSubst_spec {F : FH} {L : List HP} {sv : Value} {s : List (List Int)} (hs : RowsF F sv s) (hsl : s.length ≤ 4000000) (hsb : ∀ i, i < s.length → (s.getD i []).length ≤ 4000000) :
    Does Tryz.prog 11 [.agg #[sv]] F (L) (fun v F' L' => ∃ (a : Value), (.agg #[a] : Value) = v ∧ (RowsF F' a s) ∧ (Fresh F F' (star [rowsD 2 22 a s])) ∧ L = L') := by
  refine Does.of_X Tryz.func11 rfl rfl rfl ?_
  refine X.seq ?_
  refine X.region ?_
  refine XL.cons (XOp.box [sv] rfl rfl ?_)
  intro b1
  refine XL.cons (XOp.alloc [(.slice none 0 0)] Tryz.zeroValue48 rfl ?_)
  intro b2
  refine XL.nil ?_
  refine X.seq ?_
  refine X.region ?_
  refine XL.cons (XOp.alloc [(.slice none 0 0)] Tryz.zeroValue48 rfl ?_)
  intro b3
  refine XL.nil ?_
  refine X.seq ?_
  refine X.region ?_
  refine XL.cons (XOp.fieldP (b := b1) (0) Tryz.runUnderlying33 rfl Tryz.sizeOf31 (by decide) rfl rfl ?_)
  refine XL.cons (XOp.load1 (v := sv) Tryz.isAgg31 rfl (Rd.own [_, _] rfl rfl) ?_)
  refine XL.cons (XOp.call (args := [sv]) Tryz.call45 rfl (toInt64SS_spec hs (hlx := (by first | assumption | rfl | omega | (left; simp; done) | (right; simp; done))) (hrb := (by first | assumption | rfl | omega | (left; simp; done) | (right; simp; done)))) ?_)
  rintro _ F1 _ le1 ⟨x1, rfl, hr1, hr2, rfl⟩
  replace hs := hs.mono le1
  refine XL.cons (XOp.fieldP (b := b3) (0) Tryz.runUnderlying48 rfl Tryz.sizeOf31 (by decide) rfl rfl ?_)
  refine XL.cons (XOp.store1 (v := x1) [] _ [x1] Tryz.sizeOf31 rfl rfl (one_sl (RowsF.isSl hr1)) rfl rfl rfl ?_)
  refine XL.nil ?_
  refine X.seq ?_
  refine X.region ?_
  refine XL.cons (XOp.loadN [x1] Tryz.isAgg48 Tryz.sizeOf48 rfl rfl (Rd.ownN [] rfl rfl) ?_)
  refine XL.cons (XOp.storeN (vs := [x1]) [_] _ [x1] Tryz.sizeOf48 rfl rfl rfl (ones_cons (one_sl (RowsF.isSl hr1)) ones_nil) rfl rfl rfl ?_)
  refine XL.nil ?_
  refine X.ret (retEnd (L' := L) [.agg #[x1]] (.agg #[x1]) (.cell rfl (loadNV [x1] Tryz.isAgg48 Tryz.sizeOf48 rfl (Rd.ownN [_] rfl rfl)) .nil) rfl le1 (FLe.refl _) (Sub.drop (Sub.drop (Sub.drop (Sub.refl _)))) ?_)
  exact ⟨_, rfl, hr1, hr2, rfl⟩
end Go.Proofs.YtacbenjncjcglaaGreat
