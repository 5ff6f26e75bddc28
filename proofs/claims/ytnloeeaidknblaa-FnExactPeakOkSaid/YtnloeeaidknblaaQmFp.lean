/-
  Walks: the statements' own helpers: copies.
-/
import Derived.Test.YtnloeeaidknblaaQmFo
import Derived.Test.YtnloeeaidknblaaX13
import Derived.Test.YtnloeeaidknblaaP8
set_option linter.unusedSimpArgs false
set_option linter.unusedVariables false
namespace Go.Proofs.Ytnloeeaidknblaa
open Go X M

/- laws.toSig -/
theorem toSig_spec {F : FH} {L : List HP} {xsv : Value} {xs : List Int} (hxs : IntsF F xsv xs) (hlx : xs.length ≤ 4000000) :
    Does Try.prog 63 [.agg #[xsv]] F (L) (fun v F' L' => ∃ (a : Value), (.agg #[a] : Value) = v ∧ (IntsF F' a xs) ∧ (Fresh F F' (star [intsH 2 a xs])) ∧ L = L') := by
  refine Does.of_X Try.func63 rfl rfl rfl ?_
  refine X.seq ?_
  refine X.region ?_
  refine XL.cons (XOp.box [xsv] rfl rfl ?_)
  intro b1
  refine XL.cons (XOp.alloc [(.slice none 0 0)] Try.zeroValue33 rfl ?_)
  intro b2
  refine XL.nil ?_
  refine X.seq ?_
  refine X.region ?_
  refine XL.cons (XOp.alloc [(.slice none 0 0)] Try.zeroValue33 rfl ?_)
  intro b3
  refine XL.nil ?_
  refine X.seq ?_
  refine X.region ?_
  refine XL.cons (XOp.fieldP (b := b1) (0) Try.runUnderlying24 rfl Try.sizeOf22 (by decide) rfl rfl ?_)
  refine XL.cons (XOp.load1 (v := xsv) Try.isAgg22 rfl (Rd.own [_, _] rfl rfl) ?_)
  refine XL.cons (XOp.frzF <| XOp.call (args := [xsv]) Try.call20 rfl (toInt64S_spec hxs (hlx := (by first | assumption | rfl | omega | (left; simp; done) | (right; simp; done)))) ?_)
  rintro v1 _ _ _ ⟨rfl, hs1, rfl⟩
  refine ⟨_, _, rfl, fun F1 le1 hz1 => ?_⟩
  replace hxs := hxs.mono le1
  have hf1 : IntsF F1 v1 ((xs)) := intsH.fz (xs := (xs)) hz1.fz
  refine XL.cons (XOp.fieldP (b := b3) (0) Try.runUnderlying33 rfl Try.sizeOf22 (by decide) rfl rfl ?_)
  refine XL.cons (XOp.store1 (v := v1) [] _ [v1] Try.sizeOf22 rfl rfl (one_sl (IntsF.isSl hf1)) rfl rfl rfl ?_)
  refine XL.nil ?_
  refine X.seq ?_
  refine X.region ?_
  refine XL.cons (XOp.loadN [v1] Try.isAgg33 Try.sizeOf33 rfl rfl (Rd.ownN [] rfl rfl) ?_)
  refine XL.cons (XOp.storeN (vs := [v1]) [_] _ [v1] Try.sizeOf33 rfl rfl rfl (ones_cons (one_sl (IntsF.isSl hf1)) ones_nil) rfl rfl rfl ?_)
  refine XL.nil ?_
  refine X.ret (retEnd (L' := L) [.agg #[v1]] (.agg #[v1]) (.cell rfl (loadNV [v1] Try.isAgg33 Try.sizeOf33 rfl (Rd.ownN [_] rfl rfl)) .nil) rfl le1 (FLe.refl _) (Sub.drop (Sub.drop (Sub.drop (Sub.refl _)))) ?_)
  exact ⟨_, rfl, hf1, (Fresh.one hz1), rfl⟩

/- laws.toRule -/
theorem toRule_spec {F : FH} {L : List HP} {lv : Value} {l : List Int} (hl : IntsF F lv l) {rv : Value} {r : List Int} (hr : IntsF F rv r) (hll : l.length ≤ 4000000) (hlr : r.length ≤ 4000000) :
    Does Try.prog 117 [.agg #[lv, rv]] F (L) (fun v F' L' => ∃ (a : Value), ∃ (b : Value), (.agg #[a, b] : Value) = v ∧ (IntsF F' a l) ∧ (IntsF F' b r) ∧ (Fresh F F' (star [intsH 2 a l, intsH 2 b r])) ∧ L = L') := by
  refine Does.of_X Try.func117 rfl rfl rfl ?_
  refine X.seq ?_
  refine X.region ?_
  refine XL.cons (XOp.box [lv, rv] rfl rfl ?_)
  intro b1
  refine XL.cons (XOp.alloc [(.slice none 0 0), (.slice none 0 0)] Try.zeroValue98 rfl ?_)
  intro b2
  refine XL.nil ?_
  refine X.seq ?_
  refine X.region ?_
  refine XL.cons (XOp.alloc [(.slice none 0 0), (.slice none 0 0)] Try.zeroValue98 rfl ?_)
  intro b3
  refine XL.nil ?_
  refine X.seq ?_
  refine X.region ?_
  refine XL.cons (XOp.fieldP (b := b1) (0) Try.runUnderlying149 rfl Try.sizeOf22 (by decide) rfl rfl ?_)
  refine XL.cons (XOp.load1 (v := lv) Try.isAgg22 rfl (Rd.own [_, _] rfl rfl) ?_)
  refine XL.cons (XOp.frzF <| XOp.call (args := [lv]) Try.call20 rfl (toInt64S_spec hl (hlx := (by first | assumption | rfl | omega | (left; simp; done) | (right; simp; done)))) ?_)
  rintro v1 _ _ _ ⟨rfl, hs1, rfl⟩
  refine ⟨_, _, rfl, fun F1 le1 hz1 => ?_⟩
  replace hl := hl.mono le1
  replace hr := hr.mono le1
  have hf1 : IntsF F1 v1 ((l)) := intsH.fz (xs := (l)) hz1.fz
  refine XL.cons (XOp.fieldP (b := b3) (0) Try.runUnderlying98 rfl Try.sizeOf22 (by decide) rfl rfl ?_)
  refine XL.cons (XOp.store1 (v := v1) [] _ [v1, (.slice none 0 0)] Try.sizeOf22 rfl rfl (one_sl (IntsF.isSl hf1)) rfl rfl rfl ?_)
  refine XL.nil ?_
  refine X.seq ?_
  refine X.region ?_
  refine XL.cons (XOp.fieldP (b := b1) (1) Try.runUnderlying149 rfl Try.sizeOf22 (by decide) rfl rfl ?_)
  refine XL.cons (XOp.load1 (v := rv) Try.isAgg22 rfl (Rd.own [_, _] rfl rfl) ?_)
  refine XL.cons (XOp.frzF <| XOp.call (args := [rv]) Try.call20 rfl (toInt64S_spec hr (hlx := (by first | assumption | rfl | omega | (left; simp; done) | (right; simp; done)))) ?_)
  rintro v2 _ _ _ ⟨rfl, hs2, rfl⟩
  refine ⟨_, _, rfl, fun F2 le2 hz2 => ?_⟩
  replace hl := hl.mono le2
  replace hr := hr.mono le2
  replace hf1 := hf1.mono le2
  have hf2 : IntsF F2 v2 ((r)) := intsH.fz (xs := (r)) hz2.fz
  refine XL.cons (XOp.fieldP (b := b3) (1) Try.runUnderlying98 rfl Try.sizeOf22 (by decide) rfl rfl ?_)
  refine XL.cons (XOp.store1 (v := v2) [] _ [v1, v2] Try.sizeOf22 rfl rfl (one_sl (IntsF.isSl hf2)) rfl rfl rfl ?_)
  refine XL.nil ?_
  refine X.seq ?_
  refine X.region ?_
  refine XL.cons (XOp.loadN [v1, v2] Try.isAgg98 Try.sizeOf98 rfl rfl (Rd.ownN [] rfl rfl) ?_)
  refine XL.cons (XOp.storeN (vs := [v1, v2]) [_] _ [v1, v2] Try.sizeOf98 rfl rfl rfl (ones_cons (one_sl (IntsF.isSl hf1)) (ones_cons (one_sl (IntsF.isSl hf2)) ones_nil)) rfl rfl rfl ?_)
  refine XL.nil ?_
  refine X.ret (retEnd (L' := L) [.agg #[v1, v2]] (.agg #[v1, v2]) (.cell rfl (loadNV [v1, v2] Try.isAgg98 Try.sizeOf98 rfl (Rd.ownN [_] rfl rfl)) .nil) rfl (FLe.trans le1 le2) (FLe.refl _) (Sub.drop (Sub.drop (Sub.drop (Sub.refl _)))) ?_)
  exact ⟨_, _, rfl, hf1, hf2, (Fresh.app (Fresh.one hz1) le1 (Fresh.one hz2) le2), rfl⟩

/- laws.toRuleS -/
theorem toRuleS_spec {F : FH} {L : List HP} {xv : Value} {x : List (List Int × List Int)} (hx : PairsF F xv x) (hlx : x.length ≤ 4000000) (hrb : ∀ i, i < x.length → (x.getD i ([], [])).1.length ≤ 4000000 ∧ (x.getD i ([], [])).2.length ≤ 4000000) :
    Does Try.prog 64 [xv] F (L) (fun v F' L' => ∃ (a : Value), (a : Value) = v ∧ (PairsF F' a x) ∧ (Fresh F F' (star [pairsD 2 98 a x])) ∧ L = L') := by
  refine Does.of_X Try.func64 rfl rfl rfl ?_
  refine X.seq ?_
  refine X.region ?_
  refine XL.cons (XOp.assign ((.slice none 0 0)) rfl ?_)
  refine XL.nil ?_
  refine X.seq ?_
  refine X.region ?_
  refine XL.cons (XOp.move (xv) rfl ?_)
  refine XL.cons (XOp.lenS (v := xv) (n := (x).length) Try.runUnderlying25 rfl hx.slv ?_)
  refine XL.cons (XOp.makeSlice (n := (x).length) (bytes := 48) [(.slice none 0 0), (.slice none 0 0)] Try.runUnderlying34 Try.sizeOf98 Try.typeInfo98 rfl Try.zeroValue98 rfl rfl rfl rfl (by omega) (by omega) ?_)
  intro v1 hv1
  obtain ⟨cs1, hq1, hc1⟩ : ∃ cs, ((List.range (((x).length) * 2)).map fun i => [Value.slice none 0 0, Value.slice none 0 0].toArray[i % [Value.slice none 0 0, Value.slice none 0 0].toArray.size]!) = cs ∧ PairsC F cs (List.replicate ((x).length) ([], []) : List (List Int × List Int)) := ⟨_, rfl, PairsC.nils _⟩
  rw [hq1]
  refine XL.cons (XOp.assign (v1) rfl ?_)
  refine XL.nil ?_
  refine X.seq ?_
  refine X.seq ?_
  refine X.region ?_
  refine XL.cons (XOp.assign (.int .i64 (0)) rfl ?_)
  refine XL.nil ?_
  refine X.block ?_
  obtain ⟨L0, hD0, hS0⟩ := deepNils2 2 x.length
  rw [hq1] at hD0
  refine X.loop (α := Nat × List (List Int × List Int) × List Value × List HP × FH) (fun xQ => [(0, xv), (3, v1), (4, .int .i64 (((xQ.1 : Nat) : Int)))]) (fun xQ => slH 98 2 v1 x.length xQ.2.2.1 :: L) (fun xQ F' => xQ.2.2.2.2 = F' ∧ F ≤ xQ.2.2.2.2 ∧ (PairsC xQ.2.2.2.2 xQ.2.2.1 xQ.2.1) ∧ (xQ.1 ≤ x.length) ∧ (xQ.2.1.length = x.length) ∧ (xQ.2.1.take xQ.1 = x.take xQ.1) ∧ (DeepL 2 (PairO 2) xQ.2.2.1 xQ.2.1 xQ.2.2.2.1) ∧ (Fresh F xQ.2.2.2.2 (star xQ.2.2.2.1))) (fun xQ => x.length - xQ.1) (0, (List.replicate ((x).length) ([], []) : List (List Int × List Int)), cs1, L0, F) ⟨rfl, rfl, rfl, trivial⟩ (Sub.cons (Sub.refl _)) ⟨rfl, FLe.refl _, (hc1), (by (try dsimp only) <;> omega), (by simp), (rfl), (hD0), (Fresh.empty hS0)⟩ ?_
  rintro ⟨k, os, cs, Ls, G1⟩ rE _ _ ⟨rfl, leG, hC, hk, hol, hos, hD, hZ⟩
  show X _ _ _ _ (envs [(0, xv), (3, v1), (4, .int .i64 (((k : Nat) : Int)))] rE) _ (slH 98 2 v1 x.length cs :: L)
  replace leG : F ≤ G1 := leG
  dsimp only at hC hk hol hos hD hZ
  have hrk := hrb k
  have leG1 := leG
  replace hx := hx.mono leG1
  replace hc1 := hc1.mono leG1
  refine X.seq ?_
  refine X.seq ?_
  refine X.region ?_
  refine XL.cons (XOp.move (.int .i64 (((k : Nat) : Int))) rfl ?_)
  refine XL.cons (XOp.move (xv) rfl ?_)
  refine XL.cons (XOp.lenS (v := xv) (n := (x).length) Try.runUnderlying25 rfl hx.slv ?_)
  refine XL.cons (XOp.lss (a := ((k : Nat) : Int)) (b := (((x).length : Nat) : Int)) rfl rfl ?_)
  refine XL.nil ?_
  refine X.condD (p := (((k : Nat) : Int) : Int) < (((x).length : Nat) : Int)) rfl (fun h1 => ?_) (fun h1 => ?_)
  · refine X.skip ?_
    refine X.seq ?_
    refine X.block ?_
    refine X.region ?_
    refine XL.cons (XOp.move (v1) rfl ?_)
    refine XL.cons (XOp.move (.int .i64 (((k : Nat) : Int))) rfl ?_)
    refine XL.cons (XOp.move (xv) rfl ?_)
    refine XL.cons (XOp.move (.int .i64 (((k : Nat) : Int))) rfl ?_)
    refine XL.cons (XOp.indexS (v := xv) (i := ((k : Nat) : Int)) (n := (x).length) k Try.runUnderlying25 Try.sizeOf149 rfl rfl rfl hx.slv (by omega) rfl ?_)
    obtain ⟨a1, a2, ha1, ha2, hr1, hr2⟩ := hx.rd (i := k) (by omega)
    refine XL.cons (XOp.loadN [a1, a2] Try.isAgg149 Try.sizeOf149 rfl rfl (Rd.two (hr1 _) (hr2 _)) ?_)
    refine XL.cons (XOp.call (args := [.agg #[a1, a2]]) Try.call117 rfl (toRule_spec ha1 ha2 (hll := (by first | assumption | rfl | omega | (left; simp; done) | (right; simp; done))) (hlr := (by first | assumption | rfl | omega | (left; simp; done) | (right; simp; done)))) ?_)
    rintro _ F1 _ le1 ⟨x1, x2, rfl, hr3, hr4, hr5, rfl⟩
    replace hx := hx.mono le1
    replace hc1 := hc1.mono le1
    replace hC := hC.mono le1
    replace ha1 := ha1.mono le1
    replace ha2 := ha2.mono le1
    replace hr1 := Rd.monoA hr1 le1
    replace hr2 := Rd.monoA hr2 le1
    refine XL.cons (XOp.indexS (v := v1) (i := ((k : Nat) : Int)) (n := x.length) k Try.runUnderlying34 Try.sizeOf98 rfl rfl rfl (SlV.own [] rfl) (by omega) rfl ?_)
    refine XL.cons (XOp.storeSN (i := k * 2) (m := 2) (vs := [x1, x2]) (cs := cs) [] _ Try.sizeOf98 rfl rfl rfl (ones_cons (one_sl (IntsF.isSl hr3)) (ones_cons (one_sl (IntsF.isSl hr4)) ones_nil)) rfl (show k * 2 + 2 ≤ _ from by have h9 := CO.len hC; (try simp only [List.length_set, List.length_replicate] at h9); omega) (Nat.succ_pos _) ?_)
    have hc2 := hC.set (j := k) (by (try simp only [List.length_set, List.length_replicate]); omega) hr3 hr4
    refine XL.nil ?_
    refine X.region ?_
    refine XL.cons (XOp.move (.int .i64 (((k : Nat) : Int))) rfl ?_)
    refine XL.cons (XOp.addR (a := ((k : Nat) : Int)) (b := 1) (((k + 1 : Nat) : Int)) rfl rfl (by omega) (by omega) ?_)
    refine XL.cons (XOp.assign (.int .i64 (((k + 1 : Nat) : Int))) rfl ?_)
    refine XL.nil ?_
    obtain ⟨A, K, B, es, hLs, hel, hR, hg, hput⟩ := hD.at (d := ([], [])) (k := k) (by omega)
    rw [hLs] at hZ
    have hDn := hput _ (((x.getD k ([], [])).1), ((x.getD k ([], [])).2)) [intsH 2 x1 (((x.getD k ([], [])).1)), intsH 2 x2 (((x.getD k ([], [])).2))] rfl ⟨_, _,  rfl, rfl⟩
    exact ⟨(k + 1, (os.set k (((x.getD k ([], [])).1), ((x.getD k ([], [])).2))), (cs.take (k * 2) ++ [x1, x2] ++ cs.drop (k * 2 + 2)), A ++ ([intsH 2 x1 (((x.getD k ([], [])).1)), intsH 2 x2 (((x.getD k ([], [])).2))] ++ B), F1), _, (FLe.trans leG1 le1), (FLe.refl _), ⟨rfl, rfl, rfl, trivial⟩, (Sub.cons (Sub.refl _)), ⟨rfl, (FLe.trans leG1 le1), (hc2), (by (try dsimp only) <;> omega), (by dsimp only; rw [List.length_set]; exact hol), (by dsimp only; rw [take_set_any (by omega), hos, take_succ_getD ([], []) (by omega)]), (hDn), ((Fresh.swap hZ leG1 hr5 le1))⟩, (by omega)⟩
  · refine X.exit (thenQ_exit (thenQ_exit (blockQ_exit ?_)))
    refine X.seq ?_
    refine X.region ?_
    refine XL.cons (XOp.move (v1) rfl ?_)
    refine XL.cons (XOp.assign (v1) rfl ?_)
    refine XL.nil ?_
    refine X.freezeF [] _ _ rfl (fun F2 le2 hz1 => ?_)
    replace hx := hx.mono le2
    replace hc1 := hc1.mono le2
    replace hC := hC.mono le2
    have hf1 : PairsF F2 v1 os := CO.fz hC (by first | rfl | simp | omega) hz1.fz
    refine X.ret (retEnd (L' := L) [v1] (v1) (.tmp rfl .nil) rfl (FLe.trans leG1 le2) (FLe.refl _) (Sub.refl _) ?_)
    have e : os = x := by rw [← List.take_of_length_le (l := x) (i := k) (by omega), ← hos, List.take_of_length_le (by omega)]
    subst e
    exact ⟨_, rfl, hf1, Fresh.one (Fresh.deep hD hZ leG1 hz1 rfl le2), rfl⟩

/- laws.toSystem -/
theorem toSystem_spec {F : FH} {L : List HP} {arv : Value} {ar : List Int} (har : IntsF F arv ar) {rsv : Value} {rs : List (List Int × List Int)} (hrs : PairsF F rsv rs) (hla : ar.length ≤ 4000000) (hrl : rs.length ≤ 4000000) (hrb : ∀ i, i < rs.length → (rs.getD i ([], [])).1.length ≤ 4000000 ∧ (rs.getD i ([], [])).2.length ≤ 4000000) :
    Does Try.prog 14 [.agg #[arv, rsv]] F (L) (fun v F' L' => ∃ (a : Value), ∃ (b : Value), (.agg #[a, b] : Value) = v ∧ (IntsF F' a ar) ∧ (PairsF F' b rs) ∧ (Fresh F F' (star [intsH 2 a ar, pairsD 2 98 b rs])) ∧ L = L') := by
  refine Does.of_X Try.func14 rfl rfl rfl ?_
  refine X.seq ?_
  refine X.region ?_
  refine XL.cons (XOp.box [arv, rsv] rfl rfl ?_)
  intro b1
  refine XL.cons (XOp.alloc [(.slice none 0 0), (.slice none 0 0)] Try.zeroValue36 rfl ?_)
  intro b2
  refine XL.nil ?_
  refine X.seq ?_
  refine X.region ?_
  refine XL.cons (XOp.alloc [(.slice none 0 0), (.slice none 0 0)] Try.zeroValue36 rfl ?_)
  intro b3
  refine XL.nil ?_
  refine X.seq ?_
  refine X.region ?_
  refine XL.cons (XOp.fieldP (b := b1) (0) Try.runUnderlying27 rfl Try.sizeOf24 (by decide) rfl rfl ?_)
  refine XL.cons (XOp.loadN [arv] Try.isAgg24 Try.sizeOf24 rfl rfl (Rd.ownN [_, _] rfl rfl) ?_)
  refine XL.cons (XOp.call (args := [.agg #[arv]]) Try.call63 rfl (toSig_spec har (hlx := (by first | assumption | rfl | omega | (left; simp; done) | (right; simp; done)))) ?_)
  rintro _ F1 _ le1 ⟨x1, rfl, hr1, hr2, rfl⟩
  replace har := har.mono le1
  replace hrs := hrs.mono le1
  refine XL.cons (XOp.fieldP (b := b3) (0) Try.runUnderlying36 rfl Try.sizeOf33 (by decide) rfl rfl ?_)
  refine XL.cons (XOp.storeN (vs := [x1]) [] _ [x1, (.slice none 0 0)] Try.sizeOf33 rfl rfl rfl (ones_cons (one_sl (IntsF.isSl hr1)) ones_nil) rfl rfl rfl ?_)
  refine XL.nil ?_
  refine X.seq ?_
  refine X.region ?_
  refine XL.cons (XOp.fieldP (b := b1) (1) Try.runUnderlying27 rfl Try.sizeOf25 (by decide) rfl rfl ?_)
  refine XL.cons (XOp.load1 (v := rsv) Try.isAgg25 rfl (Rd.own [_, _] rfl rfl) ?_)
  refine XL.cons (XOp.call (args := [rsv]) Try.call64 rfl (toRuleS_spec hrs (hlx := (by first | assumption | rfl | omega | (left; simp; done) | (right; simp; done))) (hrb := (by first | assumption | rfl | omega | (left; simp; done) | (right; simp; done)))) ?_)
  rintro _ F2 _ le2 ⟨x2, rfl, hr3, hr4, rfl⟩
  replace har := har.mono le2
  replace hrs := hrs.mono le2
  replace hr1 := hr1.mono le2
  refine XL.cons (XOp.fieldP (b := b3) (1) Try.runUnderlying36 rfl Try.sizeOf34 (by decide) rfl rfl ?_)
  refine XL.cons (XOp.store1 (v := x2) [] _ [x1, x2] Try.sizeOf34 rfl rfl (one_sl (PairsF.isSl hr3)) rfl rfl rfl ?_)
  refine XL.nil ?_
  refine X.seq ?_
  refine X.region ?_
  refine XL.cons (XOp.loadN [x1, x2] Try.isAgg36 Try.sizeOf36 rfl rfl (Rd.ownN [] rfl rfl) ?_)
  refine XL.cons (XOp.storeN (vs := [x1, x2]) [_] _ [x1, x2] Try.sizeOf36 rfl rfl rfl (ones_cons (one_sl (IntsF.isSl hr1)) (ones_cons (one_sl (PairsF.isSl hr3)) ones_nil)) rfl rfl rfl ?_)
  refine XL.nil ?_
  refine X.ret (retEnd (L' := L) [.agg #[x1, x2]] (.agg #[x1, x2]) (.cell rfl (loadNV [x1, x2] Try.isAgg36 Try.sizeOf36 rfl (Rd.ownN [_] rfl rfl)) .nil) rfl (FLe.trans le1 le2) (FLe.refl _) (Sub.drop (Sub.drop (Sub.drop (Sub.refl _)))) ?_)
  exact ⟨_, _, rfl, hr1, hr3, (Fresh.app hr2 le1 hr4 le2), rfl⟩
end Go.Proofs.Ytnloeeaidknblaa
