/-
  Walks: the words that solve an equation; the statement SolutionsBy.
-/
import Derived.Test.YtbooflphoaaoeaaGreatQjFy
import Derived.Test.YtbooflphoaaoeaaGreatP16
import Derived.Test.YtbooflphoaaoeaaGreatX15
set_option linter.unusedSimpArgs false
set_option linter.unusedVariables false
namespace Go.Proofs.YtbooflphoaaoeaaGreat
open Go X M

/- impl.SolutionsBy -/
theorem SolutionsBy_spec {F : FH} {L : List HP} {arv : Value} {ar : List Int} (har : IntsF F arv ar) {rsv : Value} {rs : List (List Int × List Int)} (hrs : PairsF F rsv rs) {av : Value} {a : List Int} (ha : IntsF F av a) {bv : Value} {b : List Int} (hb : IntsF F bv b) {tsv : Value} {ts : List (List Int)} (hts : RowsF F tsv ts) {n : Int} (hlt : ts.length ≤ 4000000) :
    Does Tryz.prog 37 [.agg #[arv, rsv], av, bv, tsv, .int .i64 (n)] F (L) (fun v F' L' => ∃ (r : Value), (r : Value) = v ∧ (IntsF F' r (solL ar rs a b ts n)) ∧ (Fresh F F' (star [intsH 2 r (solL ar rs a b ts n)])) ∧ L = L') := by
  refine Does.of_X Tryz.func37 rfl rfl rfl ?_
  refine X.seq ?_
  refine X.region ?_
  refine XL.cons (XOp.box [arv, rsv] rfl rfl ?_)
  intro b1
  refine XL.cons (XOp.assign ((.slice none 0 0)) rfl ?_)
  refine XL.nil ?_
  refine X.seq ?_
  refine X.seq ?_
  refine X.region ?_
  refine XL.cons (XOp.move (tsv) rfl ?_)
  refine XL.cons (XOp.lenS (v := tsv) (n := (ts).length) Tryz.runUnderlying54 rfl hts.slv ?_)
  refine XL.cons (XOp.gtr (a := (((ts).length : Nat) : Int)) (b := 16) rfl rfl ?_)
  refine XL.cons (XOp.move (.bool (decide (((((ts).length : Nat) : Int) : Int) > 16))) rfl ?_)
  by_cases h1 : ((((ts).length : Nat) : Int) : Int) > 16
  · refine XL.no (t := 22) rfl (congrArg Value.bool (decide_eq_true h1)) ?_
    refine XL.no (t := 22) rfl (congrArg Value.bool (decide_eq_true h1)) ?_
    refine XL.no (t := 22) rfl (congrArg Value.bool (decide_eq_true h1)) ?_
    refine XL.no (t := 22) rfl (congrArg Value.bool (decide_eq_true h1)) ?_
    refine XL.no (t := 22) rfl (congrArg Value.bool (decide_eq_true h1)) ?_
    refine XL.no (t := 22) rfl (congrArg Value.bool (decide_eq_true h1)) ?_
    refine XL.no (t := 22) rfl (congrArg Value.bool (decide_eq_true h1)) ?_
    refine XL.cons (XOp.pickT (.bool (true)) (congrArg Value.bool (decide_eq_true h1)) rfl ?_)
    refine XL.cons (XOp.move (.bool (true)) rfl ?_)
    refine XL.no (t := 31) rfl rfl ?_
    refine XL.no (t := 31) rfl rfl ?_
    refine XL.no (t := 31) rfl rfl ?_
    refine XL.no (t := 31) rfl rfl ?_
    refine XL.no (t := 31) rfl rfl ?_
    refine XL.cons (XOp.pickT (.bool (true)) rfl rfl ?_)
    refine XL.nil ?_
    refine X.condT rfl ?_
    refine X.seq ?_
    refine X.region ?_
    refine XL.cons (XOp.assign ((.slice none 0 0)) rfl ?_)
    refine XL.nil ?_
    refine X.ret (thenQ_ret (retEnd (L' := L) [(.slice none 0 0)] ((.slice none 0 0)) (.tmp rfl .nil) rfl (FLe.refl _) (FLe.refl _) (Sub.drop (Sub.refl _)) ?_))
    have e9 : solL ar rs a b ts n = [] := by first | (refine solL_no1 ?_; omega) | (refine solL_no2 ?_; simpa using h2) | (refine solL_no3 ?_; simpa using h3)
    exact ⟨_, rfl, by rw [e9]; exact IntsF.nilV, by rw [e9]; exact Fresh.one (Fresh.ofNil _), rfl⟩
  · refine XL.yes (t := 22) rfl (congrArg Value.bool (decide_eq_false h1)) (XOp.loadN [arv, rsv] Tryz.isAgg37 Tryz.sizeOf37 rfl rfl (Rd.ownN [] rfl rfl) ?_)
    refine XL.yes (t := 22) rfl (congrArg Value.bool (decide_eq_false h1)) (XOp.move (.int .i64 (n)) rfl ?_)
    refine XL.yes (t := 22) rfl (congrArg Value.bool (decide_eq_false h1)) (XOp.move (av) rfl ?_)
    refine XL.yes (t := 22) rfl (congrArg Value.bool (decide_eq_false h1)) (XOp.move (bv) rfl ?_)
    refine XL.yes (t := 22) rfl (congrArg Value.bool (decide_eq_false h1)) (XOp.buildSlice (s := 1) [av, bv] [(.slice none 0 0)] [(0, [av]), (1, [bv])] Tryz.runUnderlying54 Tryz.sizeOf22 Tryz.zeroValue22 rfl (by decide) rfl (.cons (cells_one (IntsF.isSl ha)) (.cons (cells_one (IntsF.isSl hb)) CellsAre.nil)) rfl ?_)
    intro v1 hv1
    have hc1 : RowsC F [av, bv] ([a, b] : List (List Int)) := (RowsC.snoc (RowsC.snoc (CO.nil : RowsC F [] []) ha) hb)
    refine XL.freezeF [] _ _ rfl (fun F1 le1 hz1 => ?_)
    replace har := har.mono le1
    replace hrs := hrs.mono le1
    replace ha := ha.mono le1
    replace hb := hb.mono le1
    replace hts := hts.mono le1
    replace hc1 := hc1.mono le1
    have hf1 : RowsF F1 v1 (([a, b] : List (List Int))) := CO.fz hc1 (by first | rfl | simp | omega) hz1.fz
    refine XL.yes (t := 22) rfl (congrArg Value.bool (decide_eq_false h1)) (XOp.call (args := [.agg #[arv, rsv], .int .i64 (n), v1]) Tryz.call81 rfl (wordOk_spec (n := n) har hrs hf1 (hlt := (by first | assumption | rfl | omega | (left; simp; done) | (right; simp; done)))) ?_)
    rintro _ _ _ _ ⟨rfl, rfl, rfl⟩
    refine XL.yes (t := 22) rfl (congrArg Value.bool (decide_eq_false h1)) (XOp.notB (b := wordOkL ar rs n (([a, b] : List (List Int)))) rfl ?_)
    refine XL.cons (XOp.pickF (.bool (!(wordOkL ar rs n (([a, b] : List (List Int)))))) (congrArg Value.bool (decide_eq_false h1)) rfl ?_)
    refine XL.cons (XOp.move (.bool (!(wordOkL ar rs n (([a, b] : List (List Int)))))) rfl ?_)
    by_cases h2 : (!(wordOkL ar rs n (([a, b] : List (List Int))))) = true
    · refine XL.no (t := 31) rfl (congrArg Value.bool h2) ?_
      refine XL.no (t := 31) rfl (congrArg Value.bool h2) ?_
      refine XL.no (t := 31) rfl (congrArg Value.bool h2) ?_
      refine XL.no (t := 31) rfl (congrArg Value.bool h2) ?_
      refine XL.no (t := 31) rfl (congrArg Value.bool h2) ?_
      refine XL.cons (XOp.pickT (.bool (true)) (congrArg Value.bool h2) rfl ?_)
      refine XL.nil ?_
      refine X.condT rfl ?_
      refine X.seq ?_
      refine X.region ?_
      refine XL.cons (XOp.assign ((.slice none 0 0)) rfl ?_)
      refine XL.nil ?_
      refine X.ret (thenQ_ret (retEnd (L' := L) [(.slice none 0 0)] ((.slice none 0 0)) (.tmp rfl .nil) rfl le1 (FLe.refl _) (Sub.drop (Sub.refl _)) ?_))
      have e9 : solL ar rs a b ts n = [] := by first | (refine solL_no1 ?_; omega) | (refine solL_no2 ?_; simpa using h2) | (refine solL_no3 ?_; simpa using h3)
      exact ⟨_, rfl, by rw [e9]; exact IntsF.nilV, by rw [e9]; exact Fresh.one (Fresh.ofNil _), rfl⟩
    · rw [Bool.not_eq_true] at h2
      have hwo : wordOkL ar rs n [a, b] = true := by simpa using h2
      unfold wordOkL at hwo
      simp only [Bool.and_eq_true, decide_eq_true_eq, List.all_cons, List.all_nil] at hwo
      obtain ⟨⟨hsys, hn0⟩, hoa, hob, _⟩ := hwo
      refine XL.yes (t := 31) rfl (congrArg Value.bool h2) (XOp.loadN [arv, rsv] Tryz.isAgg37 Tryz.sizeOf37 rfl rfl (Rd.ownN [] rfl rfl) ?_)
      refine XL.yes (t := 31) rfl (congrArg Value.bool h2) (XOp.move (.int .i64 (n)) rfl ?_)
      refine XL.yes (t := 31) rfl (congrArg Value.bool h2) (XOp.move (tsv) rfl ?_)
      refine XL.yes (t := 31) rfl (congrArg Value.bool h2) (XOp.call (args := [.agg #[arv, rsv], .int .i64 (n), tsv]) Tryz.call81 rfl (wordOk_spec (n := n) har hrs hts (hlt := (by first | assumption | rfl | omega | (left; simp; done) | (right; simp; done)))) ?_)
      rintro _ _ _ _ ⟨rfl, rfl, rfl⟩
      refine XL.yes (t := 31) rfl (congrArg Value.bool h2) (XOp.notB (b := wordOkL ar rs n ts) rfl ?_)
      refine XL.cons (XOp.pickF (.bool (!(wordOkL ar rs n ts))) (congrArg Value.bool h2) rfl ?_)
      refine XL.nil ?_
      refine X.cond (t := !(wordOkL ar rs n ts)) rfl (fun h3 => ?_) (fun h3 => ?_)
      · refine X.seq ?_
        refine X.region ?_
        refine XL.cons (XOp.assign ((.slice none 0 0)) rfl ?_)
        refine XL.nil ?_
        refine X.ret (thenQ_ret (retEnd (L' := L) [(.slice none 0 0)] ((.slice none 0 0)) (.tmp rfl .nil) rfl le1 (FLe.refl _) (Sub.drop (Sub.refl _)) ?_))
        have e9 : solL ar rs a b ts n = [] := by first | (refine solL_no1 ?_; omega) | (refine solL_no2 ?_; simpa using h2) | (refine solL_no3 ?_; simpa using h3)
        exact ⟨_, rfl, by rw [e9]; exact IntsF.nilV, by rw [e9]; exact Fresh.one (Fresh.ofNil _), rfl⟩
      · have hwt : wordOkL ar rs n ts = true := by simpa using h3
        unfold wordOkL at hwt
        simp only [Bool.and_eq_true, decide_eq_true_eq] at hwt
        have hall := hwt.2
        have hok : solOk ar rs a b ts n = true := solOk_iff.2 ⟨hsys, hn0, hoa, hob, hall, by omega⟩
        have hal := termOk_len hoa
        have hbl := termOk_len hob
        have hag := fun k (hk : k < a.length) => termOk_ge hoa hk
        have hbg := fun k (hk : k < b.length) => termOk_ge hob hk
        refine X.skip ?_
        refine X.seq ?_
        refine X.region ?_
        refine XL.cons (XOp.assign ((.slice none 0 0)) rfl ?_)
        refine XL.nil ?_
        refine X.seq ?_
        refine X.seq ?_
        refine X.region ?_
        refine XL.cons (XOp.move (tsv) rfl ?_)
        refine XL.cons (XOp.lenS (v := tsv) (n := (ts).length) Tryz.runUnderlying54 rfl hts.slv ?_)
        refine XL.cons (XOp.move (.int .i64 (0)) rfl ?_)
        refine XL.nil ?_
        refine X.block ?_
        refine X.loop (α := Nat × Value × List Int × FH) (fun xQ => [(1, av), (2, bv), (4, .int .i64 (n)), (5, ptr b1 0), (11, xQ.2.1), (38, tsv), (39, .int .i64 ((((ts).length : Nat) : Int))), (40, .int .i64 (((xQ.1 : Nat) : Int)))]) (fun xQ => intsH 2 xQ.2.1 xQ.2.2.1 :: cellsH b1 [arv, rsv] 37 :: L) (fun xQ F' => xQ.2.2.2 = F' ∧ F1 ≤ xQ.2.2.2 ∧ (IsSl xQ.2.1) ∧ (xQ.1 ≤ ts.length) ∧ (xQ.2.2.1 = solTo ar rs a b ts n xQ.1)) (fun xQ => ts.length - xQ.1) (0, (.slice none 0 0), [], F1) ⟨rfl, rfl, rfl, rfl, rfl, rfl, rfl, rfl, trivial⟩ (Sub.trans (intsH.addNil 2 none _) (Sub.cons (Sub.cons (Sub.refl _)))) ⟨rfl, FLe.refl _, (⟨_, _, _, rfl⟩), (by (try dsimp only) <;> omega), (rfl)⟩ ?_
        rintro ⟨k, ov, os, G1⟩ rE _ _ ⟨rfl, leG, hov, hk, hos⟩
        show X _ _ _ _ (envs [(1, av), (2, bv), (4, .int .i64 (n)), (5, ptr b1 0), (11, ov), (38, tsv), (39, .int .i64 ((((ts).length : Nat) : Int))), (40, .int .i64 (((k : Nat) : Int)))] rE) _ (intsH 2 ov os :: cellsH b1 [arv, rsv] 37 :: L)
        replace leG : F1 ≤ G1 := leG
        dsimp only at hov hk hos
        have hol : os.length ≤ k := by rw [hos]; exact solTo_len
        have hot := fun (h : k < ts.length) => all_at hall h
        have htl9 := fun (h : k < ts.length) => termOk_len (all_at hall h)
        have leG1 := leG
        replace har := har.mono leG1
        replace hrs := hrs.mono leG1
        replace ha := ha.mono leG1
        replace hb := hb.mono leG1
        replace hts := hts.mono leG1
        replace hc1 := hc1.mono leG1
        replace hf1 := hf1.mono leG1
        refine X.seq ?_
        refine X.region ?_
        refine XL.cons (XOp.lss (a := ((k : Nat) : Int)) (b := (((ts).length : Nat) : Int)) rfl rfl ?_)
        refine XL.nil ?_
        refine X.seq ?_
        refine X.condD (p := (((k : Nat) : Int) : Int) < (((ts).length : Nat) : Int)) rfl (fun h4 => ?_) (fun h4 => ?_)
        · refine X.skip ?_
          refine X.seq ?_
          refine X.block ?_
          refine X.seq ?_
          refine X.region ?_
          refine XL.cons (XOp.move (.int .i64 (((k : Nat) : Int))) rfl ?_)
          refine XL.cons (XOp.indexS (v := tsv) (i := ((k : Nat) : Int)) (n := (ts).length) k Tryz.runUnderlying54 Tryz.sizeOf22 rfl rfl rfl hts.slv (by omega) (Nat.mul_one _) ?_)
          obtain ⟨a1, ha1, hr1⟩ := hts.rd (i := k) (by omega)
          refine XL.cons (XOp.load1 (v := a1) Tryz.isAgg22 rfl (hr1 _) ?_)
          refine XL.cons (XOp.assign (.int .i64 (((k : Nat) : Int))) rfl ?_)
          refine XL.cons (XOp.assign (a1) rfl ?_)
          refine XL.nil ?_
          refine X.seq ?_
          refine X.region ?_
          refine XL.cons (XOp.move (a1) rfl ?_)
          refine XL.cons (XOp.buildSlice (s := 1) [a1] [(.slice none 0 0)] [(0, [a1])] Tryz.runUnderlying54 Tryz.sizeOf22 Tryz.zeroValue22 rfl (by decide) rfl (.cons (cells_one (IntsF.isSl ha1)) CellsAre.nil) rfl ?_)
          intro v2 hv2
          refine XL.cons (XOp.build [v2] [(.slice none 0 0)] [(0, 1)] [(0, [v2])] Tryz.runUnderlying118 Tryz.zeroValue118 rfl (.cons rfl Tryz.sizeOf54 PlacesAre.nil) rfl (.cons (cells_one (isSl_lit hv2)) CellsAre.nil) ?_)
          refine XL.cons (XOp.alloc [(.slice none 0 0)] Tryz.zeroValue118 rfl ?_)
          intro b2
          refine XL.cons (XOp.storeN (vs := [v2]) [] _ [v2] Tryz.sizeOf118 rfl rfl rfl (ones_cons (one_sl (isSl_lit hv2)) ones_nil) rfl rfl rfl ?_)
          refine XL.nil ?_
          refine X.seq ?_
          refine X.region ?_
          refine XL.cons (XOp.loadN [v2] Tryz.isAgg118 Tryz.sizeOf118 rfl rfl (Rd.ownN [] rfl rfl) ?_)
          refine XL.cons (XOp.move (av) rfl ?_)
          have hc2 : RowsC G1 [a1] ([(ts.getD k [])] : List (List Int)) := (RowsC.snoc (CO.nil : RowsC G1 [] []) ha1)
          refine XL.freezeF [_] _ _ rfl (fun F2 le2 hz2 => ?_)
          replace har := har.mono le2
          replace hrs := hrs.mono le2
          replace ha := ha.mono le2
          replace hb := hb.mono le2
          replace hts := hts.mono le2
          replace hc1 := hc1.mono le2
          replace hf1 := hf1.mono le2
          replace ha1 := ha1.mono le2
          replace hc2 := hc2.mono le2
          replace hr1 := Rd.monoA hr1 le2
          have hf2 : RowsF F2 v2 (([(ts.getD k [])] : List (List Int))) := CO.fz hc2 (by first | rfl | simp | omega) hz2.fz
          refine XL.cons (XOp.call (args := [.agg #[v2], av]) Tryz.call89 rfl (fill_spec hf2 ha (hsl := (by simp)) (hsb := (fun i => by have := rows1_len (hot (by omega)) i; omega)) (htl := (by omega)) (htg := (by first | (exact fun k hk => by have := hag k hk; omega) | (exact fun k hk => by have := hbg k hk; omega)))) ?_)
          rintro _ F3 _ le3 ⟨x1, rfl, hr2, hr3, rfl⟩
          replace har := har.mono le3
          replace hrs := hrs.mono le3
          replace ha := ha.mono le3
          replace hb := hb.mono le3
          replace hts := hts.mono le3
          replace hc1 := hc1.mono le3
          replace hf1 := hf1.mono le3
          replace ha1 := ha1.mono le3
          replace hc2 := hc2.mono le3
          replace hf2 := hf2.mono le3
          replace hr1 := Rd.monoA hr1 le3
          refine XL.cons (XOp.move (.tuple #[x1, .bool ((fillL (([(ts.getD k [])] : List (List Int))) a).isSome)]) rfl ?_)
          refine XL.cons (XOp.extract (x1) rfl rfl ?_)
          refine XL.cons (XOp.extract (.bool ((fillL (([(ts.getD k [])] : List (List Int))) a).isSome)) rfl rfl ?_)
          refine XL.cons (XOp.assign (x1) rfl ?_)
          refine XL.cons (XOp.assign (.bool ((fillL (([(ts.getD k [])] : List (List Int))) a).isSome)) rfl ?_)
          refine XL.nil ?_
          refine X.seq ?_
          refine X.region ?_
          refine XL.cons (XOp.loadN [v2] Tryz.isAgg118 Tryz.sizeOf118 rfl rfl (Rd.ownN [] rfl rfl) ?_)
          refine XL.cons (XOp.move (bv) rfl ?_)
          refine XL.cons (XOp.call (args := [.agg #[v2], bv]) Tryz.call89 rfl (fill_spec hf2 hb (hsl := (by simp)) (hsb := (fun i => by have := rows1_len (hot (by omega)) i; omega)) (htl := (by omega)) (htg := (by first | (exact fun k hk => by have := hag k hk; omega) | (exact fun k hk => by have := hbg k hk; omega)))) ?_)
          rintro _ F4 _ le4 ⟨x2, rfl, hr4, hr5, rfl⟩
          replace har := har.mono le4
          replace hrs := hrs.mono le4
          replace ha := ha.mono le4
          replace hb := hb.mono le4
          replace hts := hts.mono le4
          replace hc1 := hc1.mono le4
          replace hf1 := hf1.mono le4
          replace ha1 := ha1.mono le4
          replace hc2 := hc2.mono le4
          replace hf2 := hf2.mono le4
          replace hr2 := hr2.mono le4
          replace hr1 := Rd.monoA hr1 le4
          refine XL.cons (XOp.move (.tuple #[x2, .bool ((fillL (([(ts.getD k [])] : List (List Int))) b).isSome)]) rfl ?_)
          refine XL.cons (XOp.extract (x2) rfl rfl ?_)
          refine XL.cons (XOp.extract (.bool ((fillL (([(ts.getD k [])] : List (List Int))) b).isSome)) rfl rfl ?_)
          refine XL.cons (XOp.assign (x2) rfl ?_)
          refine XL.cons (XOp.assign (.bool ((fillL (([(ts.getD k [])] : List (List Int))) b).isSome)) rfl ?_)
          refine XL.nil ?_
          refine X.seq ?_
          refine X.region ?_
          refine XL.cons (XOp.move (.bool ((fillL (([(ts.getD k [])] : List (List Int))) a).isSome)) rfl ?_)
          refine XL.cons (XOp.move (.bool ((fillL (([(ts.getD k [])] : List (List Int))) a).isSome)) rfl ?_)
          by_cases h5 : ((fillL (([(ts.getD k [])] : List (List Int))) a).isSome) = true
          · refine XL.yes (t := 61) rfl (congrArg Value.bool h5) (XOp.move (.bool ((fillL (([(ts.getD k [])] : List (List Int))) b).isSome)) rfl ?_)
            refine XL.cons (XOp.pickT (.bool ((fillL (([(ts.getD k [])] : List (List Int))) b).isSome)) (congrArg Value.bool h5) rfl ?_)
            refine XL.cons (XOp.move (.bool ((fillL (([(ts.getD k [])] : List (List Int))) b).isSome)) rfl ?_)
            by_cases h6 : ((fillL (([(ts.getD k [])] : List (List Int))) b).isSome) = true
            · refine XL.yes (t := 64) rfl (congrArg Value.bool h6) (XOp.loadN [arv, rsv] Tryz.isAgg37 Tryz.sizeOf37 rfl rfl (Rd.ownN [_, _] rfl rfl) ?_)
              refine XL.yes (t := 64) rfl (congrArg Value.bool h6) (XOp.move (x1) rfl ?_)
              refine XL.yes (t := 64) rfl (congrArg Value.bool h6) (XOp.move (x2) rfl ?_)
              refine XL.yes (t := 64) rfl (congrArg Value.bool h6) (XOp.move (.int .i64 (n)) rfl ?_)
              refine XL.yes (t := 64) rfl (congrArg Value.bool h6) (XOp.call (args := [.agg #[arv, rsv], x1, x2, .int .i64 (((n).toNat : Nat) : Int)]) Tryz.call75 (by rw [show (((n).toNat : Nat) : Int) = n from by omega]; rfl) (equalBy_spec (n := (n).toNat) har hrs hr2 hr4 (hsys := (by first | assumption | rfl | omega | (left; simp; done) | (right; simp; done))) (hoa := (fill1 (hot (by omega)) hoa (by assumption))) (hob := (fill1 (hot (by omega)) hob (by assumption))) (hn := (by first | assumption | rfl | omega | (left; simp; done) | (right; simp; done)))) ?_)
              rintro _ _ _ _ ⟨rfl, rfl, rfl⟩
              refine XL.yes (t := 64) rfl (congrArg Value.bool h6) (XOp.eql (a := eqN ar rs ((fillL (([(ts.getD k [])] : List (List Int))) a).getD []) ((fillL (([(ts.getD k [])] : List (List Int))) b).getD []) ((n).toNat)) (b := 1) rfl rfl ?_)
              refine XL.cons (XOp.pickT (.bool (decide ((eqN ar rs ((fillL (([(ts.getD k [])] : List (List Int))) a).getD []) ((fillL (([(ts.getD k [])] : List (List Int))) b).getD []) ((n).toNat) : Int) = 1))) (congrArg Value.bool h6) rfl ?_)
              refine XL.nil ?_
              refine X.condD (p := (eqN ar rs ((fillL (([(ts.getD k [])] : List (List Int))) a).getD []) ((fillL (([(ts.getD k [])] : List (List Int))) b).getD []) ((n).toNat) : Int) = 1) rfl (fun h7 => ?_) (fun h7 => ?_)
              · refine X.region ?_
                refine XL.cons (XOp.move (ov) rfl ?_)
                refine XL.cons (XOp.move (.int .i64 (((k : Nat) : Int))) rfl ?_)
                refine XL.cons (XOp.buildSlice (s := 1) [.int .i64 (((k : Nat) : Int))] [.int .i64 (0)] [(0, [.int .i64 (((k : Nat) : Int))])] Tryz.runUnderlying22 Tryz.sizeOf2 Tryz.zeroValue2 rfl (by decide) rfl (.cons rfl CellsAre.nil) rfl ?_)
                intro v3 hv3
                refine XL.cons (XOp.append1 (u := ((k : Nat) : Int)) [_, _] _ Tryz.runUnderlying22 Tryz.typeInfo2 rfl rfl rfl rfl rfl rfl (SlV.own [] rfl) (Rd.sl [] rfl rfl) (by (try simp only [List.length_append, List.length_nil, List.length_cons, List.length_singleton, List.length_take, List.length_drop]); omega) ?_)
                intro v4 hs1 hn1
                refine XL.cons (XOp.assign (v4) rfl ?_)
                refine XL.nil ?_
                refine X.region ?_
                refine XL.cons (XOp.addR (a := ((k : Nat) : Int)) (b := 1) (((k + 1 : Nat) : Int)) rfl rfl (by omega) (by omega) ?_)
                refine XL.cons (XOp.move (.int .i64 (((k + 1 : Nat) : Int))) rfl ?_)
                refine XL.nil ?_
                exact ⟨(k + 1, v4, os ++ [((k : Nat) : Int)], F4), _, (FLe.trans (FLe.trans (FLe.trans leG1 le2) le3) le4), (FLe.refl _), ⟨rfl, rfl, rfl, rfl, rfl, rfl, rfl, rfl, trivial⟩, (Sub.drop (Sub.drop (Sub.cons (Sub.cons (Sub.refl _))))), ⟨rfl, (FLe.trans (FLe.trans (FLe.trans leG1 le2) le3) le4), (hs1), (by (try dsimp only) <;> omega), ((by dsimp only; rw [hos]; first | exact (solTo_yes (by unfold sol1; simp_all)).symm | exact (solTo_no (by unfold sol1; simp_all)).symm))⟩, (by omega)⟩
              · refine X.skip ?_
                refine X.region ?_
                refine XL.cons (XOp.addR (a := ((k : Nat) : Int)) (b := 1) (((k + 1 : Nat) : Int)) rfl rfl (by omega) (by omega) ?_)
                refine XL.cons (XOp.move (.int .i64 (((k + 1 : Nat) : Int))) rfl ?_)
                refine XL.nil ?_
                exact ⟨(k + 1, ov, os, F4), _, (FLe.trans (FLe.trans (FLe.trans leG1 le2) le3) le4), (FLe.refl _), ⟨rfl, rfl, rfl, rfl, rfl, rfl, rfl, rfl, trivial⟩, (Sub.drop (Sub.cons (Sub.cons (Sub.refl _)))), ⟨rfl, (FLe.trans (FLe.trans (FLe.trans leG1 le2) le3) le4), (hov), (by (try dsimp only) <;> omega), ((by dsimp only; rw [hos]; first | exact (solTo_yes (by unfold sol1; simp_all)).symm | exact (solTo_no (by unfold sol1; simp_all)).symm))⟩, (by omega)⟩
            · rw [Bool.not_eq_true] at h6
              refine XL.no (t := 64) rfl (congrArg Value.bool h6) ?_
              refine XL.no (t := 64) rfl (congrArg Value.bool h6) ?_
              refine XL.no (t := 64) rfl (congrArg Value.bool h6) ?_
              refine XL.no (t := 64) rfl (congrArg Value.bool h6) ?_
              refine XL.no (t := 64) rfl (congrArg Value.bool h6) ?_
              refine XL.no (t := 64) rfl (congrArg Value.bool h6) ?_
              refine XL.cons (XOp.pickF (.bool (false)) (congrArg Value.bool h6) rfl ?_)
              refine XL.nil ?_
              refine X.condF rfl ?_
              refine X.skip ?_
              refine X.region ?_
              refine XL.cons (XOp.addR (a := ((k : Nat) : Int)) (b := 1) (((k + 1 : Nat) : Int)) rfl rfl (by omega) (by omega) ?_)
              refine XL.cons (XOp.move (.int .i64 (((k + 1 : Nat) : Int))) rfl ?_)
              refine XL.nil ?_
              exact ⟨(k + 1, ov, os, F4), _, (FLe.trans (FLe.trans (FLe.trans leG1 le2) le3) le4), (FLe.refl _), ⟨rfl, rfl, rfl, rfl, rfl, rfl, rfl, rfl, trivial⟩, (Sub.drop (Sub.cons (Sub.cons (Sub.refl _)))), ⟨rfl, (FLe.trans (FLe.trans (FLe.trans leG1 le2) le3) le4), (hov), (by (try dsimp only) <;> omega), ((by dsimp only; rw [hos]; first | exact (solTo_yes (by unfold sol1; simp_all)).symm | exact (solTo_no (by unfold sol1; simp_all)).symm))⟩, (by omega)⟩
          · rw [Bool.not_eq_true] at h5
            refine XL.no (t := 61) rfl (congrArg Value.bool h5) ?_
            refine XL.cons (XOp.pickF (.bool (false)) (congrArg Value.bool h5) rfl ?_)
            refine XL.cons (XOp.move (.bool (false)) rfl ?_)
            refine XL.no (t := 64) rfl rfl ?_
            refine XL.no (t := 64) rfl rfl ?_
            refine XL.no (t := 64) rfl rfl ?_
            refine XL.no (t := 64) rfl rfl ?_
            refine XL.no (t := 64) rfl rfl ?_
            refine XL.no (t := 64) rfl rfl ?_
            refine XL.cons (XOp.pickF (.bool (false)) rfl rfl ?_)
            refine XL.nil ?_
            refine X.condF rfl ?_
            refine X.skip ?_
            refine X.region ?_
            refine XL.cons (XOp.addR (a := ((k : Nat) : Int)) (b := 1) (((k + 1 : Nat) : Int)) rfl rfl (by omega) (by omega) ?_)
            refine XL.cons (XOp.move (.int .i64 (((k + 1 : Nat) : Int))) rfl ?_)
            refine XL.nil ?_
            exact ⟨(k + 1, ov, os, F4), _, (FLe.trans (FLe.trans (FLe.trans leG1 le2) le3) le4), (FLe.refl _), ⟨rfl, rfl, rfl, rfl, rfl, rfl, rfl, rfl, trivial⟩, (Sub.drop (Sub.cons (Sub.cons (Sub.refl _)))), ⟨rfl, (FLe.trans (FLe.trans (FLe.trans leG1 le2) le3) le4), (hov), (by (try dsimp only) <;> omega), ((by dsimp only; rw [hos]; first | exact (solTo_yes (by unfold sol1; simp_all)).symm | exact (solTo_no (by unfold sol1; simp_all)).symm))⟩, (by omega)⟩
        · refine X.exit (thenQ_exit (thenQ_exit (blockQ_exit ?_)))
          refine X.seq ?_
          refine X.region ?_
          refine XL.cons (XOp.move (ov) rfl ?_)
          refine XL.cons (XOp.assign (ov) rfl ?_)
          refine XL.nil ?_
          refine X.freezeF [] _ _ rfl (fun F5 le5 hz3 => ?_)
          replace har := har.mono le5
          replace hrs := hrs.mono le5
          replace ha := ha.mono le5
          replace hb := hb.mono le5
          replace hts := hts.mono le5
          replace hc1 := hc1.mono le5
          replace hf1 := hf1.mono le5
          have hf3 : IntsF F5 ov os := intsH.fz (xs := os) hz3.fz
          refine X.ret (retEnd (L' := L) [ov] (ov) (.tmp rfl .nil) rfl (FLe.trans (FLe.trans le1 leG1) le5) (FLe.refl _) (Sub.drop (Sub.refl _)) ?_)
          have e9 : solL ar rs a b ts n = os := by unfold solL; rw [if_pos hok, hos, show k = ts.length from by omega]
          exact ⟨_, rfl, by rw [e9]; exact hf3, by rw [e9]; exact Fresh.one (hz3.base (FLe.trans le1 leG1)), rfl⟩

/- spec.l22All -/
theorem l22All_spec {F : FH} {L : List HP} {arv : Value} {ar : List Int} (har : IntsF F arv ar) {rsv : Value} {rs : List (List Int × List Int)} (hrs : PairsF F rsv rs) {tsv : Value} {ts : List (List Int)} (hts : RowsF F tsv ts) {n : Int} (hla : ar.length ≤ 4000000) (hlr : rs.length ≤ 4000000) (hrb : ∀ i, i < rs.length → (rs.getD i ([], [])).1.length ≤ 4000000 ∧ (rs.getD i ([], [])).2.length ≤ 4000000) (hlt : ts.length ≤ 4000000) (htb : ∀ i, i < ts.length → (ts.getD i []).length ≤ 4000000) :
    Does Tryz.prog 78 [.agg #[arv, rsv], tsv, .int .i64 (n)] F (L) (fun v F' L' => (.bool (allOk ar rs ts n) : Value) = v ∧ F = F' ∧ L = L') := by
  refine Does.of_X Tryz.func78 rfl rfl rfl ?_
  refine X.seq ?_
  refine X.region ?_
  refine XL.cons (XOp.box [arv, rsv] rfl rfl ?_)
  intro b1
  refine XL.cons (XOp.assign (.bool (false)) rfl ?_)
  refine XL.nil ?_
  refine X.seq ?_
  refine X.seq ?_
  refine X.region ?_
  refine XL.cons (XOp.move (tsv) rfl ?_)
  refine XL.cons (XOp.lenS (v := tsv) (n := (ts).length) Tryz.runUnderlying54 rfl hts.slv ?_)
  refine XL.cons (XOp.gtr (a := (((ts).length : Nat) : Int)) (b := 16) rfl rfl ?_)
  refine XL.cons (XOp.move (.bool (decide (((((ts).length : Nat) : Int) : Int) > 16))) rfl ?_)
  by_cases h1 : ((((ts).length : Nat) : Int) : Int) > 16
  · refine XL.no (t := 11) rfl (congrArg Value.bool (decide_eq_true h1)) ?_
    refine XL.no (t := 11) rfl (congrArg Value.bool (decide_eq_true h1)) ?_
    refine XL.no (t := 11) rfl (congrArg Value.bool (decide_eq_true h1)) ?_
    refine XL.cons (XOp.pickT (.bool (true)) (congrArg Value.bool (decide_eq_true h1)) rfl ?_)
    refine XL.cons (XOp.move (.bool (true)) rfl ?_)
    refine XL.no (t := 16) rfl rfl ?_
    refine XL.no (t := 16) rfl rfl ?_
    refine XL.no (t := 16) rfl rfl ?_
    refine XL.cons (XOp.pickT (.bool (true)) rfl rfl ?_)
    refine XL.nil ?_
    refine X.condT rfl ?_
    refine X.seq ?_
    refine X.region ?_
    refine XL.cons (XOp.assign (.bool (false)) rfl ?_)
    refine XL.nil ?_
    refine X.ret (thenQ_ret (retEnd (L' := L) [.bool (false)] (.bool (false)) (.tmp rfl .nil) rfl (FLe.refl _) (FLe.refl _) (Sub.drop (Sub.refl _)) ?_))
    exact ⟨(congrArg Value.bool (by unfold allOk; simp_all <;> omega)), rfl, rfl⟩
  · refine XL.yes (t := 11) rfl (congrArg Value.bool (decide_eq_false h1)) (XOp.loadN [arv, rsv] Tryz.isAgg37 Tryz.sizeOf37 rfl rfl (Rd.ownN [] rfl rfl) ?_)
    refine XL.yes (t := 11) rfl (congrArg Value.bool (decide_eq_false h1)) (XOp.call (args := [.agg #[arv, rsv]]) Tryz.call68 rfl (sSystemOk_spec har hrs (hla := (by first | assumption | rfl | omega | (left; simp; done) | (right; simp; done))) (hlr := (by first | assumption | rfl | omega | (left; simp; done) | (right; simp; done))) (hrb := (by first | assumption | rfl | omega | (left; simp; done) | (right; simp; done)))) ?_)
    rintro _ _ _ _ ⟨rfl, rfl, rfl⟩
    refine XL.yes (t := 11) rfl (congrArg Value.bool (decide_eq_false h1)) (XOp.notB (b := sysOk ar rs) rfl ?_)
    refine XL.cons (XOp.pickF (.bool (!(sysOk ar rs))) (congrArg Value.bool (decide_eq_false h1)) rfl ?_)
    refine XL.cons (XOp.move (.bool (!(sysOk ar rs))) rfl ?_)
    by_cases h2 : (!(sysOk ar rs)) = true
    · refine XL.no (t := 16) rfl (congrArg Value.bool h2) ?_
      refine XL.no (t := 16) rfl (congrArg Value.bool h2) ?_
      refine XL.no (t := 16) rfl (congrArg Value.bool h2) ?_
      refine XL.cons (XOp.pickT (.bool (true)) (congrArg Value.bool h2) rfl ?_)
      refine XL.nil ?_
      refine X.condT rfl ?_
      refine X.seq ?_
      refine X.region ?_
      refine XL.cons (XOp.assign (.bool (false)) rfl ?_)
      refine XL.nil ?_
      refine X.ret (thenQ_ret (retEnd (L' := L) [.bool (false)] (.bool (false)) (.tmp rfl .nil) rfl (FLe.refl _) (FLe.refl _) (Sub.drop (Sub.refl _)) ?_))
      exact ⟨(congrArg Value.bool (by unfold allOk; simp_all <;> omega)), rfl, rfl⟩
    · rw [Bool.not_eq_true] at h2
      refine XL.yes (t := 16) rfl (congrArg Value.bool h2) (XOp.move (.int .i64 (n)) rfl ?_)
      refine XL.yes (t := 16) rfl (congrArg Value.bool h2) (XOp.call (args := [.int .i64 (n), .int .i64 (0), .int .i64 (60)]) Tryz.call86 rfl (l1In_spec (n := n) (a := 0) (b := 60)) ?_)
      rintro _ _ _ _ ⟨rfl, rfl, rfl⟩
      refine XL.yes (t := 16) rfl (congrArg Value.bool h2) (XOp.notD (p := 0 ≤ n ∧ n ≤ 60) rfl ?_)
      refine XL.cons (XOp.pickF (.bool (decide (¬(0 ≤ n ∧ n ≤ 60)))) (congrArg Value.bool h2) rfl ?_)
      refine XL.nil ?_
      refine X.condD (p := ¬(0 ≤ n ∧ n ≤ 60)) rfl (fun h3 => ?_) (fun h3 => ?_)
      · refine X.seq ?_
        refine X.region ?_
        refine XL.cons (XOp.assign (.bool (false)) rfl ?_)
        refine XL.nil ?_
        refine X.ret (thenQ_ret (retEnd (L' := L) [.bool (false)] (.bool (false)) (.tmp rfl .nil) rfl (FLe.refl _) (FLe.refl _) (Sub.drop (Sub.refl _)) ?_))
        exact ⟨(congrArg Value.bool (by unfold allOk; simp_all <;> omega)), rfl, rfl⟩
      · refine X.skip ?_
        refine X.seq ?_
        refine X.seq ?_
        refine X.region ?_
        refine XL.cons (XOp.assign (.int .i64 (0)) rfl ?_)
        refine XL.nil ?_
        refine X.block ?_
        refine X.loop (α := Nat) (fun k => [(1, tsv), (3, ptr b1 0), (7, .int .i64 (((k : Nat) : Int)))]) (fun k => cellsH b1 [arv, rsv] 37 :: L) (fun k F' => F = F' ∧ (k ≤ ts.length) ∧ (∀ i, i < k → termOk ar (ts.getD i []) = true)) (fun k => ts.length - k) 0 ⟨rfl, rfl, rfl, trivial⟩ (Sub.cons (Sub.refl _)) ⟨rfl, (by (try dsimp only) <;> omega), (fun i hi => absurd hi (by omega))⟩ ?_
        rintro k rE _ _ ⟨rfl, hk, hall⟩
        show X _ _ _ _ (envs [(1, tsv), (3, ptr b1 0), (7, .int .i64 (((k : Nat) : Int)))] rE) _ (cellsH b1 [arv, rsv] 37 :: L)
        have htbk := htb k
        refine X.seq ?_
        refine X.seq ?_
        refine X.region ?_
        refine XL.cons (XOp.move (.int .i64 (((k : Nat) : Int))) rfl ?_)
        refine XL.cons (XOp.move (tsv) rfl ?_)
        refine XL.cons (XOp.lenS (v := tsv) (n := (ts).length) Tryz.runUnderlying54 rfl hts.slv ?_)
        refine XL.cons (XOp.lss (a := ((k : Nat) : Int)) (b := (((ts).length : Nat) : Int)) rfl rfl ?_)
        refine XL.nil ?_
        refine X.condD (p := (((k : Nat) : Int) : Int) < (((ts).length : Nat) : Int)) rfl (fun h4 => ?_) (fun h4 => ?_)
        · refine X.skip ?_
          refine X.seq ?_
          refine X.block ?_
          refine X.seq ?_
          obtain ⟨a1, ha1, hr1⟩ := hts.rd (i := k) (by omega)
          refine X.draw [cellsH b1 [arv, rsv] 37] L 6 [[], [], [], [], [], []] [[], [0], [], [], [2, 3], [4]] (phiL [fun us v => v = ptr b1 0, fun us v => v = (.agg #[arv] : Value), fun us v => v = tsv, fun us v => v = (.int .i64 (((k : Nat) : Int)) : Value), fun us v => v = (.pointer (some (elemA tsv (k))) : Value), fun us v => v = a1]) (ownL [fun us v => [], fun us v => [], fun us v => [], fun us v => [], fun us v => [], fun us v => []]) mixed rfl rfl (by kernel_rfl) ?_ ?_
          · refine stepsP.cons (fun vals R hpZ => ?_) ?_
            · refine XG.op (XOp.fieldP (b := b1) (0) Tryz.runUnderlying37 rfl Tryz.sizeOf34 (by decide) rfl rfl ?_)
              exact ⟨rfl, rfl, rfl⟩
            refine stepsP.cons (fun vals R hpZ => ?_) ?_
            · rw [(envs_of_sat (l := [(0, ptr b1 0)]) ⟨hpZ 0 (by decide), trivial⟩).symm]
              refine XG.op (XOp.loadN [arv] Tryz.isAgg34 Tryz.sizeOf34 rfl rfl (Rd.ownN [] rfl rfl) ?_)
              exact ⟨rfl, rfl, rfl⟩
            refine stepsP.cons (fun vals R hpZ => ?_) ?_
            · refine XG.op (XOp.move (tsv) rfl ?_)
              exact ⟨rfl, rfl, rfl⟩
            refine stepsP.cons (fun vals R hpZ => ?_) ?_
            · refine XG.op (XOp.move (.int .i64 (((k : Nat) : Int))) rfl ?_)
              exact ⟨rfl, rfl, rfl⟩
            refine stepsP.cons (fun vals R hpZ => ?_) ?_
            · rw [(envs_of_sat (l := [(2, tsv), (3, (.int .i64 (((k : Nat) : Int)) : Value))]) ⟨hpZ 2 (by decide), hpZ 3 (by decide), trivial⟩).symm]
              refine XG.op (XOp.indexS (v := tsv) (i := ((k : Nat) : Int)) (n := (ts).length) k Tryz.runUnderlying54 Tryz.sizeOf22 rfl rfl rfl hts.slv (by omega) (Nat.mul_one _) ?_)
              exact ⟨rfl, rfl, rfl⟩
            refine stepsP.cons (fun vals R hpZ => ?_) ?_
            · rw [(envs_of_sat (l := [(4, (.pointer (some (elemA tsv (k))) : Value))]) ⟨hpZ 4 (by decide), trivial⟩).symm]
              refine XG.op (XOp.load1 (v := a1) Tryz.isAgg22 rfl (hr1 _) ?_)
              exact ⟨rfl, rfl, rfl⟩
            exact stepsP.nil
          · intro vals hphi
            have e0 : vals 0 = ptr b1 0 := hphi 0 (by decide)
            have e1 : vals 1 = (.agg #[arv] : Value) := hphi 1 (by decide)
            have e2 : vals 2 = tsv := hphi 2 (by decide)
            have e3 : vals 3 = (.int .i64 (((k : Nat) : Int)) : Value) := hphi 3 (by decide)
            have e4 : vals 4 = (.pointer (some (elemA tsv (k))) : Value) := hphi 4 (by decide)
            have e5 : vals 5 = a1 := hphi 5 (by decide)
            rw [(envs_of_sat (l := [(0, ptr b1 0), (1, (.agg #[arv] : Value)), (2, tsv), (3, (.int .i64 (((k : Nat) : Int)) : Value)), (4, (.pointer (some (elemA tsv (k))) : Value)), (5, a1)]) ⟨e0, e1, e2, e3, e4, e5, trivial⟩).symm]
            show XL _ _ _ _ _ _ _ (cellsH b1 [arv, rsv] 37 :: L)
            refine XL.cons (XOp.call (args := [.agg #[arv], a1]) Tryz.call87 rfl (sTermOk_spec har ha1 (hla := (by first | assumption | rfl | omega | (left; simp; done) | (right; simp; done))) (hlt := (by first | assumption | rfl | omega | (left; simp; done) | (right; simp; done)))) ?_)
            rintro _ _ _ _ ⟨rfl, rfl, rfl⟩
            refine XL.cons (XOp.notB (b := termOk ar ((ts.getD k []))) rfl ?_)
            refine XL.nil ?_
            refine X.cond (t := !(termOk ar ((ts.getD k [])))) rfl (fun h5 => ?_) (fun h5 => ?_)
            · refine X.seq ?_
              refine X.region ?_
              refine XL.cons (XOp.assign (.bool (false)) rfl ?_)
              refine XL.nil ?_
              refine X.ret (blockQ_ret (thenQ_ret (thenQ_ret (blockQ_ret (thenQ_ret (retEnd (L' := L) [.bool (false)] (.bool (false)) (.tmp rfl .nil) rfl (FLe.refl _) (FLe.refl _) (Sub.drop (Sub.refl _)) ?_))))))
              exact ⟨(congrArg Value.bool (by rw [allOk, all_fail [] (k := k) (by omega) (by simp_all)]; simp)), rfl, rfl⟩
            · refine X.skip ?_
              refine X.region ?_
              refine XL.cons (XOp.move (.int .i64 (((k : Nat) : Int))) rfl ?_)
              refine XL.cons (XOp.addR (a := ((k : Nat) : Int)) (b := 1) (((k + 1 : Nat) : Int)) rfl rfl (by omega) (by omega) ?_)
              refine XL.cons (XOp.assign (.int .i64 (((k + 1 : Nat) : Int))) rfl ?_)
              refine XL.nil ?_
              exact ⟨k + 1, _, FLe.refl _, (FLe.refl _), ⟨rfl, rfl, rfl, trivial⟩, (Sub.cons (Sub.refl _)), ⟨rfl, (by (try dsimp only) <;> omega), (fun i hi => (Nat.lt_or_ge i k).elim (fun h => hall i h) (fun h => by obtain rfl : i = k := (by omega); simp_all))⟩, (by omega)⟩
        · refine X.exit (thenQ_exit (thenQ_exit (blockQ_exit ?_)))
          refine X.seq ?_
          refine X.region ?_
          refine XL.cons (XOp.assign (.bool (true)) rfl ?_)
          refine XL.nil ?_
          refine X.ret (retEnd (L' := L) [.bool (true)] (.bool (true)) (.tmp rfl .nil) rfl (FLe.refl _) (FLe.refl _) (Sub.drop (Sub.refl _)) ?_)
          exact ⟨(congrArg Value.bool (by rw [allOk, (all_getD_iff []).2 (fun i hi => hall i (by omega))]; simp_all <;> omega)), rfl, rfl⟩

/- spec.SolutionsBy -/
theorem sSolutionsBy_spec {F : FH} {L : List HP} {arv : Value} {ar : List Int} (har : IntsF F arv ar) {rsv : Value} {rs : List (List Int × List Int)} (hrs : PairsF F rsv rs) {av : Value} {a : List Int} (ha : IntsF F av a) {bv : Value} {b : List Int} (hb : IntsF F bv b) {tsv : Value} {ts : List (List Int)} (hts : RowsF F tsv ts) {n : Int} (hla : ar.length ≤ 4000000) (hlr : rs.length ≤ 4000000) (hrb : ∀ i, i < rs.length → (rs.getD i ([], [])).1.length ≤ 4000000 ∧ (rs.getD i ([], [])).2.length ≤ 4000000) (hlt : ts.length ≤ 4000000) (htb : ∀ i, i < ts.length → (ts.getD i []).length ≤ 4000000) (hlta : a.length ≤ 4000000) (hltb : b.length ≤ 4000000) :
    Does Tryz.prog 36 [.agg #[arv, rsv], av, bv, tsv, .int .i64 (n)] F (L) (fun v F' L' => ∃ (r : Value), (r : Value) = v ∧ (IntsF F' r (solL ar rs a b ts n)) ∧ L = L') := by
  refine Does.of_X Tryz.func36 rfl rfl rfl ?_
  refine X.seq ?_
  refine X.region ?_
  refine XL.cons (XOp.box [arv, rsv] rfl rfl ?_)
  intro b1
  refine XL.cons (XOp.assign ((.slice none 0 0)) rfl ?_)
  refine XL.nil ?_
  refine X.seq ?_
  refine X.region ?_
  refine XL.cons (XOp.buildSlice (s := 1) [] [.int .i64 (0)] [] Tryz.runUnderlying22 Tryz.sizeOf2 Tryz.zeroValue2 rfl (by decide) rfl CellsAre.nil rfl ?_)
  intro v1 hv1
  refine XL.cons (XOp.assign (v1) rfl ?_)
  refine XL.nil ?_
  refine X.seq ?_
  refine X.seq ?_
  refine X.region ?_
  refine XL.cons (XOp.loadN [arv, rsv] Tryz.isAgg37 Tryz.sizeOf37 rfl rfl (Rd.ownN [_] rfl rfl) ?_)
  refine XL.cons (XOp.move (tsv) rfl ?_)
  refine XL.cons (XOp.move (.int .i64 (n)) rfl ?_)
  refine XL.cons (XOp.call (args := [.agg #[arv, rsv], tsv, .int .i64 (n)]) Tryz.call78 rfl (l22All_spec (n := n) har hrs hts (hla := (by first | assumption | rfl | omega | (left; simp; done) | (right; simp; done))) (hlr := (by first | assumption | rfl | omega | (left; simp; done) | (right; simp; done))) (hrb := (by first | assumption | rfl | omega | (left; simp; done) | (right; simp; done))) (hlt := (by first | assumption | rfl | omega | (left; simp; done) | (right; simp; done))) (htb := (by first | assumption | rfl | omega | (left; simp; done) | (right; simp; done)))) ?_)
  rintro _ _ _ _ ⟨rfl, rfl, rfl⟩
  refine XL.cons (XOp.notB (b := allOk ar rs ts n) rfl ?_)
  refine XL.cons (XOp.move (.bool (!(allOk ar rs ts n))) rfl ?_)
  by_cases h1 : (!(allOk ar rs ts n)) = true
  · refine XL.no (t := 24) rfl (congrArg Value.bool h1) ?_
    refine XL.no (t := 24) rfl (congrArg Value.bool h1) ?_
    refine XL.no (t := 24) rfl (congrArg Value.bool h1) ?_
    refine XL.no (t := 24) rfl (congrArg Value.bool h1) ?_
    refine XL.no (t := 24) rfl (congrArg Value.bool h1) ?_
    refine XL.cons (XOp.pickT (.bool (true)) (congrArg Value.bool h1) rfl ?_)
    refine XL.cons (XOp.move (.bool (true)) rfl ?_)
    refine XL.no (t := 31) rfl rfl ?_
    refine XL.no (t := 31) rfl rfl ?_
    refine XL.no (t := 31) rfl rfl ?_
    refine XL.no (t := 31) rfl rfl ?_
    refine XL.no (t := 31) rfl rfl ?_
    refine XL.cons (XOp.pickT (.bool (true)) rfl rfl ?_)
    refine XL.nil ?_
    refine X.condT rfl ?_
    refine X.seq ?_
    refine X.region ?_
    refine XL.cons (XOp.move (v1) rfl ?_)
    refine XL.cons (XOp.assign (v1) rfl ?_)
    refine XL.nil ?_
    show X _ _ _ _ _ _ (intsH 2 v1 ([] : List Int) :: cellsH b1 [arv, rsv] 37 :: L)
    refine X.freezeF [] _ _ rfl (fun F1 le1 hz1 => ?_)
    replace har := har.mono le1
    replace hrs := hrs.mono le1
    replace ha := ha.mono le1
    replace hb := hb.mono le1
    replace hts := hts.mono le1
    have hf1 : IntsF F1 v1 ([]) := intsH.fz (xs := []) hz1.fz
    refine X.ret (thenQ_ret (retEnd (L' := L) [v1] (v1) (.tmp rfl .nil) rfl le1 (FLe.refl _) (Sub.drop (Sub.refl _)) ?_))
    have e9 : solL ar rs a b ts n = [] := by first | (refine solL_no4 ?_; simpa using h1) | (refine solL_no5 ?_; simpa using h2) | (refine solL_no6 ?_; simpa using h3)
    exact ⟨_, rfl, by rw [e9]; exact hf1, rfl⟩
  · rw [Bool.not_eq_true] at h1
    have hao : allOk ar rs ts n = true := by simpa using h1
    have hao2 := allOk_iff.1 hao
    have hsys := hao2.1
    have hn0 := hao2.2.1
    have hall := hao2.2.2.1
    have hll := hao2.2.2.2
    refine XL.yes (t := 24) rfl (congrArg Value.bool h1) (XOp.fieldP (b := b1) (0) Tryz.runUnderlying37 rfl Tryz.sizeOf34 (by decide) rfl rfl ?_)
    refine XL.yes (t := 24) rfl (congrArg Value.bool h1) (XOp.loadN [arv] Tryz.isAgg34 Tryz.sizeOf34 rfl rfl (Rd.ownN [_] rfl rfl) ?_)
    refine XL.yes (t := 24) rfl (congrArg Value.bool h1) (XOp.move (av) rfl ?_)
    refine XL.yes (t := 24) rfl (congrArg Value.bool h1) (XOp.call (args := [.agg #[arv], av]) Tryz.call87 rfl (sTermOk_spec har ha (hla := (by first | assumption | rfl | omega | (left; simp; done) | (right; simp; done))) (hlt := (by first | assumption | rfl | omega | (left; simp; done) | (right; simp; done)))) ?_)
    rintro _ _ _ _ ⟨rfl, rfl, rfl⟩
    refine XL.yes (t := 24) rfl (congrArg Value.bool h1) (XOp.notB (b := termOk ar a) rfl ?_)
    refine XL.cons (XOp.pickF (.bool (!(termOk ar a))) (congrArg Value.bool h1) rfl ?_)
    refine XL.cons (XOp.move (.bool (!(termOk ar a))) rfl ?_)
    by_cases h2 : (!(termOk ar a)) = true
    · refine XL.no (t := 31) rfl (congrArg Value.bool h2) ?_
      refine XL.no (t := 31) rfl (congrArg Value.bool h2) ?_
      refine XL.no (t := 31) rfl (congrArg Value.bool h2) ?_
      refine XL.no (t := 31) rfl (congrArg Value.bool h2) ?_
      refine XL.no (t := 31) rfl (congrArg Value.bool h2) ?_
      refine XL.cons (XOp.pickT (.bool (true)) (congrArg Value.bool h2) rfl ?_)
      refine XL.nil ?_
      refine X.condT rfl ?_
      refine X.seq ?_
      refine X.region ?_
      refine XL.cons (XOp.move (v1) rfl ?_)
      refine XL.cons (XOp.assign (v1) rfl ?_)
      refine XL.nil ?_
      show X _ _ _ _ _ _ (intsH 2 v1 ([] : List Int) :: cellsH b1 [arv, rsv] 37 :: L)
      refine X.freezeF [] _ _ rfl (fun F2 le2 hz2 => ?_)
      replace har := har.mono le2
      replace hrs := hrs.mono le2
      replace ha := ha.mono le2
      replace hb := hb.mono le2
      replace hts := hts.mono le2
      have hf2 : IntsF F2 v1 ([]) := intsH.fz (xs := []) hz2.fz
      refine X.ret (thenQ_ret (retEnd (L' := L) [v1] (v1) (.tmp rfl .nil) rfl le2 (FLe.refl _) (Sub.drop (Sub.refl _)) ?_))
      have e9 : solL ar rs a b ts n = [] := by first | (refine solL_no4 ?_; simpa using h1) | (refine solL_no5 ?_; simpa using h2) | (refine solL_no6 ?_; simpa using h3)
      exact ⟨_, rfl, by rw [e9]; exact hf2, rfl⟩
    · rw [Bool.not_eq_true] at h2
      have hoa : termOk ar a = true := by simpa using h2
      have hal := termOk_len hoa
      have hag := fun k (hk : k < a.length) => termOk_ge hoa hk
      refine XL.yes (t := 31) rfl (congrArg Value.bool h2) (XOp.fieldP (b := b1) (0) Tryz.runUnderlying37 rfl Tryz.sizeOf34 (by decide) rfl rfl ?_)
      refine XL.yes (t := 31) rfl (congrArg Value.bool h2) (XOp.loadN [arv] Tryz.isAgg34 Tryz.sizeOf34 rfl rfl (Rd.ownN [_] rfl rfl) ?_)
      refine XL.yes (t := 31) rfl (congrArg Value.bool h2) (XOp.move (bv) rfl ?_)
      refine XL.yes (t := 31) rfl (congrArg Value.bool h2) (XOp.call (args := [.agg #[arv], bv]) Tryz.call87 rfl (sTermOk_spec har hb (hla := (by first | assumption | rfl | omega | (left; simp; done) | (right; simp; done))) (hlt := (by first | assumption | rfl | omega | (left; simp; done) | (right; simp; done)))) ?_)
      rintro _ _ _ _ ⟨rfl, rfl, rfl⟩
      refine XL.yes (t := 31) rfl (congrArg Value.bool h2) (XOp.notB (b := termOk ar b) rfl ?_)
      refine XL.cons (XOp.pickF (.bool (!(termOk ar b))) (congrArg Value.bool h2) rfl ?_)
      refine XL.nil ?_
      refine X.cond (t := !(termOk ar b)) rfl (fun h3 => ?_) (fun h3 => ?_)
      · refine X.seq ?_
        refine X.region ?_
        refine XL.cons (XOp.move (v1) rfl ?_)
        refine XL.cons (XOp.assign (v1) rfl ?_)
        refine XL.nil ?_
        show X _ _ _ _ _ _ (intsH 2 v1 ([] : List Int) :: cellsH b1 [arv, rsv] 37 :: L)
        refine X.freezeF [] _ _ rfl (fun F3 le3 hz3 => ?_)
        replace har := har.mono le3
        replace hrs := hrs.mono le3
        replace ha := ha.mono le3
        replace hb := hb.mono le3
        replace hts := hts.mono le3
        have hf3 : IntsF F3 v1 ([]) := intsH.fz (xs := []) hz3.fz
        refine X.ret (thenQ_ret (retEnd (L' := L) [v1] (v1) (.tmp rfl .nil) rfl le3 (FLe.refl _) (Sub.drop (Sub.refl _)) ?_))
        have e9 : solL ar rs a b ts n = [] := by first | (refine solL_no4 ?_; simpa using h1) | (refine solL_no5 ?_; simpa using h2) | (refine solL_no6 ?_; simpa using h3)
        exact ⟨_, rfl, by rw [e9]; exact hf3, rfl⟩
      · have hob : termOk ar b = true := by simpa using h3
        have hbl := termOk_len hob
        have hbg := fun k (hk : k < b.length) => termOk_ge hob hk
        have hok : solOk ar rs a b ts n = true := solOk_iff.2 ⟨hsys, hn0, hoa, hob, hall, hll⟩
        refine X.skip ?_
        refine X.seq ?_
        refine X.seq ?_
        refine X.region ?_
        refine XL.cons (XOp.assign (.int .i64 (0)) rfl ?_)
        refine XL.nil ?_
        refine X.block ?_
        refine X.loop (α := Nat × Value × List Int × FH) (fun xQ => [(1, av), (2, bv), (3, tsv), (4, .int .i64 (n)), (5, ptr b1 0), (11, xQ.2.1), (12, .int .i64 (((xQ.1 : Nat) : Int)))]) (fun xQ => intsH 2 xQ.2.1 xQ.2.2.1 :: cellsH b1 [arv, rsv] 37 :: L) (fun xQ F' => xQ.2.2.2 = F' ∧ F ≤ xQ.2.2.2 ∧ (IsSl xQ.2.1) ∧ (xQ.1 ≤ ts.length) ∧ (xQ.2.2.1 = solTo ar rs a b ts n xQ.1)) (fun xQ => ts.length - xQ.1) (0, v1, [], F) ⟨rfl, rfl, rfl, rfl, rfl, rfl, rfl, trivial⟩ (Sub.cons (Sub.cons (Sub.refl _))) ⟨rfl, FLe.refl _, ((isSl_lit hv1)), (by (try dsimp only) <;> omega), (rfl)⟩ ?_
        rintro ⟨k, ov, os, G1⟩ rE _ _ ⟨rfl, leG, hov, hk, hos⟩
        show X _ _ _ _ (envs [(1, av), (2, bv), (3, tsv), (4, .int .i64 (n)), (5, ptr b1 0), (11, ov), (12, .int .i64 (((k : Nat) : Int)))] rE) _ (intsH 2 ov os :: cellsH b1 [arv, rsv] 37 :: L)
        replace leG : F ≤ G1 := leG
        dsimp only at hov hk hos
        have hol : os.length ≤ k := by rw [hos]; exact solTo_len
        have hot := fun (h : k < ts.length) => all_at hall h
        have htl9 := fun (h : k < ts.length) => termOk_len (all_at hall h)
        have leG1 := leG
        replace har := har.mono leG1
        replace hrs := hrs.mono leG1
        replace ha := ha.mono leG1
        replace hb := hb.mono leG1
        replace hts := hts.mono leG1
        refine X.seq ?_
        refine X.seq ?_
        refine X.region ?_
        refine XL.cons (XOp.move (.int .i64 (((k : Nat) : Int))) rfl ?_)
        refine XL.cons (XOp.move (tsv) rfl ?_)
        refine XL.cons (XOp.lenS (v := tsv) (n := (ts).length) Tryz.runUnderlying54 rfl hts.slv ?_)
        refine XL.cons (XOp.lss (a := ((k : Nat) : Int)) (b := (((ts).length : Nat) : Int)) rfl rfl ?_)
        refine XL.nil ?_
        refine X.condD (p := (((k : Nat) : Int) : Int) < (((ts).length : Nat) : Int)) rfl (fun h4 => ?_) (fun h4 => ?_)
        · refine X.skip ?_
          refine X.seq ?_
          refine X.block ?_
          refine X.seq ?_
          refine X.region ?_
          refine XL.cons (XOp.move (tsv) rfl ?_)
          refine XL.cons (XOp.move (.int .i64 (((k : Nat) : Int))) rfl ?_)
          refine XL.cons (XOp.indexS (v := tsv) (i := ((k : Nat) : Int)) (n := (ts).length) k Tryz.runUnderlying54 Tryz.sizeOf22 rfl rfl rfl hts.slv (by omega) (Nat.mul_one _) ?_)
          obtain ⟨a1, ha1, hr1⟩ := hts.rd (i := k) (by omega)
          refine XL.cons (XOp.load1 (v := a1) Tryz.isAgg22 rfl (hr1 _) ?_)
          refine XL.cons (XOp.buildSlice (s := 1) [a1] [(.slice none 0 0)] [(0, [a1])] Tryz.runUnderlying54 Tryz.sizeOf22 Tryz.zeroValue22 rfl (by decide) rfl (.cons (cells_one (IntsF.isSl ha1)) CellsAre.nil) rfl ?_)
          intro v2 hv2
          refine XL.cons (XOp.build [v2] [(.slice none 0 0)] [(0, 1)] [(0, [v2])] Tryz.runUnderlying118 Tryz.zeroValue118 rfl (.cons rfl Tryz.sizeOf54 PlacesAre.nil) rfl (.cons (cells_one (isSl_lit hv2)) CellsAre.nil) ?_)
          refine XL.cons (XOp.alloc [(.slice none 0 0)] Tryz.zeroValue118 rfl ?_)
          intro b2
          refine XL.cons (XOp.storeN (vs := [v2]) [] _ [v2] Tryz.sizeOf118 rfl rfl rfl (ones_cons (one_sl (isSl_lit hv2)) ones_nil) rfl rfl rfl ?_)
          refine XL.nil ?_
          refine X.seq ?_
          refine X.region ?_
          refine XL.cons (XOp.loadN [v2] Tryz.isAgg118 Tryz.sizeOf118 rfl rfl (Rd.ownN [] rfl rfl) ?_)
          refine XL.cons (XOp.move (av) rfl ?_)
          have hc1 : RowsC G1 [a1] ([(ts.getD k [])] : List (List Int)) := (RowsC.snoc (CO.nil : RowsC G1 [] []) ha1)
          refine XL.freezeF [_] _ _ rfl (fun F4 le4 hz4 => ?_)
          replace har := har.mono le4
          replace hrs := hrs.mono le4
          replace ha := ha.mono le4
          replace hb := hb.mono le4
          replace hts := hts.mono le4
          replace ha1 := ha1.mono le4
          replace hc1 := hc1.mono le4
          replace hr1 := Rd.monoA hr1 le4
          have hf4 : RowsF F4 v2 (([(ts.getD k [])] : List (List Int))) := CO.fz hc1 (by first | rfl | simp | omega) hz4.fz
          refine XL.cons (XOp.call (args := [.agg #[v2], av]) Tryz.call88 rfl (l2Filled_spec hf4 ha (hsl := (by simp)) (hsb := (fun i => by have := rows1_len (hot (by omega)) i; omega)) (htl := (by omega)) (htg := (by first | (exact fun k hk => by have := hag k hk; omega) | (exact fun k hk => by have := hbg k hk; omega)))) ?_)
          rintro _ F5 _ le5 ⟨x1, rfl, hr2, rfl⟩
          replace har := har.mono le5
          replace hrs := hrs.mono le5
          replace ha := ha.mono le5
          replace hb := hb.mono le5
          replace hts := hts.mono le5
          replace ha1 := ha1.mono le5
          replace hc1 := hc1.mono le5
          replace hf4 := hf4.mono le5
          replace hr1 := Rd.monoA hr1 le5
          refine XL.cons (XOp.move (.tuple #[x1, .bool ((fillL (([(ts.getD k [])] : List (List Int))) a).isSome)]) rfl ?_)
          refine XL.cons (XOp.extract (x1) rfl rfl ?_)
          refine XL.cons (XOp.extract (.bool ((fillL (([(ts.getD k [])] : List (List Int))) a).isSome)) rfl rfl ?_)
          refine XL.cons (XOp.assign (x1) rfl ?_)
          refine XL.cons (XOp.assign (.bool ((fillL (([(ts.getD k [])] : List (List Int))) a).isSome)) rfl ?_)
          refine XL.nil ?_
          refine X.seq ?_
          refine X.region ?_
          refine XL.cons (XOp.loadN [v2] Tryz.isAgg118 Tryz.sizeOf118 rfl rfl (Rd.ownN [] rfl rfl) ?_)
          refine XL.cons (XOp.move (bv) rfl ?_)
          refine XL.cons (XOp.call (args := [.agg #[v2], bv]) Tryz.call88 rfl (l2Filled_spec hf4 hb (hsl := (by simp)) (hsb := (fun i => by have := rows1_len (hot (by omega)) i; omega)) (htl := (by omega)) (htg := (by first | (exact fun k hk => by have := hag k hk; omega) | (exact fun k hk => by have := hbg k hk; omega)))) ?_)
          rintro _ F6 _ le6 ⟨x2, rfl, hr3, rfl⟩
          replace har := har.mono le6
          replace hrs := hrs.mono le6
          replace ha := ha.mono le6
          replace hb := hb.mono le6
          replace hts := hts.mono le6
          replace ha1 := ha1.mono le6
          replace hc1 := hc1.mono le6
          replace hf4 := hf4.mono le6
          replace hr2 := hr2.mono le6
          replace hr1 := Rd.monoA hr1 le6
          refine XL.cons (XOp.move (.tuple #[x2, .bool ((fillL (([(ts.getD k [])] : List (List Int))) b).isSome)]) rfl ?_)
          refine XL.cons (XOp.extract (x2) rfl rfl ?_)
          refine XL.cons (XOp.extract (.bool ((fillL (([(ts.getD k [])] : List (List Int))) b).isSome)) rfl rfl ?_)
          refine XL.cons (XOp.assign (x2) rfl ?_)
          refine XL.cons (XOp.assign (.bool ((fillL (([(ts.getD k [])] : List (List Int))) b).isSome)) rfl ?_)
          refine XL.nil ?_
          refine X.seq ?_
          refine X.region ?_
          refine XL.cons (XOp.move (.bool ((fillL (([(ts.getD k [])] : List (List Int))) a).isSome)) rfl ?_)
          refine XL.cons (XOp.move (.bool ((fillL (([(ts.getD k [])] : List (List Int))) a).isSome)) rfl ?_)
          by_cases h5 : ((fillL (([(ts.getD k [])] : List (List Int))) a).isSome) = true
          · refine XL.yes (t := 64) rfl (congrArg Value.bool h5) (XOp.move (.bool ((fillL (([(ts.getD k [])] : List (List Int))) b).isSome)) rfl ?_)
            refine XL.cons (XOp.pickT (.bool ((fillL (([(ts.getD k [])] : List (List Int))) b).isSome)) (congrArg Value.bool h5) rfl ?_)
            refine XL.cons (XOp.move (.bool ((fillL (([(ts.getD k [])] : List (List Int))) b).isSome)) rfl ?_)
            by_cases h6 : ((fillL (([(ts.getD k [])] : List (List Int))) b).isSome) = true
            · refine XL.yes (t := 67) rfl (congrArg Value.bool h6) (XOp.loadN [arv, rsv] Tryz.isAgg37 Tryz.sizeOf37 rfl rfl (Rd.ownN [_, _] rfl rfl) ?_)
              refine XL.yes (t := 67) rfl (congrArg Value.bool h6) (XOp.move (x1) rfl ?_)
              refine XL.yes (t := 67) rfl (congrArg Value.bool h6) (XOp.move (x2) rfl ?_)
              refine XL.yes (t := 67) rfl (congrArg Value.bool h6) (XOp.move (.int .i64 (n)) rfl ?_)
              refine XL.yes (t := 67) rfl (congrArg Value.bool h6) (XOp.call (args := [.agg #[arv, rsv], x1, x2, .int .i64 (n)]) Tryz.call49 rfl (sEqualBy_spec (n := n) har hrs hr2 hr3 (hla := (by first | assumption | rfl | omega | (left; simp; done) | (right; simp; done))) (hlr := (by first | assumption | rfl | omega | (left; simp; done) | (right; simp; done))) (hrb := (by first | assumption | rfl | omega | (left; simp; done) | (right; simp; done))) (hlta := (by have := termOk_len (fill1 (hot (by omega)) hoa (by assumption)); omega)) (hltb := (by have := termOk_len (fill1 (hot (by omega)) hob (by assumption)); omega))) ?_)
              rintro _ _ _ _ ⟨rfl, rfl, rfl⟩
              refine XL.yes (t := 67) rfl (congrArg Value.bool h6) (XOp.eql (a := eqB ar rs ((fillL (([(ts.getD k [])] : List (List Int))) a).getD []) ((fillL (([(ts.getD k [])] : List (List Int))) b).getD []) n) (b := 1) rfl rfl ?_)
              refine XL.cons (XOp.pickT (.bool (decide ((eqB ar rs ((fillL (([(ts.getD k [])] : List (List Int))) a).getD []) ((fillL (([(ts.getD k [])] : List (List Int))) b).getD []) n : Int) = 1))) (congrArg Value.bool h6) rfl ?_)
              refine XL.nil ?_
              refine X.condD (p := (eqB ar rs ((fillL (([(ts.getD k [])] : List (List Int))) a).getD []) ((fillL (([(ts.getD k [])] : List (List Int))) b).getD []) n : Int) = 1) rfl (fun h7 => ?_) (fun h7 => ?_)
              · refine X.region ?_
                refine XL.cons (XOp.move (ov) rfl ?_)
                refine XL.cons (XOp.move (.int .i64 (((k : Nat) : Int))) rfl ?_)
                refine XL.cons (XOp.buildSlice (s := 1) [.int .i64 (((k : Nat) : Int))] [.int .i64 (0)] [(0, [.int .i64 (((k : Nat) : Int))])] Tryz.runUnderlying22 Tryz.sizeOf2 Tryz.zeroValue2 rfl (by decide) rfl (.cons rfl CellsAre.nil) rfl ?_)
                intro v3 hv3
                refine XL.cons (XOp.append1 (u := ((k : Nat) : Int)) [_, _] _ Tryz.runUnderlying22 Tryz.typeInfo2 rfl rfl rfl rfl rfl rfl (SlV.own [] rfl) (Rd.sl [] rfl rfl) (by (try simp only [List.length_append, List.length_nil, List.length_cons, List.length_singleton, List.length_take, List.length_drop]); omega) ?_)
                intro v4 hs1 hn1
                refine XL.cons (XOp.assign (v4) rfl ?_)
                refine XL.nil ?_
                refine X.region ?_
                refine XL.cons (XOp.move (.int .i64 (((k : Nat) : Int))) rfl ?_)
                refine XL.cons (XOp.addR (a := ((k : Nat) : Int)) (b := 1) (((k + 1 : Nat) : Int)) rfl rfl (by omega) (by omega) ?_)
                refine XL.cons (XOp.assign (.int .i64 (((k + 1 : Nat) : Int))) rfl ?_)
                refine XL.nil ?_
                exact ⟨(k + 1, v4, os ++ [((k : Nat) : Int)], F6), _, (FLe.trans (FLe.trans (FLe.trans leG1 le4) le5) le6), (FLe.refl _), ⟨rfl, rfl, rfl, rfl, rfl, rfl, rfl, trivial⟩, (Sub.drop (Sub.drop (Sub.cons (Sub.cons (Sub.refl _))))), ⟨rfl, (FLe.trans (FLe.trans (FLe.trans leG1 le4) le5) le6), (hs1), (by (try dsimp only) <;> omega), ((by dsimp only; rw [hos]; have hqq := fun h1 h2 => eqB_eqN (n := n) (right_iff.2 ⟨hsys, fill1 (hot (by omega)) hoa h1⟩) (right_iff.2 ⟨hsys, fill1 (hot (by omega)) hob h2⟩) hn0; first | exact (solTo_yes (by unfold sol1; simp_all)).symm | exact (solTo_no (by unfold sol1; simp_all)).symm))⟩, (by omega)⟩
              · refine X.skip ?_
                refine X.region ?_
                refine XL.cons (XOp.move (.int .i64 (((k : Nat) : Int))) rfl ?_)
                refine XL.cons (XOp.addR (a := ((k : Nat) : Int)) (b := 1) (((k + 1 : Nat) : Int)) rfl rfl (by omega) (by omega) ?_)
                refine XL.cons (XOp.assign (.int .i64 (((k + 1 : Nat) : Int))) rfl ?_)
                refine XL.nil ?_
                exact ⟨(k + 1, ov, os, F6), _, (FLe.trans (FLe.trans (FLe.trans leG1 le4) le5) le6), (FLe.refl _), ⟨rfl, rfl, rfl, rfl, rfl, rfl, rfl, trivial⟩, (Sub.drop (Sub.cons (Sub.cons (Sub.refl _)))), ⟨rfl, (FLe.trans (FLe.trans (FLe.trans leG1 le4) le5) le6), (hov), (by (try dsimp only) <;> omega), ((by dsimp only; rw [hos]; have hqq := fun h1 h2 => eqB_eqN (n := n) (right_iff.2 ⟨hsys, fill1 (hot (by omega)) hoa h1⟩) (right_iff.2 ⟨hsys, fill1 (hot (by omega)) hob h2⟩) hn0; first | exact (solTo_yes (by unfold sol1; simp_all)).symm | exact (solTo_no (by unfold sol1; simp_all)).symm))⟩, (by omega)⟩
            · rw [Bool.not_eq_true] at h6
              refine XL.no (t := 67) rfl (congrArg Value.bool h6) ?_
              refine XL.no (t := 67) rfl (congrArg Value.bool h6) ?_
              refine XL.no (t := 67) rfl (congrArg Value.bool h6) ?_
              refine XL.no (t := 67) rfl (congrArg Value.bool h6) ?_
              refine XL.no (t := 67) rfl (congrArg Value.bool h6) ?_
              refine XL.no (t := 67) rfl (congrArg Value.bool h6) ?_
              refine XL.cons (XOp.pickF (.bool (false)) (congrArg Value.bool h6) rfl ?_)
              refine XL.nil ?_
              refine X.condF rfl ?_
              refine X.skip ?_
              refine X.region ?_
              refine XL.cons (XOp.move (.int .i64 (((k : Nat) : Int))) rfl ?_)
              refine XL.cons (XOp.addR (a := ((k : Nat) : Int)) (b := 1) (((k + 1 : Nat) : Int)) rfl rfl (by omega) (by omega) ?_)
              refine XL.cons (XOp.assign (.int .i64 (((k + 1 : Nat) : Int))) rfl ?_)
              refine XL.nil ?_
              exact ⟨(k + 1, ov, os, F6), _, (FLe.trans (FLe.trans (FLe.trans leG1 le4) le5) le6), (FLe.refl _), ⟨rfl, rfl, rfl, rfl, rfl, rfl, rfl, trivial⟩, (Sub.drop (Sub.cons (Sub.cons (Sub.refl _)))), ⟨rfl, (FLe.trans (FLe.trans (FLe.trans leG1 le4) le5) le6), (hov), (by (try dsimp only) <;> omega), ((by dsimp only; rw [hos]; have hqq := fun h1 h2 => eqB_eqN (n := n) (right_iff.2 ⟨hsys, fill1 (hot (by omega)) hoa h1⟩) (right_iff.2 ⟨hsys, fill1 (hot (by omega)) hob h2⟩) hn0; first | exact (solTo_yes (by unfold sol1; simp_all)).symm | exact (solTo_no (by unfold sol1; simp_all)).symm))⟩, (by omega)⟩
          · rw [Bool.not_eq_true] at h5
            refine XL.no (t := 64) rfl (congrArg Value.bool h5) ?_
            refine XL.cons (XOp.pickF (.bool (false)) (congrArg Value.bool h5) rfl ?_)
            refine XL.cons (XOp.move (.bool (false)) rfl ?_)
            refine XL.no (t := 67) rfl rfl ?_
            refine XL.no (t := 67) rfl rfl ?_
            refine XL.no (t := 67) rfl rfl ?_
            refine XL.no (t := 67) rfl rfl ?_
            refine XL.no (t := 67) rfl rfl ?_
            refine XL.no (t := 67) rfl rfl ?_
            refine XL.cons (XOp.pickF (.bool (false)) rfl rfl ?_)
            refine XL.nil ?_
            refine X.condF rfl ?_
            refine X.skip ?_
            refine X.region ?_
            refine XL.cons (XOp.move (.int .i64 (((k : Nat) : Int))) rfl ?_)
            refine XL.cons (XOp.addR (a := ((k : Nat) : Int)) (b := 1) (((k + 1 : Nat) : Int)) rfl rfl (by omega) (by omega) ?_)
            refine XL.cons (XOp.assign (.int .i64 (((k + 1 : Nat) : Int))) rfl ?_)
            refine XL.nil ?_
            exact ⟨(k + 1, ov, os, F6), _, (FLe.trans (FLe.trans (FLe.trans leG1 le4) le5) le6), (FLe.refl _), ⟨rfl, rfl, rfl, rfl, rfl, rfl, rfl, trivial⟩, (Sub.drop (Sub.cons (Sub.cons (Sub.refl _)))), ⟨rfl, (FLe.trans (FLe.trans (FLe.trans leG1 le4) le5) le6), (hov), (by (try dsimp only) <;> omega), ((by dsimp only; rw [hos]; have hqq := fun h1 h2 => eqB_eqN (n := n) (right_iff.2 ⟨hsys, fill1 (hot (by omega)) hoa h1⟩) (right_iff.2 ⟨hsys, fill1 (hot (by omega)) hob h2⟩) hn0; first | exact (solTo_yes (by unfold sol1; simp_all)).symm | exact (solTo_no (by unfold sol1; simp_all)).symm))⟩, (by omega)⟩
        · refine X.exit (thenQ_exit (thenQ_exit (blockQ_exit ?_)))
          refine X.seq ?_
          refine X.region ?_
          refine XL.cons (XOp.move (ov) rfl ?_)
          refine XL.cons (XOp.assign (ov) rfl ?_)
          refine XL.nil ?_
          refine X.freezeF [] _ _ rfl (fun F7 le7 hz5 => ?_)
          replace har := har.mono le7
          replace hrs := hrs.mono le7
          replace ha := ha.mono le7
          replace hb := hb.mono le7
          replace hts := hts.mono le7
          have hf5 : IntsF F7 ov os := intsH.fz (xs := os) hz5.fz
          refine X.ret (retEnd (L' := L) [ov] (ov) (.tmp rfl .nil) rfl (FLe.trans leG1 le7) (FLe.refl _) (Sub.drop (Sub.refl _)) ?_)
          have e9 : solL ar rs a b ts n = os := by unfold solL; rw [if_pos hok, hos, show k = ts.length from by omega]
          exact ⟨_, rfl, by rw [e9]; exact hf5, rfl⟩

/- laws.FnExactSolutionsBy -/
set_option maxRecDepth 20000 in
theorem FnExactSolutionsBy_does {F : FH} {L : List HP} {arv : Value} {ar : List Int} (har : IntsF F arv ar) {rsv : Value} {rs : List (List Int × List Int)} (hrs : PairsF F rsv rs) {av : Value} {a : List Int} (ha : IntsF F av a) {bv : Value} {b : List Int} (hb : IntsF F bv b) {tsv : Value} {ts : List (List Int)} (hts : RowsF F tsv ts) {n : Int} (hlar : ar.length ≤ 9223372036854775807) (hlrs : rs.length ≤ 9223372036854775807) (hbrs : ∀ i, i < rs.length → (rs.getD i ([], [])).1.length ≤ 9223372036854775807 ∧ (rs.getD i ([], [])).2.length ≤ 9223372036854775807) (hla : a.length ≤ 9223372036854775807) (hlb : b.length ≤ 9223372036854775807) (hlts : ts.length ≤ 9223372036854775807) (hbts : ∀ i, i < ts.length → (ts.getD i []).length ≤ 9223372036854775807) :
    Does Tryz.prog 7 [.agg #[arv, rsv], av, bv, tsv, .int .i64 (n)] F (L) (fun v F' L' => (.bool (true) : Value) = v ∧ F = F' ∧ L = L') := by
  refine Does.of_X Tryz.func7 rfl rfl rfl ?_
  have hnl := solL_len (ar := ar) (rs := rs) (a := a) (b := b) (ts := ts) (n := n)
  refine X.seq ?_
  refine X.region ?_
  refine XL.cons (XOp.box [arv, rsv] rfl rfl ?_)
  intro b1
  refine XL.cons (XOp.assign (.bool (false)) rfl ?_)
  refine XL.nil ?_
  refine X.seq ?_
  refine X.seq ?_
  refine X.region ?_
  refine XL.cons (XOp.move (av) rfl ?_)
  refine XL.cons (XOp.lenS (v := av) (n := (a).length) Tryz.runUnderlying22 rfl ha.slv ?_)
  refine XL.cons (XOp.gtr (a := (((a).length : Nat) : Int)) (b := 1048576) rfl rfl ?_)
  refine XL.nil ?_
  refine X.condD (p := ((((a).length : Nat) : Int) : Int) > 1048576) rfl (fun h1 => ?_) (fun h1 => ?_)
  · refine X.seq ?_
    refine X.region ?_
    refine XL.cons (XOp.assign (.bool (true)) rfl ?_)
    refine XL.nil ?_
    refine X.ret (thenQ_ret (retEnd (L' := L) [.bool (true)] (.bool (true)) (.tmp rfl .nil) rfl (FLe.refl _) (FLe.refl _) (Sub.drop (Sub.refl _)) ?_))
    exact ⟨rfl, rfl, rfl⟩
  · refine X.skip ?_
    refine X.seq ?_
    refine X.seq ?_
    refine X.region ?_
    refine XL.cons (XOp.move (bv) rfl ?_)
    refine XL.cons (XOp.lenS (v := bv) (n := (b).length) Tryz.runUnderlying22 rfl hb.slv ?_)
    refine XL.cons (XOp.gtr (a := (((b).length : Nat) : Int)) (b := 1048576) rfl rfl ?_)
    refine XL.nil ?_
    refine X.condD (p := ((((b).length : Nat) : Int) : Int) > 1048576) rfl (fun h2 => ?_) (fun h2 => ?_)
    · refine X.seq ?_
      refine X.region ?_
      refine XL.cons (XOp.assign (.bool (true)) rfl ?_)
      refine XL.nil ?_
      refine X.ret (thenQ_ret (retEnd (L' := L) [.bool (true)] (.bool (true)) (.tmp rfl .nil) rfl (FLe.refl _) (FLe.refl _) (Sub.drop (Sub.refl _)) ?_))
      exact ⟨rfl, rfl, rfl⟩
    · refine X.skip ?_
      refine X.seq ?_
      refine X.region ?_
      refine XL.cons (XOp.assign (.int .i64 (1048576)) rfl ?_)
      refine XL.nil ?_
      refine X.seq ?_
      refine X.region ?_
      refine XL.cons (XOp.loadN [arv, rsv] Tryz.isAgg27 Tryz.sizeOf27 rfl rfl (Rd.ownN [] rfl rfl) ?_)
      refine XL.cons (XOp.move (.int .i64 (1048576)) rfl ?_)
      refine XL.cons (XOp.call (args := [.agg #[arv, rsv], .int .i64 (1048576)]) Tryz.call10 rfl (szSystem_spec (z := 1048576) har hrs (hz := (by first | assumption | rfl | omega | (left; simp; done) | (right; simp; done))) (hal := (by first | assumption | rfl | omega | (left; simp; done) | (right; simp; done))) (hrl := (by first | assumption | rfl | omega | (left; simp; done) | (right; simp; done))) (hrb := (by first | assumption | rfl | omega | (left; simp; done) | (right; simp; done)))) ?_)
      rintro _ _ _ _ ⟨rfl, rfl, rfl⟩
      refine XL.cons (XOp.assign (.int .i64 (dec 1048576 (ar.length + szR rs))) rfl ?_)
      refine XL.nil ?_
      refine X.seq ?_
      refine X.seq ?_
      refine X.region ?_
      refine XL.cons (XOp.move (.int .i64 (dec 1048576 (ar.length + szR rs))) rfl ?_)
      refine XL.cons (XOp.lss (a := dec 1048576 (ar.length + szR rs)) (b := 0) rfl rfl ?_)
      refine XL.nil ?_
      refine X.condD (p := (dec 1048576 (ar.length + szR rs) : Int) < 0) rfl (fun h3 => ?_) (fun h3 => ?_)
      · refine X.seq ?_
        refine X.region ?_
        refine XL.cons (XOp.assign (.bool (true)) rfl ?_)
        refine XL.nil ?_
        refine X.ret (thenQ_ret (retEnd (L' := L) [.bool (true)] (.bool (true)) (.tmp rfl .nil) rfl (FLe.refl _) (FLe.refl _) (Sub.drop (Sub.refl _)) ?_))
        exact ⟨rfl, rfl, rfl⟩
      · have hd1 := dec_le2 h3 (by omega)
        have hzrs := szR_le (rs := rs)
        have hirs := hzrs.2
        have hcrs : ∀ i, i < rs.length → (rs.getD i ([], [])).1.length ≤ 4000000 ∧ (rs.getD i ([], [])).2.length ≤ 4000000 := fun i hi => by have := hirs i hi; omega
        have hfrs := flatPair_len rs
        refine X.skip ?_
        refine X.seq ?_
        refine X.region ?_
        refine XL.cons (XOp.move (tsv) rfl ?_)
        refine XL.cons (XOp.move (.int .i64 (dec 1048576 (ar.length + szR rs))) rfl ?_)
        refine XL.cons (XOp.call (args := [tsv, .int .i64 (dec 1048576 (ar.length + szR rs))]) Tryz.call27 rfl (szInt64SS_spec (z := dec 1048576 (ar.length + szR rs)) hts (hz := (by first | assumption | rfl | omega | (left; simp; done) | (right; simp; done))) (hrl := (by first | assumption | rfl | omega | (left; simp; done) | (right; simp; done))) (hrb := (by first | assumption | rfl | omega | (left; simp; done) | (right; simp; done)))) ?_)
        rintro _ _ _ _ ⟨rfl, rfl, rfl⟩
        refine XL.cons (XOp.assign (.int .i64 (dec (dec 1048576 (ar.length + szR rs)) (szG lenR ts))) rfl ?_)
        refine XL.nil ?_
        refine X.seq ?_
        refine X.seq ?_
        refine X.region ?_
        refine XL.cons (XOp.move (.int .i64 (dec (dec 1048576 (ar.length + szR rs)) (szG lenR ts))) rfl ?_)
        refine XL.cons (XOp.lss (a := dec (dec 1048576 (ar.length + szR rs)) (szG lenR ts)) (b := 0) rfl rfl ?_)
        refine XL.nil ?_
        refine X.condD (p := (dec (dec 1048576 (ar.length + szR rs)) (szG lenR ts) : Int) < 0) rfl (fun h4 => ?_) (fun h4 => ?_)
        · refine X.seq ?_
          refine X.region ?_
          refine XL.cons (XOp.assign (.bool (true)) rfl ?_)
          refine XL.nil ?_
          refine X.ret (thenQ_ret (retEnd (L' := L) [.bool (true)] (.bool (true)) (.tmp rfl .nil) rfl (FLe.refl _) (FLe.refl _) (Sub.drop (Sub.refl _)) ?_))
          exact ⟨rfl, rfl, rfl⟩
        · have hd2 := dec_le2 h4 (by omega)
          have hzts := szG_le (f := lenR) (l := ts) ([] : List Int)
          have hits := hzts.2
          have hcts : ∀ i, i < ts.length → (ts.getD i []).length ≤ 4000000 := fun i hi => by have h9 := hits i hi; have h8 : lenR (ts.getD i []) = (ts.getD i []).length := rfl; omega
          have hfts := flatRow_len ts
          have hq9ts : szG lenR ts = ts.length + gTo lenR ts ts.length := rfl
          refine X.skip ?_
          refine X.seq ?_
          refine X.region ?_
          refine XL.cons (XOp.loadN [arv, rsv] Tryz.isAgg27 Tryz.sizeOf27 rfl rfl (Rd.ownN [] rfl rfl) ?_)
          refine XL.cons (XOp.thawL ?_)
          refine id (XOp.call (args := [.agg #[arv, rsv]]) Tryz.call12 rfl (toSystem_spec har hrs (hla := (by first | assumption | rfl | omega | (left; simp; done) | (right; simp; done))) (hrl := (by first | assumption | rfl | omega | (left; simp; done) | (right; simp; done))) (hrb := (by first | assumption | rfl | omega | (left; simp; done) | (right; simp; done)))) ?_)
          rintro _ F1 _ le1 ⟨x1, x2, rfl, hr1, hr2, hr3, rfl⟩
          refine ⟨[intsH 2 x1 ar, pairsD 2 135 x2 rs], hr3, ?_⟩
          show XL _ _ _ _ _ _ _ (intsH 2 x1 ar :: pairsD 2 135 x2 rs :: cellsH b1 [arv, rsv] 27 :: L)
          refine XL.cons (XOp.move (av) rfl ?_)
          refine XL.cons (XOp.call (args := [av]) Tryz.call13 rfl (toInt64S_spec ha (hlx := (by first | assumption | rfl | omega | (left; simp; done) | (right; simp; done)))) ?_)
          rintro v1 _ _ _ ⟨rfl, hs1, rfl⟩
          refine XL.cons (XOp.move (bv) rfl ?_)
          refine XL.cons (XOp.call (args := [bv]) Tryz.call13 rfl (toInt64S_spec hb (hlx := (by first | assumption | rfl | omega | (left; simp; done) | (right; simp; done)))) ?_)
          rintro v2 _ _ _ ⟨rfl, hs2, rfl⟩
          refine XL.cons (XOp.move (tsv) rfl ?_)
          refine XL.cons (XOp.thawL ?_)
          refine id (XOp.call (args := [tsv]) Tryz.call29 rfl (toInt64SS_spec hts (hlx := (by first | assumption | rfl | omega | (left; simp; done) | (right; simp; done))) (hrb := (by first | assumption | rfl | omega | (left; simp; done) | (right; simp; done)))) ?_)
          rintro _ F2 _ le2 ⟨x3, rfl, hr4, hr5, rfl⟩
          refine ⟨[rowsD 2 22 x3 ts], hr5, ?_⟩
          show XL _ _ _ _ _ _ _ (rowsD 2 22 x3 ts :: intsH 2 v2 ((b)) :: intsH 2 v1 ((a)) :: intsH 2 x1 ar :: pairsD 2 135 x2 rs :: cellsH b1 [arv, rsv] 27 :: L)
          refine XL.cons (XOp.move (.int .i64 (n)) rfl ?_)
          refine XL.freezeF [_, _, _] _ _ rfl (fun F3 le3 hz1 => ?_)
          replace har := har.mono le3
          replace hrs := hrs.mono le3
          replace ha := ha.mono le3
          replace hb := hb.mono le3
          replace hts := hts.mono le3
          have hf1 : IntsF F3 x1 ar := intsH.fz (xs := ar) hz1.fz
          refine XL.freezeF [_, _, _] _ _ rfl (fun F4 le4 hz2 => ?_)
          replace har := har.mono le4
          replace hrs := hrs.mono le4
          replace ha := ha.mono le4
          replace hb := hb.mono le4
          replace hts := hts.mono le4
          replace hf1 := hf1.mono le4
          have hf2 : PairsF F4 x2 rs := pairsD.fz hz2.fz
          refine XL.freezeF [_, _] _ _ rfl (fun F5 le5 hz3 => ?_)
          replace har := har.mono le5
          replace hrs := hrs.mono le5
          replace ha := ha.mono le5
          replace hb := hb.mono le5
          replace hts := hts.mono le5
          replace hf1 := hf1.mono le5
          replace hf2 := hf2.mono le5
          have hf3 : IntsF F5 v1 ((a)) := intsH.fz (xs := (a)) hz3.fz
          refine XL.freezeF [_] _ _ rfl (fun F6 le6 hz4 => ?_)
          replace har := har.mono le6
          replace hrs := hrs.mono le6
          replace ha := ha.mono le6
          replace hb := hb.mono le6
          replace hts := hts.mono le6
          replace hf1 := hf1.mono le6
          replace hf2 := hf2.mono le6
          replace hf3 := hf3.mono le6
          have hf4 : IntsF F6 v2 ((b)) := intsH.fz (xs := (b)) hz4.fz
          refine XL.freezeF [] _ _ rfl (fun F7 le7 hz5 => ?_)
          replace har := har.mono le7
          replace hrs := hrs.mono le7
          replace ha := ha.mono le7
          replace hb := hb.mono le7
          replace hts := hts.mono le7
          replace hf1 := hf1.mono le7
          replace hf2 := hf2.mono le7
          replace hf3 := hf3.mono le7
          replace hf4 := hf4.mono le7
          have hf5 : RowsF F7 x3 ts := rowsD.fz hz5.fz
          refine XL.cons (XOp.call (args := [.agg #[x1, x2], v1, v2, x3, .int .i64 (n)]) Tryz.call36 rfl (sSolutionsBy_spec (n := n) hf1 hf2 hf3 hf4 hf5 (hla := (by first | assumption | rfl | omega | (left; simp; done) | (right; simp; done))) (hlr := (by first | assumption | rfl | omega | (left; simp; done) | (right; simp; done))) (hrb := (by first | assumption | rfl | omega | (left; simp; done) | (right; simp; done))) (hlt := (by first | assumption | rfl | omega | (left; simp; done) | (right; simp; done))) (htb := (by first | assumption | rfl | omega | (left; simp; done) | (right; simp; done))) (hlta := (by first | assumption | rfl | omega | (left; simp; done) | (right; simp; done))) (hltb := (by first | assumption | rfl | omega | (left; simp; done) | (right; simp; done)))) ?_)
          rintro _ F8 _ le8 ⟨x4, rfl, hr6, rfl⟩
          replace har := har.mono le8
          replace hrs := hrs.mono le8
          replace ha := ha.mono le8
          replace hb := hb.mono le8
          replace hts := hts.mono le8
          replace hf1 := hf1.mono le8
          replace hf2 := hf2.mono le8
          replace hf3 := hf3.mono le8
          replace hf4 := hf4.mono le8
          replace hf5 := hf5.mono le8
          refine XL.cons (XOp.assign (x4) rfl ?_)
          refine XL.nil ?_
          refine X.seq ?_
          refine X.region ?_
          refine XL.cons (XOp.loadN [arv, rsv] Tryz.isAgg27 Tryz.sizeOf27 rfl rfl (Rd.ownN [] rfl rfl) ?_)
          refine XL.cons (XOp.thawL ?_)
          refine id (XOp.call (args := [.agg #[arv, rsv]]) Tryz.call12 rfl (toSystem_spec har hrs (hla := (by first | assumption | rfl | omega | (left; simp; done) | (right; simp; done))) (hrl := (by first | assumption | rfl | omega | (left; simp; done) | (right; simp; done))) (hrb := (by first | assumption | rfl | omega | (left; simp; done) | (right; simp; done)))) ?_)
          rintro _ F9 _ le9 ⟨x5, x6, rfl, hr7, hr8, hr9, rfl⟩
          refine ⟨[intsH 2 x5 ar, pairsD 2 135 x6 rs], hr9, ?_⟩
          show XL _ _ _ _ _ _ _ (intsH 2 x5 ar :: pairsD 2 135 x6 rs :: cellsH b1 [arv, rsv] 27 :: L)
          refine XL.cons (XOp.alloc [(.slice none 0 0), (.slice none 0 0)] Tryz.zeroValue37 rfl ?_)
          intro b2
          refine XL.cons (XOp.storeN (vs := [x5, x6]) [] _ [x5, x6] Tryz.sizeOf37 rfl rfl rfl (ones_cons (one_sl (IntsF.isSl hr7)) (ones_cons (one_sl (PairsF.isSl hr8)) ones_nil)) rfl rfl rfl ?_)
          refine XL.nil ?_
          refine X.seq ?_
          refine X.region ?_
          refine XL.cons (XOp.move (av) rfl ?_)
          refine XL.cons (XOp.call (args := [av]) Tryz.call13 rfl (toInt64S_spec ha (hlx := (by first | assumption | rfl | omega | (left; simp; done) | (right; simp; done)))) ?_)
          rintro v3 _ _ _ ⟨rfl, hs3, rfl⟩
          refine XL.cons (XOp.assign (v3) rfl ?_)
          refine XL.nil ?_
          refine X.seq ?_
          refine X.region ?_
          refine XL.cons (XOp.move (bv) rfl ?_)
          refine XL.cons (XOp.call (args := [bv]) Tryz.call13 rfl (toInt64S_spec hb (hlx := (by first | assumption | rfl | omega | (left; simp; done) | (right; simp; done)))) ?_)
          rintro v4 _ _ _ ⟨rfl, hs4, rfl⟩
          refine XL.cons (XOp.assign (v4) rfl ?_)
          refine XL.nil ?_
          refine X.seq ?_
          refine X.region ?_
          refine XL.cons (XOp.move (tsv) rfl ?_)
          refine XL.cons (XOp.thawL ?_)
          refine id (XOp.call (args := [tsv]) Tryz.call29 rfl (toInt64SS_spec hts (hlx := (by first | assumption | rfl | omega | (left; simp; done) | (right; simp; done))) (hrb := (by first | assumption | rfl | omega | (left; simp; done) | (right; simp; done)))) ?_)
          rintro _ F10 _ le10 ⟨x7, rfl, hr10, hr11, rfl⟩
          refine ⟨[rowsD 2 22 x7 ts], hr11, ?_⟩
          show XL _ _ _ _ _ _ _ (rowsD 2 22 x7 ts :: intsH 2 v4 ((b)) :: intsH 2 v3 ((a)) :: cellsH b2 [x5, x6] 37 :: intsH 2 x5 ar :: pairsD 2 135 x6 rs :: cellsH b1 [arv, rsv] 27 :: L)
          refine XL.cons (XOp.assign (x7) rfl ?_)
          refine XL.nil ?_
          refine X.seq ?_
          refine X.region ?_
          refine XL.cons (XOp.loadN [x5, x6] Tryz.isAgg37 Tryz.sizeOf37 rfl rfl (Rd.ownN [_, _, _] rfl rfl) ?_)
          refine XL.cons (XOp.move (v3) rfl ?_)
          refine XL.cons (XOp.move (v4) rfl ?_)
          refine XL.cons (XOp.move (x7) rfl ?_)
          refine XL.cons (XOp.move (.int .i64 (n)) rfl ?_)
          refine XL.cons (XOp.lend [_, _, _, _] _ _ rfl (fun F11 le11 hz6 => ?_))
          refine id (XOp.lend [_, _, _, _] _ _ rfl (fun F12 le12 hz7 => ?_))
          refine id (XOp.lend [_, _] _ _ rfl (fun F13 le13 hz8 => ?_))
          refine id (XOp.lend [_] _ _ rfl (fun F14 le14 hz9 => ?_))
          refine id (XOp.lend [] _ _ rfl (fun F15 le15 hz10 => ?_))
          have hf6 : IntsF _ x5 ar := (intsH.fz (xs := ar) hz6).mono (FLe.trans (FLe.trans (FLe.trans le12 le13) le14) le15)
          have hf7 : PairsF _ x6 rs := (pairsD.fz hz7).mono (FLe.trans (FLe.trans le13 le14) le15)
          have hf8 : IntsF _ v3 ((a)) := (intsH.fz (xs := (a)) hz8).mono (FLe.trans le14 le15)
          have hf9 : IntsF _ v4 ((b)) := (intsH.fz (xs := (b)) hz9).mono le15
          have hf10 : RowsF _ x7 ts := rowsD.fz hz10
          refine id (XOp.thawL ?_)
          refine id (XOp.call (args := [.agg #[x5, x6], v3, v4, x7, .int .i64 (n)]) Tryz.call37 rfl (SolutionsBy_spec (n := n) hf6 hf7 hf8 hf9 hf10 (hlt := (by first | assumption | rfl | omega | (left; simp; done) | (right; simp; done)))) ?_)
          rintro _ F16 _ le16 ⟨x8, rfl, hr12, hr13, rfl⟩
          refine ⟨[intsH 2 x8 (solL ar rs ((a)) ((b)) ts n)], hr13, ?_⟩
          show XL _ _ _ _ _ _ _ (intsH 2 x5 ar :: pairsD 2 135 x6 rs :: intsH 2 v3 ((a)) :: intsH 2 v4 ((b)) :: rowsD 2 22 x7 ts :: intsH 2 x8 (solL ar rs ((a)) ((b)) ts n) :: cellsH b2 [x5, x6] 37 :: cellsH b1 [arv, rsv] 27 :: L)
          refine XL.cons (XOp.assign (x8) rfl ?_)
          refine XL.nil ?_
          refine X.seq ?_
          refine X.seq ?_
          refine X.region ?_
          refine XL.cons (XOp.move (x8) rfl ?_)
          refine XL.cons (XOp.move (x4) rfl ?_)
          refine XL.cons (XOp.lend [_, _, _, _, _] _ _ rfl (fun F17 le17 hz11 => ?_))
          have hf11 : IntsF _ x8 (solL ar rs ((a)) ((b)) ts n) := intsH.fz (xs := solL ar rs ((a)) ((b)) ts n) hz11
          refine id (XOp.call (args := [x8, x4]) Tryz.call17 rfl (eqInt64S_spec hf11 ((hr6.mono le17)) (hbd := (by first | assumption | rfl | omega | (left; simp; done) | (right; simp; done)))) ?_)
          rintro _ _ _ _ ⟨rfl, rfl, rfl⟩
          show XL _ _ _ _ _ _ _ (intsH 2 x8 (solL ar rs ((a)) ((b)) ts n) :: intsH 2 x5 ar :: pairsD 2 135 x6 rs :: intsH 2 v3 ((a)) :: intsH 2 v4 ((b)) :: rowsD 2 22 x7 ts :: cellsH b2 [x5, x6] 37 :: cellsH b1 [arv, rsv] 27 :: L)
          refine XL.cons (XOp.notD (p := (solL ar rs ((a)) ((b)) ts n) = (solL ar rs ((a)) ((b)) ts n)) rfl ?_)
          refine XL.nil ?_
          refine X.condD (p := ¬((solL ar rs ((a)) ((b)) ts n) = (solL ar rs ((a)) ((b)) ts n))) rfl (fun h5 => ?_) (fun h5 => ?_)
          · exact absurd (by first | rfl | exact ⟨rfl, rfl⟩ | exact ⟨⟨rfl, rfl⟩, rfl, rfl⟩ | simp) h5
          · refine X.skip ?_
            refine X.seq ?_
            refine X.seq ?_
            refine X.drawG [intsH 2 x8 (solL ar rs ((a)) ((b)) ts n), intsH 2 x5 ar, pairsD 2 135 x6 rs, intsH 2 v3 ((a)), intsH 2 v4 ((b)), rowsD 2 22 x7 ts, cellsH b2 [x5, x6] 37, cellsH b1 [arv, rsv] 27] L 3 [[], [], []] [[], [], [1]] [[], [], []] (phiG [fun FF us v => v = (.agg #[x5, x6] : Value), fun FF us v => v = (.agg #[arv, rsv] : Value), fun FF us v => (.agg #[((aggAt v 0)), ((aggAt v 1))] : Value) = v ∧ (IntsF FF ((aggAt v 0)) ar) ∧ (PairsF FF ((aggAt v 1)) rs)]) (ownL [fun us v => [], fun us v => [], fun us v => []]) mixed rfl rfl (by kernel_rfl) (by kernel_rfl) (MonoG.get (MonoG.cons (fun le h => h) (MonoG.cons (fun le h => h) (MonoG.cons (fun le h => ⟨h.1, h.2.1.mono le, h.2.2.mono le⟩) MonoG.nil)))) ?_ ?_
            · refine stepsG.cons (fun vals Fs R leFs hpZ => ?_) ?_
              · replace har := har.mono leFs
                replace hrs := hrs.mono leFs
                replace ha := ha.mono leFs
                replace hb := hb.mono leFs
                replace hts := hts.mono leFs
                replace hf1 := hf1.mono leFs
                replace hf2 := hf2.mono leFs
                replace hf3 := hf3.mono leFs
                replace hf4 := hf4.mono leFs
                replace hf5 := hf5.mono leFs
                replace hr6 := hr6.mono leFs
                refine XG.op (XOp.loadN [x5, x6] Tryz.isAgg37 Tryz.sizeOf37 rfl rfl (Rd.ownN [_, _, _, _, _, _] rfl rfl) ?_)
                exact ⟨rfl, rfl⟩
              refine stepsG.cons (fun vals Fs R leFs hpZ => ?_) ?_
              · replace har := har.mono leFs
                replace hrs := hrs.mono leFs
                replace ha := ha.mono leFs
                replace hb := hb.mono leFs
                replace hts := hts.mono leFs
                replace hf1 := hf1.mono leFs
                replace hf2 := hf2.mono leFs
                replace hf3 := hf3.mono leFs
                replace hf4 := hf4.mono leFs
                replace hf5 := hf5.mono leFs
                replace hr6 := hr6.mono leFs
                refine XG.op (XOp.loadN [arv, rsv] Tryz.isAgg27 Tryz.sizeOf27 rfl rfl (Rd.ownN [_, _, _, _, _, _, _] rfl rfl) ?_)
                exact ⟨rfl, rfl⟩
              refine stepsG.cons (fun vals Fs R leFs hpZ => ?_) ?_
              · have e1 : vals 1 = (.agg #[arv, rsv] : Value) := hpZ 1 (by decide)
                replace har := har.mono leFs
                replace hrs := hrs.mono leFs
                replace ha := ha.mono leFs
                replace hb := hb.mono leFs
                replace hts := hts.mono leFs
                replace hf1 := hf1.mono leFs
                replace hf2 := hf2.mono leFs
                replace hf3 := hf3.mono leFs
                replace hf4 := hf4.mono leFs
                replace hf5 := hf5.mono leFs
                replace hr6 := hr6.mono leFs
                rw [(envs_of_sat (l := [(1, (.agg #[arv, rsv] : Value))]) ⟨e1, trivial⟩).symm]
                refine XG.op (XOp.call (args := [.agg #[arv, rsv]]) Tryz.call12 rfl (toSystem_spec har hrs (hla := (by first | assumption | rfl | omega | (left; simp; done) | (right; simp; done))) (hrl := (by first | assumption | rfl | omega | (left; simp; done) | (right; simp; done))) (hrb := (by first | assumption | rfl | omega | (left; simp; done) | (right; simp; done)))) ?_)
                rintro _ F19 _ le19 ⟨x11, x12, rfl, hr17, hr18, hr19, rfl⟩
                replace har := har.mono le19
                replace hrs := hrs.mono le19
                replace ha := ha.mono le19
                replace hb := hb.mono le19
                replace hts := hts.mono le19
                replace hf1 := hf1.mono le19
                replace hf2 := hf2.mono le19
                replace hf3 := hf3.mono le19
                replace hf4 := hf4.mono le19
                replace hf5 := hf5.mono le19
                replace hr6 := hr6.mono le19
                exact ⟨⟨rfl, hr17, hr18⟩, rfl⟩
              exact stepsG.nil
            · intro vals F20 le20 hphi
              have e0 : vals 0 = (.agg #[x5, x6] : Value) := hphi 0 (by decide)
              have e1 : vals 1 = (.agg #[arv, rsv] : Value) := hphi 1 (by decide)
              obtain ⟨e2, f2_1hr1, f2_1hr2⟩ := hphi 2 (by decide)
              generalize hu1 : ((aggAt (vals 2) 0)) = u1 at e0 e1 e2 f2_1hr1 f2_1hr2
              generalize hu2 : ((aggAt (vals 2) 1)) = u2 at e0 e1 e2 f2_1hr1 f2_1hr2
              rw [(envs_of_sat (l := [(0, (.agg #[x5, x6] : Value)), (1, (.agg #[arv, rsv] : Value)), (2, (.agg #[u1, u2] : Value))]) ⟨e0, e1, (e2).symm, trivial⟩).symm]
              replace har := har.mono le20
              replace hrs := hrs.mono le20
              replace ha := ha.mono le20
              replace hb := hb.mono le20
              replace hts := hts.mono le20
              replace hf1 := hf1.mono le20
              replace hf2 := hf2.mono le20
              replace hf3 := hf3.mono le20
              replace hf4 := hf4.mono le20
              replace hf5 := hf5.mono le20
              replace hr6 := hr6.mono le20
              show XL _ _ _ _ _ _ _ (intsH 2 x8 (solL ar rs ((a)) ((b)) ts n) :: intsH 2 x5 ar :: pairsD 2 135 x6 rs :: intsH 2 v3 ((a)) :: intsH 2 v4 ((b)) :: rowsD 2 22 x7 ts :: cellsH b2 [x5, x6] 37 :: cellsH b1 [arv, rsv] 27 :: L)
              refine XL.cons (XOp.lend [_] _ _ rfl (fun F21 le21 hz12 => ?_))
              refine id (XOp.lend [_] _ _ rfl (fun F22 le22 hz13 => ?_))
              have hf12 : IntsF _ x5 ar := (intsH.fz (xs := ar) hz12).mono le22
              have hf13 : PairsF _ x6 rs := pairsD.fz hz13
              refine id (XOp.call (args := [.agg #[x5, x6], .agg #[u1, u2]]) Tryz.call16 rfl (eqSystem_spec hf12 hf13 ((f2_1hr1.mono (FLe.trans le21 le22))) ((f2_1hr2.mono (FLe.trans le21 le22))) (hcl := (by first | assumption | rfl | omega | (left; simp; done) | (right; simp; done))) (hal := (by first | assumption | rfl | omega | (left; simp; done) | (right; simp; done))) (hbd := (by first | assumption | rfl | omega | (left; simp; done) | (right; simp; done)))) ?_)
              rintro _ _ _ _ ⟨rfl, rfl, rfl⟩
              show XL _ _ _ _ _ _ _ (intsH 2 x5 ar :: pairsD 2 135 x6 rs :: intsH 2 x8 (solL ar rs ((a)) ((b)) ts n) :: intsH 2 v3 ((a)) :: intsH 2 v4 ((b)) :: rowsD 2 22 x7 ts :: cellsH b2 [x5, x6] 37 :: cellsH b1 [arv, rsv] 27 :: L)
              refine XL.cons (XOp.notD (p := ar = ar ∧ rs = rs) rfl ?_)
              refine XL.nil ?_
              refine X.condD (p := ¬(ar = ar ∧ rs = rs)) rfl (fun h6 => ?_) (fun h6 => ?_)
              · exact absurd (by first | rfl | exact ⟨rfl, rfl⟩ | exact ⟨⟨rfl, rfl⟩, rfl, rfl⟩ | simp) h6
              · refine X.skip ?_
                refine X.seq ?_
                refine X.seq ?_
                refine X.region ?_
                refine XL.cons (XOp.move (v3) rfl ?_)
                refine XL.cons (XOp.move (av) rfl ?_)
                refine XL.cons (XOp.call (args := [av]) Tryz.call13 rfl (toInt64S_spec ha (hlx := (by first | assumption | rfl | omega | (left; simp; done) | (right; simp; done)))) ?_)
                rintro v5 _ _ _ ⟨rfl, hs5, rfl⟩
                refine XL.cons (XOp.lend [_, _, _, _] _ _ rfl (fun F23 le23 hz14 => ?_))
                refine id (XOp.lend [] _ _ rfl (fun F24 le24 hz15 => ?_))
                have hf14 : IntsF _ v3 ((a)) := (intsH.fz (xs := (a)) hz14).mono le24
                have hf15 : IntsF _ v5 ((a)) := intsH.fz (xs := (a)) hz15
                refine id (XOp.call (args := [v3, v5]) Tryz.call17 rfl (eqInt64S_spec hf14 hf15 (hbd := (by first | assumption | rfl | omega | (left; simp; done) | (right; simp; done)))) ?_)
                rintro _ _ _ _ ⟨rfl, rfl, rfl⟩
                show XL _ _ _ _ _ _ _ (intsH 2 v3 ((a)) :: intsH 2 v5 ((a)) :: intsH 2 x5 ar :: pairsD 2 135 x6 rs :: intsH 2 x8 (solL ar rs ((a)) ((b)) ts n) :: intsH 2 v4 ((b)) :: rowsD 2 22 x7 ts :: cellsH b2 [x5, x6] 37 :: cellsH b1 [arv, rsv] 27 :: L)
                refine XL.cons (XOp.notD (p := ((a)) = ((a))) rfl ?_)
                refine XL.nil ?_
                refine X.condD (p := ¬(((a)) = ((a)))) rfl (fun h7 => ?_) (fun h7 => ?_)
                · exact absurd (by first | rfl | exact ⟨rfl, rfl⟩ | exact ⟨⟨rfl, rfl⟩, rfl, rfl⟩ | simp) h7
                · refine X.skip ?_
                  refine X.seq ?_
                  refine X.seq ?_
                  refine X.region ?_
                  refine XL.cons (XOp.move (v4) rfl ?_)
                  refine XL.cons (XOp.move (bv) rfl ?_)
                  refine XL.cons (XOp.call (args := [bv]) Tryz.call13 rfl (toInt64S_spec hb (hlx := (by first | assumption | rfl | omega | (left; simp; done) | (right; simp; done)))) ?_)
                  rintro v6 _ _ _ ⟨rfl, hs6, rfl⟩
                  refine XL.cons (XOp.lend [_, _, _, _, _, _] _ _ rfl (fun F25 le25 hz16 => ?_))
                  refine id (XOp.lend [] _ _ rfl (fun F26 le26 hz17 => ?_))
                  have hf16 : IntsF _ v4 ((b)) := (intsH.fz (xs := (b)) hz16).mono le26
                  have hf17 : IntsF _ v6 ((b)) := intsH.fz (xs := (b)) hz17
                  refine id (XOp.call (args := [v4, v6]) Tryz.call17 rfl (eqInt64S_spec hf16 hf17 (hbd := (by first | assumption | rfl | omega | (left; simp; done) | (right; simp; done)))) ?_)
                  rintro _ _ _ _ ⟨rfl, rfl, rfl⟩
                  show XL _ _ _ _ _ _ _ (intsH 2 v4 ((b)) :: intsH 2 v6 ((b)) :: intsH 2 v3 ((a)) :: intsH 2 v5 ((a)) :: intsH 2 x5 ar :: pairsD 2 135 x6 rs :: intsH 2 x8 (solL ar rs ((a)) ((b)) ts n) :: rowsD 2 22 x7 ts :: cellsH b2 [x5, x6] 37 :: cellsH b1 [arv, rsv] 27 :: L)
                  refine XL.cons (XOp.notD (p := ((b)) = ((b))) rfl ?_)
                  refine XL.nil ?_
                  refine X.condD (p := ¬(((b)) = ((b)))) rfl (fun h8 => ?_) (fun h8 => ?_)
                  · exact absurd (by first | rfl | exact ⟨rfl, rfl⟩ | exact ⟨⟨rfl, rfl⟩, rfl, rfl⟩ | simp) h8
                  · refine X.skip ?_
                    refine X.seq ?_
                    refine X.seq ?_
                    refine X.region ?_
                    refine XL.cons (XOp.move (x7) rfl ?_)
                    refine XL.cons (XOp.move (tsv) rfl ?_)
                    refine XL.cons (XOp.thawL ?_)
                    refine id (XOp.call (args := [tsv]) Tryz.call29 rfl (toInt64SS_spec hts (hlx := (by first | assumption | rfl | omega | (left; simp; done) | (right; simp; done))) (hrb := (by first | assumption | rfl | omega | (left; simp; done) | (right; simp; done)))) ?_)
                    rintro _ F27 _ le27 ⟨x13, rfl, hr20, hr21, rfl⟩
                    refine ⟨[rowsD 2 22 x13 ts], hr21, ?_⟩
                    show XL _ _ _ _ _ _ _ (rowsD 2 22 x13 ts :: intsH 2 v4 ((b)) :: intsH 2 v6 ((b)) :: intsH 2 v3 ((a)) :: intsH 2 v5 ((a)) :: intsH 2 x5 ar :: pairsD 2 135 x6 rs :: intsH 2 x8 (solL ar rs ((a)) ((b)) ts n) :: rowsD 2 22 x7 ts :: cellsH b2 [x5, x6] 37 :: cellsH b1 [arv, rsv] 27 :: L)
                    refine XL.cons (XOp.lend [_, _, _, _, _, _, _, _] _ _ rfl (fun F28 le28 hz18 => ?_))
                    refine id (XOp.lend [] _ _ rfl (fun F29 le29 hz19 => ?_))
                    have hf18 : RowsF _ x7 ts := (rowsD.fz hz18).mono le29
                    have hf19 : RowsF _ x13 ts := rowsD.fz hz19
                    refine id (XOp.call (args := [x7, x13]) Tryz.call31 rfl (eqInt64SS_spec hf18 hf19 (hal := (by first | assumption | rfl | omega | (left; simp; done) | (right; simp; done))) (hbd := (by first | assumption | rfl | omega | (left; simp; done) | (right; simp; done)))) ?_)
                    rintro _ _ _ _ ⟨rfl, rfl, rfl⟩
                    show XL _ _ _ _ _ _ _ (rowsD 2 22 x7 ts :: rowsD 2 22 x13 ts :: intsH 2 v4 ((b)) :: intsH 2 v6 ((b)) :: intsH 2 v3 ((a)) :: intsH 2 v5 ((a)) :: intsH 2 x5 ar :: pairsD 2 135 x6 rs :: intsH 2 x8 (solL ar rs ((a)) ((b)) ts n) :: cellsH b2 [x5, x6] 37 :: cellsH b1 [arv, rsv] 27 :: L)
                    refine XL.cons (XOp.notD (p := ts = ts) rfl ?_)
                    refine XL.nil ?_
                    refine X.condD (p := ¬(ts = ts)) rfl (fun h9 => ?_) (fun h9 => ?_)
                    · exact absurd (by first | rfl | exact ⟨rfl, rfl⟩ | exact ⟨⟨rfl, rfl⟩, rfl, rfl⟩ | simp) h9
                    · refine X.skip ?_
                      refine X.seq ?_
                      refine X.region ?_
                      refine XL.cons (XOp.assign (.int .i64 (1)) rfl ?_)
                      refine XL.nil ?_
                      refine X.seq ?_
                      refine X.region ?_
                      refine XL.cons (XOp.loadN [x5, x6] Tryz.isAgg37 Tryz.sizeOf37 rfl rfl (Rd.ownN [_, _, _, _, _, _, _, _, _] rfl rfl) ?_)
                      refine XL.cons (XOp.move (.int .i64 (1)) rfl ?_)
                      refine XL.weaken (Sub.front (A := [_, _, _, _, _, _, _])) ?_
                      show XL _ _ _ _ _ _ _ (pairsD 2 135 x6 rs :: rowsD 2 22 x7 ts :: rowsD 2 22 x13 ts :: intsH 2 v4 ((b)) :: intsH 2 v6 ((b)) :: intsH 2 v3 ((a)) :: intsH 2 v5 ((a)) :: intsH 2 x5 ar :: intsH 2 x8 (solL ar rs ((a)) ((b)) ts n) :: cellsH b2 [x5, x6] 37 :: cellsH b1 [arv, rsv] 27 :: L)
                      refine XL.weaken (Sub.front (A := [_, _, _, _, _, _, _])) ?_
                      show XL _ _ _ _ _ _ _ (intsH 2 x5 ar :: pairsD 2 135 x6 rs :: rowsD 2 22 x7 ts :: rowsD 2 22 x13 ts :: intsH 2 v4 ((b)) :: intsH 2 v6 ((b)) :: intsH 2 v3 ((a)) :: intsH 2 v5 ((a)) :: intsH 2 x8 (solL ar rs ((a)) ((b)) ts n) :: cellsH b2 [x5, x6] 37 :: cellsH b1 [arv, rsv] 27 :: L)
                      refine XL.cons (XOp.call (args := [.agg #[x5, x6], .int .i64 (1)]) Tryz.call18 rfl (markSystem_spec (by (try simp only [List.length_append]); omega) (by omega)) ?_)
                      rintro _ _ _ _ ⟨m1, m2, hm1, hk1, rfl, rfl, rfl⟩
                      have hml1 := congrArg List.length hm1
                      rw [iota_len] at hml1
                      try simp only [List.length_append] at hml1
                      refine XL.cons (XOp.assign (.int .i64 (1 + (((ar) ++ (rs.flatMap flatPair)).length : Int))) rfl ?_)
                      refine XL.nil ?_
                      refine X.seq ?_
                      refine X.region ?_
                      refine XL.cons (XOp.move (v3) rfl ?_)
                      refine XL.cons (XOp.move (.int .i64 (1 + (((ar) ++ (rs.flatMap flatPair)).length : Int))) rfl ?_)
                      refine XL.weaken (Sub.front (A := [_, _, _, _, _, _])) ?_
                      show XL _ _ _ _ _ _ _ (intsH 2 v3 ((a)) :: intsH 2 x5 m1 :: pairsD 2 135 x6 m2 :: rowsD 2 22 x7 ts :: rowsD 2 22 x13 ts :: intsH 2 v4 ((b)) :: intsH 2 v6 ((b)) :: intsH 2 v5 ((a)) :: intsH 2 x8 (solL ar rs ((a)) ((b)) ts n) :: cellsH b2 [x5, x6] 37 :: cellsH b1 [arv, rsv] 27 :: L)
                      refine XL.cons (XOp.call (args := [v3, .int .i64 (1 + (((ar) ++ (rs.flatMap flatPair)).length : Int))]) Tryz.call19 rfl (markInt64S_spec (by (try simp only [List.length_append]); omega)) ?_)
                      rintro _ _ _ _ ⟨m3, hm2, rfl, rfl, rfl⟩
                      have hml2 := congrArg List.length hm2
                      rw [iota_len] at hml2
                      try simp only [List.length_append] at hml2
                      refine XL.cons (XOp.assign (.int .i64 ((1 + (((ar) ++ (rs.flatMap flatPair)).length : Int)) + (((((a)))).length : Int))) rfl ?_)
                      refine XL.nil ?_
                      refine X.seq ?_
                      refine X.region ?_
                      refine XL.cons (XOp.move (v4) rfl ?_)
                      refine XL.cons (XOp.move (.int .i64 ((1 + (((ar) ++ (rs.flatMap flatPair)).length : Int)) + (((((a)))).length : Int))) rfl ?_)
                      refine XL.weaken (Sub.front (A := [_, _, _, _, _])) ?_
                      show XL _ _ _ _ _ _ _ (intsH 2 v4 ((b)) :: intsH 2 v3 m3 :: intsH 2 x5 m1 :: pairsD 2 135 x6 m2 :: rowsD 2 22 x7 ts :: rowsD 2 22 x13 ts :: intsH 2 v6 ((b)) :: intsH 2 v5 ((a)) :: intsH 2 x8 (solL ar rs ((a)) ((b)) ts n) :: cellsH b2 [x5, x6] 37 :: cellsH b1 [arv, rsv] 27 :: L)
                      refine XL.cons (XOp.call (args := [v4, .int .i64 ((1 + (((ar) ++ (rs.flatMap flatPair)).length : Int)) + (((((a)))).length : Int))]) Tryz.call19 rfl (markInt64S_spec (by (try simp only [List.length_append]); omega)) ?_)
                      rintro _ _ _ _ ⟨m4, hm3, rfl, rfl, rfl⟩
                      have hml3 := congrArg List.length hm3
                      rw [iota_len] at hml3
                      try simp only [List.length_append] at hml3
                      refine XL.cons (XOp.assign (.int .i64 (((1 + (((ar) ++ (rs.flatMap flatPair)).length : Int)) + (((((a)))).length : Int)) + (((((b)))).length : Int))) rfl ?_)
                      refine XL.nil ?_
                      refine X.seq ?_
                      refine X.region ?_
                      refine XL.cons (XOp.move (x7) rfl ?_)
                      refine XL.cons (XOp.move (.int .i64 (((1 + (((ar) ++ (rs.flatMap flatPair)).length : Int)) + (((((a)))).length : Int)) + (((((b)))).length : Int))) rfl ?_)
                      refine XL.weaken (Sub.front (A := [_, _, _, _])) ?_
                      show XL _ _ _ _ _ _ _ (rowsD 2 22 x7 ts :: intsH 2 v4 m4 :: intsH 2 v3 m3 :: intsH 2 x5 m1 :: pairsD 2 135 x6 m2 :: rowsD 2 22 x13 ts :: intsH 2 v6 ((b)) :: intsH 2 v5 ((a)) :: intsH 2 x8 (solL ar rs ((a)) ((b)) ts n) :: cellsH b2 [x5, x6] 37 :: cellsH b1 [arv, rsv] 27 :: L)
                      refine XL.cons (XOp.call (args := [x7, .int .i64 (((1 + (((ar) ++ (rs.flatMap flatPair)).length : Int)) + (((((a)))).length : Int)) + (((((b)))).length : Int))]) Tryz.call32 rfl (markInt64SS_spec (by (try simp only [List.length_append]); omega) (by omega)) ?_)
                      rintro _ _ _ _ ⟨m5, hm4, hk2, rfl, rfl, rfl⟩
                      have hml4 := congrArg List.length hm4
                      rw [iota_len] at hml4
                      try simp only [List.length_append] at hml4
                      refine XL.cons (XOp.assign (.int .i64 ((((1 + (((ar) ++ (rs.flatMap flatPair)).length : Int)) + (((((a)))).length : Int)) + (((((b)))).length : Int)) + (((ts.flatMap flatRow)).length : Int))) rfl ?_)
                      refine XL.nil ?_
                      refine X.seq ?_
                      refine X.seq ?_
                      refine X.region ?_
                      refine XL.cons (XOp.move (.int .i64 ((((1 + (((ar) ++ (rs.flatMap flatPair)).length : Int)) + (((((a)))).length : Int)) + (((((b)))).length : Int)) + (((ts.flatMap flatRow)).length : Int))) rfl ?_)
                      refine XL.cons (XOp.lss (a := (((1 + (((ar) ++ (rs.flatMap flatPair)).length : Int)) + (((((a)))).length : Int)) + (((((b)))).length : Int)) + (((ts.flatMap flatRow)).length : Int)) (b := 0) rfl rfl ?_)
                      refine XL.cons (XOp.move (.bool (decide (((((1 + (((ar) ++ (rs.flatMap flatPair)).length : Int)) + (((((a)))).length : Int)) + (((((b)))).length : Int)) + (((ts.flatMap flatRow)).length : Int) : Int) < 0))) rfl ?_)
                      by_cases h10 : ((((1 + (((ar) ++ (rs.flatMap flatPair)).length : Int)) + (((((a)))).length : Int)) + (((((b)))).length : Int)) + (((ts.flatMap flatRow)).length : Int) : Int) < 0
                      · exact absurd h10 (by omega)
                      · refine XL.yes (t := 100) rfl (congrArg Value.bool (decide_eq_false h10)) (XOp.move (x8) rfl ?_)
                        refine XL.yes (t := 100) rfl (congrArg Value.bool (decide_eq_false h10)) (XOp.move (x4) rfl ?_)
                        refine XL.yes (t := 100) rfl (congrArg Value.bool (decide_eq_false h10)) (XOp.lend [_, _, _, _, _, _, _, _] _ _ rfl (fun F30 le30 hz20 => ?_))
                        have hf20 : IntsF _ x8 (solL ar rs ((a)) ((b)) ts n) := intsH.fz (xs := solL ar rs ((a)) ((b)) ts n) hz20
                        refine id (XOp.call (args := [x8, x4]) Tryz.call17 rfl (eqInt64S_spec hf20 ((hr6.mono le30)) (hbd := (by first | assumption | rfl | omega | (left; simp; done) | (right; simp; done)))) ?_)
                        rintro _ _ _ _ ⟨rfl, rfl, rfl⟩
                        show XL _ _ _ _ _ _ _ (intsH 2 x8 (solL ar rs ((a)) ((b)) ts n) :: rowsD 2 22 x7 m5 :: intsH 2 v4 m4 :: intsH 2 v3 m3 :: intsH 2 x5 m1 :: pairsD 2 135 x6 m2 :: rowsD 2 22 x13 ts :: intsH 2 v6 ((b)) :: intsH 2 v5 ((a)) :: cellsH b2 [x5, x6] 37 :: cellsH b1 [arv, rsv] 27 :: L)
                        refine XL.yes (t := 100) rfl (congrArg Value.bool (decide_eq_false h10)) (XOp.notD (p := (solL ar rs ((a)) ((b)) ts n) = (solL ar rs ((a)) ((b)) ts n)) rfl ?_)
                        refine XL.cons (XOp.pickF (.bool (decide (¬((solL ar rs ((a)) ((b)) ts n) = (solL ar rs ((a)) ((b)) ts n))))) (congrArg Value.bool (decide_eq_false h10)) rfl ?_)
                        refine XL.nil ?_
                        refine X.condF (congrArg Value.bool (decide_eq_false h5)) ?_
                        refine X.skip ?_
                        refine X.seq ?_
                        refine X.region ?_
                        refine XL.cons (XOp.assign (.int .i64 (1)) rfl ?_)
                        refine XL.nil ?_
                        refine X.seq ?_
                        refine X.region ?_
                        refine XL.cons (XOp.move (x8) rfl ?_)
                        refine XL.cons (XOp.move (.int .i64 (1)) rfl ?_)
                        refine XL.cons (XOp.call (args := [x8, .int .i64 (1)]) Tryz.call19 rfl (markInt64S_spec (by (try simp only [List.length_append]); omega)) ?_)
                        rintro _ _ _ _ ⟨m6, hm5, rfl, rfl, rfl⟩
                        have hml5 := congrArg List.length hm5
                        rw [iota_len] at hml5
                        try simp only [List.length_append] at hml5
                        refine XL.cons (XOp.assign (.int .i64 (1 + ((((solL ar rs ((a)) ((b)) ts n))).length : Int))) rfl ?_)
                        refine XL.nil ?_
                        refine X.seq ?_
                        refine X.region ?_
                        refine XL.cons (XOp.assign (.int .i64 (1)) rfl ?_)
                        refine XL.nil ?_
                        refine X.seq ?_
                        refine X.region ?_
                        refine XL.cons (XOp.move (x8) rfl ?_)
                        refine XL.cons (XOp.move (.int .i64 (1)) rfl ?_)
                        refine XL.cons (XOp.lend [] _ _ rfl (fun F31 le31 hz21 => ?_))
                        have hf21 : IntsF _ x8 m6 := intsH.fz (xs := m6) hz21
                        refine id (XOp.call (args := [x8, .int .i64 (1)]) Tryz.call33 rfl (heldInt64S_spec (z := 1) hf21 (hzb := (by first | assumption | rfl | omega | (left; simp; done) | (right; simp; done)))) ?_)
                        rintro _ _ _ _ ⟨rfl, rfl, rfl⟩
                        show XL _ _ _ _ _ _ _ (intsH 2 x8 m6 :: rowsD 2 22 x7 m5 :: intsH 2 v4 m4 :: intsH 2 v3 m3 :: intsH 2 x5 m1 :: pairsD 2 135 x6 m2 :: rowsD 2 22 x13 ts :: intsH 2 v6 ((b)) :: intsH 2 v5 ((a)) :: cellsH b2 [x5, x6] 37 :: cellsH b1 [arv, rsv] 27 :: L)
                        refine XL.cons (XOp.assign (.int .i64 (heldF m6 1)) rfl ?_)
                        refine XL.nil ?_
                        refine X.seq ?_
                        refine X.seq ?_
                        refine X.region ?_
                        refine XL.cons (XOp.move (.int .i64 (heldF m6 1)) rfl ?_)
                        refine XL.cons (XOp.lss (a := heldF m6 1) (b := 0) rfl rfl ?_)
                        refine XL.nil ?_
                        refine X.condD (p := (heldF m6 1 : Int) < 0) rfl (fun h11 => ?_) (fun h11 => ?_)
                        · rw [hm5, heldF_iota] at h11
                          exact absurd h11 (by omega)
                        · have hh2 := (fun (l : List Int) (k k2 : Int) (n : Nat) (h : l = iota k n) (hk : k2 = k) => show heldF l k2 = k + n from (by subst hk; rw [h, heldF_iota])) _ _ (1) _ hm5 (by first | rfl | omega)
                          have hh2l := hh2
                          try simp only [List.length_append] at hh2l
                          refine X.skip ?_
                          refine X.seq ?_
                          refine X.seq ?_
                          refine X.region ?_
                          refine XL.cons (XOp.move (.int .i64 (heldF m6 1)) rfl ?_)
                          refine XL.cons (XOp.move (.int .i64 (1 + ((((solL ar rs ((a)) ((b)) ts n))).length : Int))) rfl ?_)
                          refine XL.cons (XOp.neq (a := heldF m6 1) (b := 1 + ((((solL ar rs ((a)) ((b)) ts n))).length : Int)) rfl rfl ?_)
                          refine XL.nil ?_
                          refine X.condD (p := (heldF m6 1 : Int) ≠ 1 + ((((solL ar rs ((a)) ((b)) ts n))).length : Int)) rfl (fun h12 => ?_) (fun h12 => ?_)
                          · exact absurd (by rw [hm5, heldF_iota]) h12
                          · refine X.skip ?_
                            refine X.seq ?_
                            refine X.region ?_
                            refine XL.cons (XOp.loadN [arv, rsv] Tryz.isAgg27 Tryz.sizeOf27 rfl rfl (Rd.ownN [_, _, _, _, _, _, _, _, _, _] rfl rfl) ?_)
                            refine XL.cons (XOp.thawL ?_)
                            refine id (XOp.call (args := [.agg #[arv, rsv]]) Tryz.call12 rfl (toSystem_spec har hrs (hla := (by first | assumption | rfl | omega | (left; simp; done) | (right; simp; done))) (hrl := (by first | assumption | rfl | omega | (left; simp; done) | (right; simp; done))) (hrb := (by first | assumption | rfl | omega | (left; simp; done) | (right; simp; done)))) ?_)
                            rintro _ F32 _ le32 ⟨x14, x15, rfl, hr22, hr23, hr24, rfl⟩
                            refine ⟨[intsH 2 x14 ar, pairsD 2 135 x15 rs], hr24, ?_⟩
                            show XL _ _ _ _ _ _ _ (intsH 2 x14 ar :: pairsD 2 135 x15 rs :: intsH 2 x8 m6 :: rowsD 2 22 x7 m5 :: intsH 2 v4 m4 :: intsH 2 v3 m3 :: intsH 2 x5 m1 :: pairsD 2 135 x6 m2 :: rowsD 2 22 x13 ts :: intsH 2 v6 ((b)) :: intsH 2 v5 ((a)) :: cellsH b2 [x5, x6] 37 :: cellsH b1 [arv, rsv] 27 :: L)
                            refine XL.cons (XOp.move (av) rfl ?_)
                            refine XL.cons (XOp.call (args := [av]) Tryz.call13 rfl (toInt64S_spec ha (hlx := (by first | assumption | rfl | omega | (left; simp; done) | (right; simp; done)))) ?_)
                            rintro v7 _ _ _ ⟨rfl, hs7, rfl⟩
                            refine XL.cons (XOp.move (bv) rfl ?_)
                            refine XL.cons (XOp.call (args := [bv]) Tryz.call13 rfl (toInt64S_spec hb (hlx := (by first | assumption | rfl | omega | (left; simp; done) | (right; simp; done)))) ?_)
                            rintro v8 _ _ _ ⟨rfl, hs8, rfl⟩
                            refine XL.cons (XOp.move (tsv) rfl ?_)
                            refine XL.cons (XOp.thawL ?_)
                            refine id (XOp.call (args := [tsv]) Tryz.call29 rfl (toInt64SS_spec hts (hlx := (by first | assumption | rfl | omega | (left; simp; done) | (right; simp; done))) (hrb := (by first | assumption | rfl | omega | (left; simp; done) | (right; simp; done)))) ?_)
                            rintro _ F33 _ le33 ⟨x16, rfl, hr25, hr26, rfl⟩
                            refine ⟨[rowsD 2 22 x16 ts], hr26, ?_⟩
                            show XL _ _ _ _ _ _ _ (rowsD 2 22 x16 ts :: intsH 2 v8 ((b)) :: intsH 2 v7 ((a)) :: intsH 2 x14 ar :: pairsD 2 135 x15 rs :: intsH 2 x8 m6 :: rowsD 2 22 x7 m5 :: intsH 2 v4 m4 :: intsH 2 v3 m3 :: intsH 2 x5 m1 :: pairsD 2 135 x6 m2 :: rowsD 2 22 x13 ts :: intsH 2 v6 ((b)) :: intsH 2 v5 ((a)) :: cellsH b2 [x5, x6] 37 :: cellsH b1 [arv, rsv] 27 :: L)
                            refine XL.cons (XOp.move (.int .i64 (n)) rfl ?_)
                            refine XL.cons (XOp.lend [_, _, _] _ _ rfl (fun F34 le34 hz22 => ?_))
                            refine id (XOp.lend [_, _, _] _ _ rfl (fun F35 le35 hz23 => ?_))
                            refine id (XOp.lend [_, _] _ _ rfl (fun F36 le36 hz24 => ?_))
                            refine id (XOp.lend [_] _ _ rfl (fun F37 le37 hz25 => ?_))
                            refine id (XOp.lend [] _ _ rfl (fun F38 le38 hz26 => ?_))
                            have hf22 : IntsF _ x14 ar := (intsH.fz (xs := ar) hz22).mono (FLe.trans (FLe.trans (FLe.trans le35 le36) le37) le38)
                            have hf23 : PairsF _ x15 rs := (pairsD.fz hz23).mono (FLe.trans (FLe.trans le36 le37) le38)
                            have hf24 : IntsF _ v7 ((a)) := (intsH.fz (xs := (a)) hz24).mono (FLe.trans le37 le38)
                            have hf25 : IntsF _ v8 ((b)) := (intsH.fz (xs := (b)) hz25).mono le38
                            have hf26 : RowsF _ x16 ts := rowsD.fz hz26
                            refine id (XOp.thawL ?_)
                            refine id (XOp.call (args := [.agg #[x14, x15], v7, v8, x16, .int .i64 (n)]) Tryz.call37 rfl (SolutionsBy_spec (n := n) hf22 hf23 hf24 hf25 hf26 (hlt := (by first | assumption | rfl | omega | (left; simp; done) | (right; simp; done)))) ?_)
                            rintro _ F39 _ le39 ⟨x17, rfl, hr27, hr28, rfl⟩
                            refine ⟨[intsH 2 x17 (solL ar rs ((a)) ((b)) ts n)], hr28, ?_⟩
                            show XL _ _ _ _ _ _ _ (intsH 2 x14 ar :: pairsD 2 135 x15 rs :: intsH 2 v7 ((a)) :: intsH 2 v8 ((b)) :: rowsD 2 22 x16 ts :: intsH 2 x17 (solL ar rs ((a)) ((b)) ts n) :: intsH 2 x8 m6 :: rowsD 2 22 x7 m5 :: intsH 2 v4 m4 :: intsH 2 v3 m3 :: intsH 2 x5 m1 :: pairsD 2 135 x6 m2 :: rowsD 2 22 x13 ts :: intsH 2 v6 ((b)) :: intsH 2 v5 ((a)) :: cellsH b2 [x5, x6] 37 :: cellsH b1 [arv, rsv] 27 :: L)
                            refine XL.cons (XOp.assign (x17) rfl ?_)
                            refine XL.nil ?_
                            refine X.seq ?_
                            refine X.seq ?_
                            refine X.region ?_
                            refine XL.cons (XOp.move (x17) rfl ?_)
                            refine XL.cons (XOp.move (x4) rfl ?_)
                            refine XL.cons (XOp.lend [_, _, _, _, _] _ _ rfl (fun F40 le40 hz27 => ?_))
                            have hf27 : IntsF _ x17 (solL ar rs ((a)) ((b)) ts n) := intsH.fz (xs := solL ar rs ((a)) ((b)) ts n) hz27
                            refine id (XOp.call (args := [x17, x4]) Tryz.call17 rfl (eqInt64S_spec hf27 ((hr6.mono le40)) (hbd := (by first | assumption | rfl | omega | (left; simp; done) | (right; simp; done)))) ?_)
                            rintro _ _ _ _ ⟨rfl, rfl, rfl⟩
                            show XL _ _ _ _ _ _ _ (intsH 2 x17 (solL ar rs ((a)) ((b)) ts n) :: intsH 2 x14 ar :: pairsD 2 135 x15 rs :: intsH 2 v7 ((a)) :: intsH 2 v8 ((b)) :: rowsD 2 22 x16 ts :: intsH 2 x8 m6 :: rowsD 2 22 x7 m5 :: intsH 2 v4 m4 :: intsH 2 v3 m3 :: intsH 2 x5 m1 :: pairsD 2 135 x6 m2 :: rowsD 2 22 x13 ts :: intsH 2 v6 ((b)) :: intsH 2 v5 ((a)) :: cellsH b2 [x5, x6] 37 :: cellsH b1 [arv, rsv] 27 :: L)
                            refine XL.cons (XOp.notD (p := (solL ar rs ((a)) ((b)) ts n) = (solL ar rs ((a)) ((b)) ts n)) rfl ?_)
                            refine XL.nil ?_
                            refine X.condF (congrArg Value.bool (decide_eq_false h5)) ?_
                            refine X.skip ?_
                            refine X.seq ?_
                            refine X.region ?_
                            refine XL.cons (XOp.assign (.int .i64 (1)) rfl ?_)
                            refine XL.nil ?_
                            refine X.seq ?_
                            refine X.region ?_
                            refine XL.cons (XOp.move (x8) rfl ?_)
                            refine XL.cons (XOp.move (.int .i64 (1)) rfl ?_)
                            refine XL.cons (XOp.lend [_, _, _, _, _, _] _ _ rfl (fun F41 le41 hz28 => ?_))
                            have hf28 : IntsF _ x8 m6 := intsH.fz (xs := m6) hz28
                            refine id (XOp.call (args := [x8, .int .i64 (1)]) Tryz.call33 rfl (heldInt64S_spec (z := 1) hf28 (hzb := (by first | assumption | rfl | omega | (left; simp; done) | (right; simp; done)))) ?_)
                            rintro _ _ _ _ ⟨rfl, rfl, rfl⟩
                            show XL _ _ _ _ _ _ _ (intsH 2 x8 m6 :: intsH 2 x17 (solL ar rs ((a)) ((b)) ts n) :: intsH 2 x14 ar :: pairsD 2 135 x15 rs :: intsH 2 v7 ((a)) :: intsH 2 v8 ((b)) :: rowsD 2 22 x16 ts :: rowsD 2 22 x7 m5 :: intsH 2 v4 m4 :: intsH 2 v3 m3 :: intsH 2 x5 m1 :: pairsD 2 135 x6 m2 :: rowsD 2 22 x13 ts :: intsH 2 v6 ((b)) :: intsH 2 v5 ((a)) :: cellsH b2 [x5, x6] 37 :: cellsH b1 [arv, rsv] 27 :: L)
                            refine XL.cons (XOp.assign (.int .i64 (heldF m6 1)) rfl ?_)
                            refine XL.nil ?_
                            refine X.seq ?_
                            refine X.seq ?_
                            refine X.region ?_
                            refine XL.cons (XOp.move (.int .i64 (heldF m6 1)) rfl ?_)
                            refine XL.cons (XOp.lss (a := heldF m6 1) (b := 0) rfl rfl ?_)
                            refine XL.nil ?_
                            refine X.condF (congrArg Value.bool (decide_eq_false h11)) ?_
                            refine X.skip ?_
                            refine X.seq ?_
                            refine X.seq ?_
                            refine X.region ?_
                            refine XL.cons (XOp.move (.int .i64 (heldF m6 1)) rfl ?_)
                            refine XL.cons (XOp.move (.int .i64 (1 + ((((solL ar rs ((a)) ((b)) ts n))).length : Int))) rfl ?_)
                            refine XL.cons (XOp.neq (a := heldF m6 1) (b := 1 + ((((solL ar rs ((a)) ((b)) ts n))).length : Int)) rfl rfl ?_)
                            refine XL.nil ?_
                            refine X.condF (congrArg Value.bool (decide_eq_false h12)) ?_
                            refine X.skip ?_
                            refine X.seq ?_
                            refine X.region ?_
                            refine XL.cons (XOp.assign (.bool (true)) rfl ?_)
                            refine XL.nil ?_
                            refine X.ret (retEnd (L' := L) [.bool (true)] (.bool (true)) (.tmp rfl .nil) rfl (FLe.refl _) (FLe.trans (FLe.trans (FLe.trans (FLe.trans (FLe.trans (FLe.trans le3 le4) le5) le6) le7) le8) le20) (Sub.drop (Sub.drop (Sub.drop (Sub.drop (Sub.drop (Sub.drop (Sub.drop (Sub.drop (Sub.drop (Sub.drop (Sub.drop (Sub.drop (Sub.drop (Sub.drop (Sub.drop (Sub.drop (Sub.drop (Sub.refl _)))))))))))))))))) ?_)
                            exact ⟨rfl, rfl, rfl⟩
end Go.Proofs.YtbooflphoaaoeaaGreat
