/-
  Walks: the classes of words; the statement ClassesBy.
-/
import Derived.Test.YtbooflphoaaoeaaGreatQlFC
import Derived.Test.YtbooflphoaaoeaaGreatP17
set_option linter.unusedSimpArgs false
set_option linter.unusedVariables false
namespace Go.Proofs.YtbooflphoaaoeaaGreat
open Go X M

/- impl.ClassesBy$1 -/
theorem ClassesBy1_spec {F : FH} {L : List HP} {yv : Value} {y : List Int} (hy : IntsF F yv y) {xv : Value} {x : List Int} (hx : IntsF F xv x) {b : Nat} (hzb : FzC F b [xv]) (hbx : x.length ≤ 4000000) :
    Does Tryz.prog 84 [yv, ptr b 0] F (L) (fun v F' L' => (.bool (decide (y = x)) : Value) = v ∧ F = F' ∧ L = L') := by
  refine Does.of_X Tryz.func84 rfl rfl rfl ?_
  refine X.seq ?_
  refine X.region ?_
  refine XL.cons (XOp.assign (.bool (false)) rfl ?_)
  refine XL.nil ?_
  refine X.seq ?_
  refine X.region ?_
  refine XL.cons (XOp.move (yv) rfl ?_)
  refine XL.cons (XOp.load1 (v := xv) Tryz.isAgg22 rfl (FzC.rd1 hzb rfl) ?_)
  refine XL.cons (XOp.call (args := [yv, xv]) Tryz.call85 rfl (Equal_spec hy hx (hbd := (by first | assumption | rfl | omega | (left; simp; done) | (right; simp; done)))) ?_)
  rintro _ _ _ _ ⟨rfl, rfl, rfl⟩
  refine XL.cons (XOp.assign (.bool (decide (y = x))) rfl ?_)
  refine XL.nil ?_
  refine X.ret (retEnd (L' := L) [.bool (decide (y = x))] (.bool (decide (y = x))) (.tmp rfl .nil) rfl (FLe.refl _) (FLe.refl _) (Sub.refl _) ?_)
  exact ⟨rfl, rfl, rfl⟩

/- slices.IndexFunc[[][]int64,[]int64] -/
theorem IndexFuncSame_spec {F : FH} {L : List HP} {tsv : Value} {ts : List (List Int)} (hts : RowsF F tsv ts) {xv : Value} {x : List Int} (hx : IntsF F xv x) {b : Nat} (hzb : FzC F b [xv]) (hlt : ts.length ≤ 4000000) (hbx : x.length ≤ 4000000) :
    Does Tryz.prog 83 [tsv, .func (.func 84) #[] #[ptr b 0]] F (L) (fun v F' L' => (.int .i64 (badG (fun y => !decide (y = x)) ts) : Value) = v ∧ F = F' ∧ L = L') := by
  refine Does.of_X Tryz.func83 rfl rfl rfl ?_
  refine X.seq ?_
  refine X.region ?_
  refine XL.cons (XOp.assign (.int .i64 (0)) rfl ?_)
  refine XL.nil ?_
  refine X.seq ?_
  refine X.seq ?_
  refine X.region ?_
  refine XL.cons (XOp.move (tsv) rfl ?_)
  refine XL.cons (XOp.lenS (v := tsv) (n := (ts).length) Tryz.runUnderlying54 rfl hts.slv ?_)
  refine XL.cons (XOp.move (.int .i64 (0)) rfl ?_)
  refine XL.nil ?_
  refine X.block ?_
  refine X.loop (α := Nat) (fun k => [(0, tsv), (1, .func (.func 84) #[] #[ptr b 0]), (7, .int .i64 ((((ts).length : Nat) : Int))), (8, .int .i64 (((k : Nat) : Int)))]) (fun k => L) (fun k F' => F = F' ∧ (k ≤ ts.length) ∧ (∀ i, i < k → (fun y => !decide (y = x)) (ts.getD i []) = true)) (fun k => ts.length - k) 0 ⟨rfl, rfl, rfl, rfl, trivial⟩ (Sub.refl _) ⟨rfl, (by (try dsimp only) <;> omega), (fun i hi => absurd hi (by omega))⟩ ?_
  rintro k rE _ _ ⟨rfl, hk, hall⟩
  show X _ _ _ _ (envs [(0, tsv), (1, .func (.func 84) #[] #[ptr b 0]), (7, .int .i64 ((((ts).length : Nat) : Int))), (8, .int .i64 (((k : Nat) : Int)))] rE) _ (L)
  refine X.seq ?_
  refine X.region ?_
  refine XL.cons (XOp.lss (a := ((k : Nat) : Int)) (b := (((ts).length : Nat) : Int)) rfl rfl ?_)
  refine XL.nil ?_
  refine X.seq ?_
  refine X.condD (p := (((k : Nat) : Int) : Int) < (((ts).length : Nat) : Int)) rfl (fun h1 => ?_) (fun h1 => ?_)
  · refine X.skip ?_
    refine X.seq ?_
    refine X.block ?_
    refine X.seq ?_
    refine X.region ?_
    refine XL.cons (XOp.move (.int .i64 (((k : Nat) : Int))) rfl ?_)
    refine XL.cons (XOp.assign (.int .i64 (((k : Nat) : Int))) rfl ?_)
    refine XL.nil ?_
    refine X.seq ?_
    refine X.region ?_
    refine XL.cons (XOp.move (.func (.func 84) #[] #[ptr b 0]) rfl ?_)
    refine XL.cons (XOp.move (tsv) rfl ?_)
    refine XL.cons (XOp.move (.int .i64 (((k : Nat) : Int))) rfl ?_)
    refine XL.cons (XOp.indexS (v := tsv) (i := ((k : Nat) : Int)) (n := (ts).length) k Tryz.runUnderlying54 Tryz.sizeOf22 rfl rfl rfl hts.slv (by omega) (Nat.mul_one _) ?_)
    obtain ⟨a1, ha1, hr1⟩ := hts.rd (i := k) (by omega)
    refine XL.cons (XOp.load1 (v := a1) Tryz.isAgg22 rfl (hr1 _) ?_)
    refine XL.cons (XOp.callV (first := []) (captured := [ptr b 0]) (args := [a1, ptr b 0]) Tryz.call84 rfl rfl (ClassesBy1_spec ha1 hx hzb (hbx := (by first | assumption | rfl | omega | (left; simp; done) | (right; simp; done)))) ?_)
    rintro _ _ _ _ ⟨rfl, rfl, rfl⟩
    refine XL.nil ?_
    refine X.cond (t := decide (((ts.getD k [])) = x)) rfl (fun h2 => ?_) (fun h2 => ?_)
    · refine X.seq ?_
      refine X.region ?_
      refine XL.cons (XOp.move (.int .i64 (((k : Nat) : Int))) rfl ?_)
      refine XL.cons (XOp.assign (.int .i64 (((k : Nat) : Int))) rfl ?_)
      refine XL.nil ?_
      refine X.ret (blockQ_ret (thenQ_ret (thenQ_ret (blockQ_ret (thenQ_ret (retEnd (L' := L) [.int .i64 (((k : Nat) : Int))] (.int .i64 (((k : Nat) : Int))) (.tmp rfl .nil) rfl (FLe.refl _) (FLe.refl _) (Sub.refl _) ?_))))))
      exact ⟨(congrArg (Value.int .i64) (badG_at [] (by omega) (by simp_all) hall)), rfl, rfl⟩
    · refine X.skip ?_
      refine X.region ?_
      refine XL.cons (XOp.addR (a := ((k : Nat) : Int)) (b := 1) (((k + 1 : Nat) : Int)) rfl rfl (by omega) (by omega) ?_)
      refine XL.cons (XOp.move (.int .i64 (((k + 1 : Nat) : Int))) rfl ?_)
      refine XL.nil ?_
      exact ⟨k + 1, _, FLe.refl _, (FLe.refl _), ⟨rfl, rfl, rfl, rfl, trivial⟩, (Sub.refl _), ⟨rfl, (by (try dsimp only) <;> omega), (fun i hi => (Nat.lt_or_ge i k).elim (fun h => hall i h) (fun h => by obtain rfl : i = k := (by omega); simp_all))⟩, (by omega)⟩
  · refine X.exit (thenQ_exit (thenQ_exit (blockQ_exit ?_)))
    refine X.seq ?_
    refine X.region ?_
    refine XL.cons (XOp.assign (.int .i64 (-1)) rfl ?_)
    refine XL.nil ?_
    refine X.ret (retEnd (L' := L) [.int .i64 (-1)] (.int .i64 (-1)) (.tmp rfl .nil) rfl (FLe.refl _) (FLe.refl _) (Sub.refl _) ?_)
    exact ⟨(congrArg (Value.int .i64) (badG_none [] (fun i hi => hall i (by omega)))), rfl, rfl⟩

/- impl.ClassesBy -/
theorem ClassesBy_spec {F : FH} {L : List HP} {arv : Value} {ar : List Int} (har : IntsF F arv ar) {rsv : Value} {rs : List (List Int × List Int)} (hrs : PairsF F rsv rs) {tsv : Value} {ts : List (List Int)} (hts : RowsF F tsv ts) {n : Int} (hlt : ts.length ≤ 4000000) :
    Does Tryz.prog 30 [.agg #[arv, rsv], tsv, .int .i64 (n)] F (L) (fun v F' L' => ∃ (r : Value), (r : Value) = v ∧ (IntsF F' r (clsL ar rs ts n)) ∧ (Fresh F F' (star [intsH 2 r (clsL ar rs ts n)])) ∧ L = L') := by
  refine Does.of_X Tryz.func30 rfl rfl rfl ?_
  refine X.seq ?_
  refine X.region ?_
  refine XL.cons (XOp.box [arv, rsv] rfl rfl ?_)
  intro b1
  refine XL.cons (XOp.assign ((.slice none 0 0)) rfl ?_)
  refine XL.nil ?_
  refine X.seq ?_
  refine X.seq ?_
  refine X.region ?_
  refine XL.cons (XOp.move (tsv) rfl ?_)
  refine XL.cons (XOp.lenS (v := tsv) (n := (ts).length) Tryz.runUnderlying54 rfl hts.slv ?_)
  refine XL.cons (XOp.gtr (a := (((ts).length : Nat) : Int)) (b := 16) rfl rfl ?_)
  refine XL.cons (XOp.move (.bool (decide (((((ts).length : Nat) : Int) : Int) > 16))) rfl ?_)
  by_cases h1 : ((((ts).length : Nat) : Int) : Int) > 16
  · refine XL.no (t := 16) rfl (congrArg Value.bool (decide_eq_true h1)) ?_
    refine XL.no (t := 16) rfl (congrArg Value.bool (decide_eq_true h1)) ?_
    refine XL.no (t := 16) rfl (congrArg Value.bool (decide_eq_true h1)) ?_
    refine XL.no (t := 16) rfl (congrArg Value.bool (decide_eq_true h1)) ?_
    refine XL.no (t := 16) rfl (congrArg Value.bool (decide_eq_true h1)) ?_
    refine XL.cons (XOp.pickT (.bool (true)) (congrArg Value.bool (decide_eq_true h1)) rfl ?_)
    refine XL.nil ?_
    refine X.condT rfl ?_
    refine X.seq ?_
    refine X.region ?_
    refine XL.cons (XOp.assign ((.slice none 0 0)) rfl ?_)
    refine XL.nil ?_
    refine X.ret (thenQ_ret (retEnd (L' := L) [(.slice none 0 0)] ((.slice none 0 0)) (.tmp rfl .nil) rfl (FLe.refl _) (FLe.refl _) (Sub.drop (Sub.refl _)) ?_))
    have e9 : clsL ar rs ts n = [] := by first | (refine clsL_no1 ?_; omega) | (refine clsL_no2 ?_; simpa using h2)
    exact ⟨_, rfl, by rw [e9]; exact IntsF.nilV, by rw [e9]; exact Fresh.one (Fresh.ofNil _), rfl⟩
  · refine XL.yes (t := 16) rfl (congrArg Value.bool (decide_eq_false h1)) (XOp.loadN [arv, rsv] Tryz.isAgg37 Tryz.sizeOf37 rfl rfl (Rd.ownN [] rfl rfl) ?_)
    refine XL.yes (t := 16) rfl (congrArg Value.bool (decide_eq_false h1)) (XOp.move (.int .i64 (n)) rfl ?_)
    refine XL.yes (t := 16) rfl (congrArg Value.bool (decide_eq_false h1)) (XOp.move (tsv) rfl ?_)
    refine XL.yes (t := 16) rfl (congrArg Value.bool (decide_eq_false h1)) (XOp.call (args := [.agg #[arv, rsv], .int .i64 (n), tsv]) Tryz.call81 rfl (wordOk_spec (n := n) har hrs hts (hlt := (by first | assumption | rfl | omega | (left; simp; done) | (right; simp; done)))) ?_)
    rintro _ _ _ _ ⟨rfl, rfl, rfl⟩
    refine XL.yes (t := 16) rfl (congrArg Value.bool (decide_eq_false h1)) (XOp.notB (b := wordOkL ar rs n ts) rfl ?_)
    refine XL.cons (XOp.pickF (.bool (!(wordOkL ar rs n ts))) (congrArg Value.bool (decide_eq_false h1)) rfl ?_)
    refine XL.nil ?_
    refine X.cond (t := !(wordOkL ar rs n ts)) rfl (fun h2 => ?_) (fun h2 => ?_)
    · refine X.seq ?_
      refine X.region ?_
      refine XL.cons (XOp.assign ((.slice none 0 0)) rfl ?_)
      refine XL.nil ?_
      refine X.ret (thenQ_ret (retEnd (L' := L) [(.slice none 0 0)] ((.slice none 0 0)) (.tmp rfl .nil) rfl (FLe.refl _) (FLe.refl _) (Sub.drop (Sub.refl _)) ?_))
      have e9 : clsL ar rs ts n = [] := by first | (refine clsL_no1 ?_; omega) | (refine clsL_no2 ?_; simpa using h2)
      exact ⟨_, rfl, by rw [e9]; exact IntsF.nilV, by rw [e9]; exact Fresh.one (Fresh.ofNil _), rfl⟩
    · have hwt : wordOkL ar rs n ts = true := by simpa using h2
      unfold wordOkL at hwt
      simp only [Bool.and_eq_true, decide_eq_true_eq] at hwt
      have hall := hwt.2
      have hsys := hwt.1.1
      have hn0 := hwt.1.2
      have hok : allOk ar rs ts n = true := allOk_iff.2 ⟨hsys, hn0, hall, by omega⟩
      refine X.skip ?_
      refine X.seq ?_
      refine X.region ?_
      refine XL.cons (XOp.assign ((.slice none 0 0)) rfl ?_)
      refine XL.nil ?_
      refine X.seq ?_
      refine X.region ?_
      refine XL.cons (XOp.assign ((.slice none 0 0)) rfl ?_)
      refine XL.nil ?_
      refine X.seq ?_
      refine X.seq ?_
      refine X.region ?_
      refine XL.cons (XOp.move (tsv) rfl ?_)
      refine XL.cons (XOp.lenS (v := tsv) (n := (ts).length) Tryz.runUnderlying54 rfl hts.slv ?_)
      refine XL.cons (XOp.move (.int .i64 (0)) rfl ?_)
      refine XL.nil ?_
      refine X.block ?_
      refine X.loop (α := Nat × Value × RowL × List Value × Value × List Int × FH) (fun xQ => [(2, .int .i64 (n)), (3, ptr b1 0), (7, xQ.2.1), (8, xQ.2.2.2.2.1), (23, tsv), (24, .int .i64 ((((ts).length : Nat) : Int))), (25, .int .i64 (((xQ.1 : Nat) : Int)))]) (fun xQ => slH 22 1 xQ.2.1 xQ.1 xQ.2.2.2.1 :: intsH 2 xQ.2.2.2.2.1 xQ.2.2.2.2.2.1 :: cellsH b1 [arv, rsv] 37 :: L) (fun xQ F' => xQ.2.2.2.2.2.2 = F' ∧ F ≤ xQ.2.2.2.2.2.2 ∧ (IsSl xQ.2.1) ∧ (IsSl xQ.2.2.2.2.1) ∧ (xQ.1 ≤ ts.length) ∧ (RowsC xQ.2.2.2.2.2.2 xQ.2.2.2.1 xQ.2.2.1) ∧ (xQ.2.2.1 = nfR ar rs ts n xQ.1) ∧ (xQ.2.2.2.2.2.1 = clsTo ar rs ts n xQ.1) ∧ (∀ i, i < xQ.1 → nfF ar rs n (ts.getD i []) = true)) (fun xQ => ts.length - xQ.1) (0, (.slice none 0 0), [], [], (.slice none 0 0), [], F) ⟨rfl, rfl, rfl, rfl, rfl, rfl, rfl, trivial⟩ (Sub.trans (Sub.addNil 22 1 _ _) (Sub.cons (Sub.trans (intsH.addNil 2 none _) (Sub.cons (Sub.cons (Sub.refl _)))))) ⟨rfl, FLe.refl _, (⟨_, _, _, rfl⟩), (⟨_, _, _, rfl⟩), (by (try dsimp only) <;> omega), (CO.nil), (rfl), (rfl), (fun i hi => absurd hi (by omega))⟩ ?_
      rintro ⟨k, rv, vs, rcs, ov, os, G1⟩ rE _ _ ⟨rfl, leG, hrv, hov, hk, hC, hvs, hos, hfl⟩
      show X _ _ _ _ (envs [(2, .int .i64 (n)), (3, ptr b1 0), (7, rv), (8, ov), (23, tsv), (24, .int .i64 ((((ts).length : Nat) : Int))), (25, .int .i64 (((k : Nat) : Int)))] rE) _ (slH 22 1 rv k rcs :: intsH 2 ov os :: cellsH b1 [arv, rsv] 37 :: L)
      replace leG : F ≤ G1 := leG
      dsimp only at hrv hov hk hC hvs hos hfl
      have hot := fun (h : k < ts.length) => all_at hall h
      have htl9 := fun (h : k < ts.length) => termOk_len (all_at hall h)
      have hvl : vs.length = k := by rw [hvs]; exact nfR_len
      have hol : os.length = k := by rw [hos]; exact clsTo_len
      have leG1 := leG
      replace har := har.mono leG1
      replace hrs := hrs.mono leG1
      replace hts := hts.mono leG1
      refine X.seq ?_
      refine X.region ?_
      refine XL.cons (XOp.lss (a := ((k : Nat) : Int)) (b := (((ts).length : Nat) : Int)) rfl rfl ?_)
      refine XL.nil ?_
      refine X.seq ?_
      refine X.condD (p := (((k : Nat) : Int) : Int) < (((ts).length : Nat) : Int)) rfl (fun h3 => ?_) (fun h3 => ?_)
      · refine X.skip ?_
        refine X.seq ?_
        refine X.block ?_
        refine X.seq ?_
        refine X.region ?_
        refine XL.cons (XOp.indexS (v := tsv) (i := ((k : Nat) : Int)) (n := (ts).length) k Tryz.runUnderlying54 Tryz.sizeOf22 rfl rfl rfl hts.slv (by omega) (Nat.mul_one _) ?_)
        obtain ⟨a1, ha1, hr1⟩ := hts.rd (i := k) (by omega)
        refine XL.cons (XOp.load1 (v := a1) Tryz.isAgg22 rfl (hr1 _) ?_)
        refine XL.cons (XOp.assign (a1) rfl ?_)
        refine XL.nil ?_
        refine X.seq ?_
        refine X.region ?_
        refine XL.cons (XOp.loadN [arv, rsv] Tryz.isAgg37 Tryz.sizeOf37 rfl rfl (Rd.ownN [_, _] rfl rfl) ?_)
        refine XL.cons (XOp.move (a1) rfl ?_)
        refine XL.cons (XOp.move (.int .i64 (n)) rfl ?_)
        refine XL.cons (XOp.call (args := [.agg #[arv, rsv], a1, .int .i64 (((n).toNat : Nat) : Int)]) Tryz.call82 (by rw [show (((n).toNat : Nat) : Int) = n from by omega]; rfl) (normalOf_spec (n := (n).toNat) har hrs ha1 (hsys := (by first | assumption | rfl | omega | (left; simp; done) | (right; simp; done))) (ho := (hot (by omega))) (hn := (by first | assumption | rfl | omega | (left; simp; done) | (right; simp; done)))) ?_)
        rintro _ F1 _ le1 ⟨x1, rfl, hr2, rfl⟩
        replace har := har.mono le1
        replace hrs := hrs.mono le1
        replace hts := hts.mono le1
        replace hC := hC.mono le1
        replace ha1 := ha1.mono le1
        replace hr1 := Rd.monoA hr1 le1
        refine XL.cons (XOp.move (.tuple #[x1, .bool ((walkGo ar rs 1 ((n).toNat) ((ts.getD k []))).2)]) rfl ?_)
        refine XL.cons (XOp.extract (x1) rfl rfl ?_)
        refine XL.cons (XOp.extract (.bool ((walkGo ar rs 1 ((n).toNat) ((ts.getD k []))).2)) rfl rfl ?_)
        refine XL.cons (XOp.alloc [(.slice none 0 0)] Tryz.zeroValue22 rfl ?_)
        intro b2
        refine XL.cons (XOp.store1 (v := x1) [] _ [x1] Tryz.sizeOf22 rfl rfl (one_sl (IntsF.isSl hr2)) rfl rfl rfl ?_)
        refine XL.cons (XOp.assign (.bool ((walkGo ar rs 1 ((n).toNat) ((ts.getD k []))).2)) rfl ?_)
        refine XL.nil ?_
        refine X.seq ?_
        refine X.seq ?_
        refine X.region ?_
        refine XL.cons (XOp.move (.bool ((walkGo ar rs 1 ((n).toNat) ((ts.getD k []))).2)) rfl ?_)
        refine XL.cons (XOp.notB (b := (walkGo ar rs 1 ((n).toNat) ((ts.getD k []))).2) rfl ?_)
        refine XL.nil ?_
        refine X.cond (t := !((walkGo ar rs 1 ((n).toNat) ((ts.getD k []))).2)) rfl (fun h4 => ?_) (fun h4 => ?_)
        · refine X.seq ?_
          refine X.region ?_
          refine XL.cons (XOp.assign ((.slice none 0 0)) rfl ?_)
          refine XL.nil ?_
          refine X.ret (thenQ_ret (blockQ_ret (thenQ_ret (thenQ_ret (blockQ_ret (thenQ_ret (retEnd (L' := L) [(.slice none 0 0)] ((.slice none 0 0)) (.tmp rfl .nil) rfl (FLe.trans leG1 le1) (FLe.refl _) (Sub.drop (Sub.drop (Sub.drop (Sub.drop (Sub.refl _))))) ?_)))))))
          have e9 : clsL ar rs ts n = [] := clsL_no3 (k := k) (by omega) (show (walkGo ar rs 1 n.toNat (ts.getD k [])).2 = false by simp_all)
          exact ⟨_, rfl, by rw [e9]; exact IntsF.nilV, by rw [e9]; exact Fresh.one (Fresh.ofNil _), rfl⟩
        · refine X.skip ?_
          refine X.seq ?_
          refine X.region ?_
          refine XL.cons (XOp.move (rv) rfl ?_)
          refine XL.cons (XOp.load1 (v := x1) Tryz.isAgg22 rfl (Rd.own [] rfl rfl) ?_)
          refine XL.cons (XOp.buildSlice (s := 1) [x1] [(.slice none 0 0)] [(0, [x1])] Tryz.runUnderlying54 Tryz.sizeOf22 Tryz.zeroValue22 rfl (by decide) rfl (.cons (cells_one (IntsF.isSl hr2)) CellsAre.nil) rfl ?_)
          intro v1 hv1
          refine XL.cons (XOp.append (m := 1) (bytes := 24) (cs := rcs) [_, _] _ [x1] Tryz.runUnderlying54 Tryz.typeInfo22 rfl rfl rfl rfl rfl rfl rfl (SlV.own [] rfl) rfl (Rd.lit [] rfl) (ones_cons (one_sl (IntsF.isSl hr2)) ones_nil) (by (try simp only [List.length_append, List.length_nil, List.length_cons, List.length_singleton]); omega) (by (try simp only [List.length_append, List.length_nil, List.length_cons, List.length_singleton]); omega) ?_)
          intro v2 hs1 hn1 hm1
          have hc1 := RowsC.snoc hC hr2
          refine XL.cons (XOp.assign (v2) rfl ?_)
          refine XL.nil ?_
          refine X.region ?_
          refine XL.cons (XOp.move (ov) rfl ?_)
          refine XL.cons (XOp.move (v2) rfl ?_)
          refine XL.cons (XOp.makeFuncL [] [ptr b2 0] rfl rfl ?_)
          refine XL.freeze [_] _ _ rfl (fun F2 le2 hz1 => ?_)
          replace har := har.mono le2
          replace hrs := hrs.mono le2
          replace hts := hts.mono le2
          replace hC := hC.mono le2
          replace ha1 := ha1.mono le2
          replace hr2 := hr2.mono le2
          replace hc1 := hc1.mono le2
          replace hr1 := Rd.monoA hr1 le2
          have hf1 : FzC F2 b2 [x1] := Fz.cells hz1
          refine XL.cons (XOp.lend [_] _ _ rfl (fun F3 le3 hz2 => ?_))
          have hf2 : RowsF _ v2 (vs ++ [endL ((ts.getD k [])) (walkGo ar rs 1 ((n).toNat) ((ts.getD k []))).1]) := (CO.fz (RowsC.mono hc1 (FLe.trans le3 (FLe.refl _))) (by first | rfl | assumption | omega | (rw [List.length_append]; simp only [List.length_singleton]; omega)) hz2 : RowsF _ v2 (vs ++ [endL ((ts.getD k [])) (walkGo ar rs 1 ((n).toNat) ((ts.getD k []))).1]))
          refine id (XOp.call (args := [v2, .func (.func 84) #[] #[ptr b2 0]]) Tryz.call83 rfl (IndexFuncSame_spec hf2 ((hr2.mono le3)) ((hf1.mono le3)) (hlt := (by rw [List.length_append]; simp only [List.length_singleton]; omega)) (hbx := (by have := nfE_len (n := n) hsys (hot (by omega)); omega))) ?_)
          rintro _ _ _ _ ⟨rfl, rfl, rfl⟩
          show XL _ _ _ _ _ _ _ (slH 22 1 v2 ((k) + 1) (rcs ++ [x1]) :: slH 22 1 v1 1 [x1] :: intsH 2 ov os :: cellsH b1 [arv, rsv] 37 :: L)
          refine XL.cons (XOp.buildSlice (s := 1) [.int .i64 (badG (fun y => !decide (y = (endL ((ts.getD k [])) (walkGo ar rs 1 ((n).toNat) ((ts.getD k []))).1))) (vs ++ [endL ((ts.getD k [])) (walkGo ar rs 1 ((n).toNat) ((ts.getD k []))).1]))] [.int .i64 (0)] [(0, [.int .i64 (badG (fun y => !decide (y = (endL ((ts.getD k [])) (walkGo ar rs 1 ((n).toNat) ((ts.getD k []))).1))) (vs ++ [endL ((ts.getD k [])) (walkGo ar rs 1 ((n).toNat) ((ts.getD k []))).1]))])] Tryz.runUnderlying22 Tryz.sizeOf2 Tryz.zeroValue2 rfl (by decide) rfl (.cons rfl CellsAre.nil) rfl ?_)
          intro v3 hv2
          refine XL.cons (XOp.append1 (u := badG (fun y => !decide (y = (endL ((ts.getD k [])) (walkGo ar rs 1 ((n).toNat) ((ts.getD k []))).1))) (vs ++ [endL ((ts.getD k [])) (walkGo ar rs 1 ((n).toNat) ((ts.getD k []))).1])) [_, _, _] _ Tryz.runUnderlying22 Tryz.typeInfo2 rfl rfl rfl rfl rfl rfl (SlV.own [] rfl) (Rd.sl [] rfl rfl) (by (try simp only [List.length_append, List.length_nil, List.length_cons, List.length_singleton, List.length_take, List.length_drop]); omega) ?_)
          intro v4 hs2 hn2
          refine XL.cons (XOp.assign (v4) rfl ?_)
          refine XL.nil ?_
          refine X.region ?_
          refine XL.cons (XOp.addR (a := ((k : Nat) : Int)) (b := 1) (((k + 1 : Nat) : Int)) rfl rfl (by omega) (by omega) ?_)
          refine XL.cons (XOp.move (.int .i64 (((k + 1 : Nat) : Int))) rfl ?_)
          refine XL.nil ?_
          exact ⟨(k + 1, v2, vs ++ [endL ((ts.getD k [])) (walkGo ar rs 1 ((n).toNat) ((ts.getD k []))).1], rcs ++ [x1], v4, os ++ [badG (fun y => !decide (y = (endL ((ts.getD k [])) (walkGo ar rs 1 ((n).toNat) ((ts.getD k []))).1))) (vs ++ [endL ((ts.getD k [])) (walkGo ar rs 1 ((n).toNat) ((ts.getD k []))).1])], F2), _, (FLe.trans (FLe.trans leG1 le1) le2), (FLe.refl _), ⟨rfl, rfl, rfl, rfl, rfl, rfl, rfl, trivial⟩, (Sub.drop (Sub.cons (Sub.drop (Sub.cons (Sub.cons (Sub.refl _)))))), ⟨rfl, (FLe.trans (FLe.trans leG1 le1) le2), (hs1), (hs2), (by (try dsimp only) <;> omega), (hc1), (by (try dsimp only); subst hvs hos; exact nfR_next), (by (try dsimp only); subst hvs hos; exact clsTo_next), (fun i hi => (Nat.lt_or_ge i k).elim (fun h => hfl i h) (fun h => by obtain rfl : i = k := (by omega); show (walkGo ar rs 1 n.toNat (ts.getD _ [])).2 = true; simp_all))⟩, (by omega)⟩
      · refine X.exit (thenQ_exit (thenQ_exit (blockQ_exit ?_)))
        refine X.seq ?_
        refine X.region ?_
        refine XL.cons (XOp.move (ov) rfl ?_)
        refine XL.cons (XOp.assign (ov) rfl ?_)
        refine XL.nil ?_
        refine X.freezeF [_] _ _ rfl (fun F4 le4 hz3 => ?_)
        replace har := har.mono le4
        replace hrs := hrs.mono le4
        replace hts := hts.mono le4
        replace hC := hC.mono le4
        have hf3 : IntsF F4 ov os := intsH.fz (xs := os) hz3.fz
        refine X.ret (retEnd (L' := L) [ov] (ov) (.tmp rfl .nil) rfl (FLe.trans leG1 le4) (FLe.refl _) (Sub.drop (Sub.drop (Sub.refl _))) ?_)
        have e9 : clsL ar rs ts n = os := by rw [clsL_yes hok (fun i hi => hfl i (by omega)), hos, show k = ts.length from by omega]
        exact ⟨_, rfl, by rw [e9]; exact hf3, by rw [e9]; exact Fresh.one (hz3.base leG1), rfl⟩

/- spec.l1TermPlace -/
theorem l1TermPlace_spec {F : FH} {L : List HP} {tsv : Value} {ts : List (List Int)} (hts : RowsF F tsv ts) {xv : Value} {x : List Int} (hx : IntsF F xv x) (hlt : ts.length ≤ 4000000) (htb : ∀ i, i < ts.length → (ts.getD i []).length ≤ 4000000) (hlx : x.length ≤ 4000000) :
    Does Tryz.prog 80 [tsv, xv] F (L) (fun v F' L' => (.int .i64 (badG (fun y => !decide (y = x)) ts) : Value) = v ∧ F = F' ∧ L = L') := by
  refine Does.of_X Tryz.func80 rfl rfl rfl ?_
  refine X.seq ?_
  refine X.region ?_
  refine XL.cons (XOp.assign (.int .i64 (0)) rfl ?_)
  refine XL.nil ?_
  refine X.seq ?_
  refine X.seq ?_
  refine X.region ?_
  refine XL.cons (XOp.assign (.int .i64 (0)) rfl ?_)
  refine XL.nil ?_
  refine X.block ?_
  refine X.loop (α := Nat) (fun k => [(0, tsv), (1, xv), (5, .int .i64 (((k : Nat) : Int)))]) (fun k => L) (fun k F' => F = F' ∧ (k ≤ ts.length) ∧ (∀ i, i < k → (fun y => !decide (y = x)) (ts.getD i []) = true)) (fun k => ts.length - k) 0 ⟨rfl, rfl, rfl, trivial⟩ (Sub.refl _) ⟨rfl, (by (try dsimp only) <;> omega), (fun i hi => absurd hi (by omega))⟩ ?_
  rintro k rE _ _ ⟨rfl, hk, hall⟩
  show X _ _ _ _ (envs [(0, tsv), (1, xv), (5, .int .i64 (((k : Nat) : Int)))] rE) _ (L)
  have htbk := htb k
  refine X.seq ?_
  refine X.seq ?_
  refine X.region ?_
  refine XL.cons (XOp.move (.int .i64 (((k : Nat) : Int))) rfl ?_)
  refine XL.cons (XOp.move (tsv) rfl ?_)
  refine XL.cons (XOp.lenS (v := tsv) (n := (ts).length) Tryz.runUnderlying54 rfl hts.slv ?_)
  refine XL.cons (XOp.lss (a := ((k : Nat) : Int)) (b := (((ts).length : Nat) : Int)) rfl rfl ?_)
  refine XL.nil ?_
  refine X.condD (p := (((k : Nat) : Int) : Int) < (((ts).length : Nat) : Int)) rfl (fun h1 => ?_) (fun h1 => ?_)
  · refine X.skip ?_
    refine X.seq ?_
    refine X.block ?_
    refine X.seq ?_
    refine X.region ?_
    refine XL.cons (XOp.move (tsv) rfl ?_)
    refine XL.cons (XOp.move (.int .i64 (((k : Nat) : Int))) rfl ?_)
    refine XL.cons (XOp.indexS (v := tsv) (i := ((k : Nat) : Int)) (n := (ts).length) k Tryz.runUnderlying54 Tryz.sizeOf22 rfl rfl rfl hts.slv (by omega) (Nat.mul_one _) ?_)
    obtain ⟨a1, ha1, hr1⟩ := hts.rd (i := k) (by omega)
    refine XL.cons (XOp.load1 (v := a1) Tryz.isAgg22 rfl (hr1 _) ?_)
    refine XL.cons (XOp.move (xv) rfl ?_)
    refine XL.cons (XOp.call (args := [a1, xv]) Tryz.call71 rfl (SameTerm_spec ha1 hx (hbd := (by first | assumption | rfl | omega | (left; simp; done) | (right; simp; done)))) ?_)
    rintro _ _ _ _ ⟨rfl, rfl, rfl⟩
    refine XL.nil ?_
    refine X.condD (p := ((ts.getD k [])) = x) rfl (fun h2 => ?_) (fun h2 => ?_)
    · refine X.seq ?_
      refine X.region ?_
      refine XL.cons (XOp.move (.int .i64 (((k : Nat) : Int))) rfl ?_)
      refine XL.cons (XOp.assign (.int .i64 (((k : Nat) : Int))) rfl ?_)
      refine XL.nil ?_
      refine X.ret (blockQ_ret (thenQ_ret (thenQ_ret (blockQ_ret (thenQ_ret (retEnd (L' := L) [.int .i64 (((k : Nat) : Int))] (.int .i64 (((k : Nat) : Int))) (.tmp rfl .nil) rfl (FLe.refl _) (FLe.refl _) (Sub.refl _) ?_))))))
      exact ⟨(congrArg (Value.int .i64) (badG_at [] (by omega) (by simp_all) hall)), rfl, rfl⟩
    · refine X.skip ?_
      refine X.region ?_
      refine XL.cons (XOp.move (.int .i64 (((k : Nat) : Int))) rfl ?_)
      refine XL.cons (XOp.addR (a := ((k : Nat) : Int)) (b := 1) (((k + 1 : Nat) : Int)) rfl rfl (by omega) (by omega) ?_)
      refine XL.cons (XOp.assign (.int .i64 (((k + 1 : Nat) : Int))) rfl ?_)
      refine XL.nil ?_
      exact ⟨k + 1, _, FLe.refl _, (FLe.refl _), ⟨rfl, rfl, rfl, trivial⟩, (Sub.refl _), ⟨rfl, (by (try dsimp only) <;> omega), (fun i hi => (Nat.lt_or_ge i k).elim (fun h => hall i h) (fun h => by obtain rfl : i = k := (by omega); simp_all))⟩, (by omega)⟩
  · refine X.exit (thenQ_exit (thenQ_exit (blockQ_exit ?_)))
    refine X.seq ?_
    refine X.region ?_
    refine XL.cons (XOp.assign (.int .i64 (-1)) rfl ?_)
    refine XL.nil ?_
    refine X.ret (retEnd (L' := L) [.int .i64 (-1)] (.int .i64 (-1)) (.tmp rfl .nil) rfl (FLe.refl _) (FLe.refl _) (Sub.refl _) ?_)
    exact ⟨(congrArg (Value.int .i64) (badG_none [] (fun i hi => hall i (by omega)))), rfl, rfl⟩

/- spec.ClassesBy -/
theorem sClassesBy_spec {F : FH} {L : List HP} {arv : Value} {ar : List Int} (har : IntsF F arv ar) {rsv : Value} {rs : List (List Int × List Int)} (hrs : PairsF F rsv rs) {tsv : Value} {ts : List (List Int)} (hts : RowsF F tsv ts) {n : Int} (hla : ar.length ≤ 4000000) (hlr : rs.length ≤ 4000000) (hrb : ∀ i, i < rs.length → (rs.getD i ([], [])).1.length ≤ 4000000 ∧ (rs.getD i ([], [])).2.length ≤ 4000000) (hlt : ts.length ≤ 4000000) (htb : ∀ i, i < ts.length → (ts.getD i []).length ≤ 4000000) :
    Does Tryz.prog 28 [.agg #[arv, rsv], tsv, .int .i64 (n)] F (L) (fun v F' L' => ∃ (r : Value), (r : Value) = v ∧ (IntsF F' r (clsL ar rs ts n)) ∧ L = L') := by
  refine Does.of_X Tryz.func28 rfl rfl rfl ?_
  refine X.seq ?_
  refine X.region ?_
  refine XL.cons (XOp.box [arv, rsv] rfl rfl ?_)
  intro b1
  refine XL.cons (XOp.assign ((.slice none 0 0)) rfl ?_)
  refine XL.nil ?_
  refine X.seq ?_
  refine X.region ?_
  refine XL.cons (XOp.buildSlice (s := 1) [] [.int .i64 (0)] [] Tryz.runUnderlying22 Tryz.sizeOf2 Tryz.zeroValue2 rfl (by decide) rfl CellsAre.nil rfl ?_)
  intro v1 hv1
  refine XL.cons (XOp.assign (v1) rfl ?_)
  refine XL.nil ?_
  refine X.seq ?_
  refine X.seq ?_
  refine X.region ?_
  refine XL.cons (XOp.loadN [arv, rsv] Tryz.isAgg37 Tryz.sizeOf37 rfl rfl (Rd.ownN [_] rfl rfl) ?_)
  refine XL.cons (XOp.move (tsv) rfl ?_)
  refine XL.cons (XOp.move (.int .i64 (n)) rfl ?_)
  refine XL.cons (XOp.call (args := [.agg #[arv, rsv], tsv, .int .i64 (n)]) Tryz.call78 rfl (l22All_spec (n := n) har hrs hts (hla := (by first | assumption | rfl | omega | (left; simp; done) | (right; simp; done))) (hlr := (by first | assumption | rfl | omega | (left; simp; done) | (right; simp; done))) (hrb := (by first | assumption | rfl | omega | (left; simp; done) | (right; simp; done))) (hlt := (by first | assumption | rfl | omega | (left; simp; done) | (right; simp; done))) (htb := (by first | assumption | rfl | omega | (left; simp; done) | (right; simp; done)))) ?_)
  rintro _ _ _ _ ⟨rfl, rfl, rfl⟩
  refine XL.cons (XOp.notB (b := allOk ar rs ts n) rfl ?_)
  refine XL.nil ?_
  refine X.cond (t := !(allOk ar rs ts n)) rfl (fun h1 => ?_) (fun h1 => ?_)
  · refine X.seq ?_
    refine X.region ?_
    refine XL.cons (XOp.move (v1) rfl ?_)
    refine XL.cons (XOp.assign (v1) rfl ?_)
    refine XL.nil ?_
    show X _ _ _ _ _ _ (intsH 2 v1 ([] : List Int) :: cellsH b1 [arv, rsv] 37 :: L)
    refine X.freezeF [] _ _ rfl (fun F1 le1 hz1 => ?_)
    replace har := har.mono le1
    replace hrs := hrs.mono le1
    replace hts := hts.mono le1
    have hf1 : IntsF F1 v1 ([]) := intsH.fz (xs := []) hz1.fz
    refine X.ret (thenQ_ret (retEnd (L' := L) [v1] (v1) (.tmp rfl .nil) rfl le1 (FLe.refl _) (Sub.drop (Sub.refl _)) ?_))
    have e9 : clsL ar rs ts n = [] := clsL_no (by simpa using h1)
    exact ⟨_, rfl, by rw [e9]; exact hf1, rfl⟩
  · have hok : allOk ar rs ts n = true := by simpa using h1
    have hao2 := allOk_iff.1 hok
    have hsys := hao2.1
    have hn0 := hao2.2.1
    have hall := hao2.2.2.1
    have hll := hao2.2.2.2
    refine X.skip ?_
    refine X.seq ?_
    refine X.region ?_
    refine XL.cons (XOp.buildSlice (s := 1) [] [(.slice none 0 0)] [] Tryz.runUnderlying54 Tryz.sizeOf22 Tryz.zeroValue22 rfl (by decide) rfl CellsAre.nil rfl ?_)
    intro v2 hv2
    refine XL.cons (XOp.assign (v2) rfl ?_)
    refine XL.nil ?_
    refine X.seq ?_
    refine X.seq ?_
    refine X.region ?_
    refine XL.cons (XOp.assign (.int .i64 (0)) rfl ?_)
    refine XL.nil ?_
    refine X.block ?_
    refine X.loop (α := Nat × Value × RowL × List Value × Value × List Int × FH) (fun xQ => [(1, tsv), (2, .int .i64 (n)), (3, ptr b1 0), (7, xQ.2.2.2.2.1), (8, xQ.2.1), (9, .int .i64 (((xQ.1 : Nat) : Int)))]) (fun xQ => slH 22 1 xQ.2.1 xQ.1 xQ.2.2.2.1 :: intsH 2 xQ.2.2.2.2.1 xQ.2.2.2.2.2.1 :: cellsH b1 [arv, rsv] 37 :: L) (fun xQ F' => xQ.2.2.2.2.2.2 = F' ∧ F ≤ xQ.2.2.2.2.2.2 ∧ (IsSl xQ.2.1) ∧ (IsSl xQ.2.2.2.2.1) ∧ (xQ.1 ≤ ts.length) ∧ (RowsC xQ.2.2.2.2.2.2 xQ.2.2.2.1 xQ.2.2.1) ∧ (xQ.2.2.1 = nfR ar rs ts n xQ.1) ∧ (xQ.2.2.2.2.2.1 = clsTo ar rs ts n xQ.1) ∧ (∀ i, i < xQ.1 → nfF ar rs n (ts.getD i []) = true)) (fun xQ => ts.length - xQ.1) (0, v2, [], [], v1, [], F) ⟨rfl, rfl, rfl, rfl, rfl, rfl, trivial⟩ (Sub.cons (Sub.cons (Sub.cons (Sub.refl _)))) ⟨rfl, FLe.refl _, ((isSl_lit hv2)), ((isSl_lit hv1)), (by (try dsimp only) <;> omega), (CO.nil), (rfl), (rfl), (fun i hi => absurd hi (by omega))⟩ ?_
    rintro ⟨k, rv, vs, rcs, ov, os, G1⟩ rE _ _ ⟨rfl, leG, hrv, hov, hk, hC, hvs, hos, hfl⟩
    show X _ _ _ _ (envs [(1, tsv), (2, .int .i64 (n)), (3, ptr b1 0), (7, ov), (8, rv), (9, .int .i64 (((k : Nat) : Int)))] rE) _ (slH 22 1 rv k rcs :: intsH 2 ov os :: cellsH b1 [arv, rsv] 37 :: L)
    replace leG : F ≤ G1 := leG
    dsimp only at hrv hov hk hC hvs hos hfl
    have hot := fun (h : k < ts.length) => all_at hall h
    have htl9 := fun (h : k < ts.length) => termOk_len (all_at hall h)
    have hvl : vs.length = k := by rw [hvs]; exact nfR_len
    have hol : os.length = k := by rw [hos]; exact clsTo_len
    have leG1 := leG
    replace har := har.mono leG1
    replace hrs := hrs.mono leG1
    replace hts := hts.mono leG1
    refine X.seq ?_
    refine X.seq ?_
    refine X.region ?_
    refine XL.cons (XOp.move (.int .i64 (((k : Nat) : Int))) rfl ?_)
    refine XL.cons (XOp.move (tsv) rfl ?_)
    refine XL.cons (XOp.lenS (v := tsv) (n := (ts).length) Tryz.runUnderlying54 rfl hts.slv ?_)
    refine XL.cons (XOp.lss (a := ((k : Nat) : Int)) (b := (((ts).length : Nat) : Int)) rfl rfl ?_)
    refine XL.nil ?_
    refine X.condD (p := (((k : Nat) : Int) : Int) < (((ts).length : Nat) : Int)) rfl (fun h2 => ?_) (fun h2 => ?_)
    · refine X.skip ?_
      refine X.seq ?_
      refine X.block ?_
      refine X.seq ?_
      obtain ⟨a1, ha1, hr1⟩ := hts.rd (i := k) (by omega)
      refine X.drawG [slH 22 1 rv k rcs, intsH 2 ov os, cellsH b1 [arv, rsv] 37] L 11 [[], [], [], [], [], [], [], [6], [6], [], [6]] [[], [], [], [1, 2], [3], [], [0, 4, 5], [6], [6, 7], [6, 7], [6, 8]] [[], [], [], [], [], [], [], [], [], [], []] (phiG [fun FF us v => v = (.agg #[arv, rsv] : Value), fun FF us v => v = tsv, fun FF us v => v = (.int .i64 (((k : Nat) : Int)) : Value), fun FF us v => v = (.pointer (some (elemA tsv (k))) : Value), fun FF us v => v = a1, fun FF us v => v = (.int .i64 (n) : Value), fun FF us v => (.tuple #[((tupAt v 0)), .bool ((normB ar rs ((ts.getD k [])) 1 n).2)] : Value) = v ∧ (IntsF FF ((tupAt v 0)) (normB ar rs ((ts.getD k [])) 1 n).1), fun FF us v => v = (.tuple #[((tupAt (us.getD 0 undef) 0)), .bool ((normB ar rs ((ts.getD k [])) 1 n).2)] : Value), fun FF us v => v = ((tupAt (us.getD 0 undef) 0)), fun FF us v => v = (.bool ((normB ar rs ((ts.getD k [])) 1 n).2) : Value), fun FF us v => v = ((tupAt (us.getD 0 undef) 0))]) (ownL [fun us v => [], fun us v => [], fun us v => [], fun us v => [], fun us v => [], fun us v => [], fun us v => [], fun us v => [], fun us v => [], fun us v => [], fun us v => []]) mixed rfl rfl (by kernel_rfl) (by kernel_rfl) (MonoG.get (MonoG.cons (fun le h => h) (MonoG.cons (fun le h => h) (MonoG.cons (fun le h => h) (MonoG.cons (fun le h => h) (MonoG.cons (fun le h => h) (MonoG.cons (fun le h => h) (MonoG.cons (fun le h => ⟨h.1, h.2.mono le⟩) (MonoG.cons (fun le h => h) (MonoG.cons (fun le h => h) (MonoG.cons (fun le h => h) (MonoG.cons (fun le h => h) MonoG.nil)))))))))))) ?_ ?_
      · refine stepsG.cons (fun vals Fs R leFs hpZ => ?_) ?_
        · replace har := har.mono leFs
          replace hrs := hrs.mono leFs
          replace hts := hts.mono leFs
          replace hC := hC.mono leFs
          replace ha1 := ha1.mono leFs
          replace hr1 := Rd.monoA hr1 leFs
          refine XG.op (XOp.loadN [arv, rsv] Tryz.isAgg37 Tryz.sizeOf37 rfl rfl (Rd.ownN [_, _] rfl rfl) ?_)
          exact ⟨rfl, rfl⟩
        refine stepsG.cons (fun vals Fs R leFs hpZ => ?_) ?_
        · refine XG.op (XOp.move (tsv) rfl ?_)
          exact ⟨rfl, rfl⟩
        refine stepsG.cons (fun vals Fs R leFs hpZ => ?_) ?_
        · refine XG.op (XOp.move (.int .i64 (((k : Nat) : Int))) rfl ?_)
          exact ⟨rfl, rfl⟩
        refine stepsG.cons (fun vals Fs R leFs hpZ => ?_) ?_
        · have e1 : vals 1 = tsv := hpZ 1 (by decide)
          have e2 : vals 2 = (.int .i64 (((k : Nat) : Int)) : Value) := hpZ 2 (by decide)
          replace har := har.mono leFs
          replace hrs := hrs.mono leFs
          replace hts := hts.mono leFs
          replace hC := hC.mono leFs
          replace ha1 := ha1.mono leFs
          replace hr1 := Rd.monoA hr1 leFs
          rw [(envs_of_sat (l := [(1, tsv), (2, (.int .i64 (((k : Nat) : Int)) : Value))]) ⟨e1, e2, trivial⟩).symm]
          refine XG.op (XOp.indexS (v := tsv) (i := ((k : Nat) : Int)) (n := (ts).length) k Tryz.runUnderlying54 Tryz.sizeOf22 rfl rfl rfl hts.slv (by omega) (Nat.mul_one _) ?_)
          exact ⟨rfl, rfl⟩
        refine stepsG.cons (fun vals Fs R leFs hpZ => ?_) ?_
        · have e3 : vals 3 = (.pointer (some (elemA tsv (k))) : Value) := hpZ 3 (by decide)
          replace har := har.mono leFs
          replace hrs := hrs.mono leFs
          replace hts := hts.mono leFs
          replace hC := hC.mono leFs
          replace ha1 := ha1.mono leFs
          replace hr1 := Rd.monoA hr1 leFs
          rw [(envs_of_sat (l := [(3, (.pointer (some (elemA tsv (k))) : Value))]) ⟨e3, trivial⟩).symm]
          refine XG.op (XOp.load1 (v := a1) Tryz.isAgg22 rfl (hr1 _) ?_)
          exact ⟨rfl, rfl⟩
        refine stepsG.cons (fun vals Fs R leFs hpZ => ?_) ?_
        · refine XG.op (XOp.move (.int .i64 (n)) rfl ?_)
          exact ⟨rfl, rfl⟩
        refine stepsG.cons (fun vals Fs R leFs hpZ => ?_) ?_
        · have e0 : vals 0 = (.agg #[arv, rsv] : Value) := hpZ 0 (by decide)
          have e4 : vals 4 = a1 := hpZ 4 (by decide)
          have e5 : vals 5 = (.int .i64 (n) : Value) := hpZ 5 (by decide)
          replace har := har.mono leFs
          replace hrs := hrs.mono leFs
          replace hts := hts.mono leFs
          replace hC := hC.mono leFs
          replace ha1 := ha1.mono leFs
          replace hr1 := Rd.monoA hr1 leFs
          rw [(envs_of_sat (l := [(0, (.agg #[arv, rsv] : Value)), (4, a1), (5, (.int .i64 (n) : Value))]) ⟨e0, e4, e5, trivial⟩).symm]
          refine XG.op (XOp.call (args := [.agg #[arv, rsv], a1, .int .i64 (1), .int .i64 (n)]) Tryz.call79 rfl (sNormalBy_spec (st := 1) (n := n) har hrs ha1 (hla := (by first | assumption | rfl | omega | (left; simp; done) | (right; simp; done))) (hlr := (by first | assumption | rfl | omega | (left; simp; done) | (right; simp; done))) (hrb := (by first | assumption | rfl | omega | (left; simp; done) | (right; simp; done))) (hlt := (by first | assumption | rfl | omega | (left; simp; done) | (right; simp; done)))) ?_)
          rintro _ F3 _ le3 ⟨x2, rfl, hr3, rfl⟩
          replace har := har.mono le3
          replace hrs := hrs.mono le3
          replace hts := hts.mono le3
          replace hC := hC.mono le3
          replace ha1 := ha1.mono le3
          replace hr1 := Rd.monoA hr1 le3
          exact ⟨⟨rfl, hr3⟩, rfl⟩
        refine stepsG.cons (fun vals Fs R leFs hpZ => ?_) ?_
        · obtain ⟨e6, f6_1hr⟩ := hpZ 6 (by decide)
          rw [(envs_of_sat (l := [(6, (.tuple #[((tupAt (vals 6) 0)), .bool ((normB ar rs ((ts.getD k [])) 1 n).2)] : Value))]) ⟨(e6).symm, trivial⟩).symm]
          refine XG.op (XOp.move (.tuple #[((tupAt (vals 6) 0)), .bool ((normB ar rs ((ts.getD k [])) 1 n).2)]) rfl ?_)
          exact ⟨rfl, rfl⟩
        refine stepsG.cons (fun vals Fs R leFs hpZ => ?_) ?_
        · obtain ⟨e6, f6_1hr⟩ := hpZ 6 (by decide)
          have e7 : vals 7 = (.tuple #[((tupAt (vals 6) 0)), .bool ((normB ar rs ((ts.getD k [])) 1 n).2)] : Value) := hpZ 7 (by decide)
          rw [(envs_of_sat (l := [(6, (.tuple #[((tupAt (vals 6) 0)), .bool ((normB ar rs ((ts.getD k [])) 1 n).2)] : Value)), (7, (.tuple #[((tupAt (vals 6) 0)), .bool ((normB ar rs ((ts.getD k [])) 1 n).2)] : Value))]) ⟨(e6).symm, e7, trivial⟩).symm]
          refine XG.op (XOp.extract (((tupAt (vals 6) 0))) rfl rfl ?_)
          exact ⟨rfl, rfl⟩
        refine stepsG.cons (fun vals Fs R leFs hpZ => ?_) ?_
        · obtain ⟨e6, f6_1hr⟩ := hpZ 6 (by decide)
          have e7 : vals 7 = (.tuple #[((tupAt (vals 6) 0)), .bool ((normB ar rs ((ts.getD k [])) 1 n).2)] : Value) := hpZ 7 (by decide)
          rw [(envs_of_sat (l := [(6, (.tuple #[((tupAt (vals 6) 0)), .bool ((normB ar rs ((ts.getD k [])) 1 n).2)] : Value)), (7, (.tuple #[((tupAt (vals 6) 0)), .bool ((normB ar rs ((ts.getD k [])) 1 n).2)] : Value))]) ⟨(e6).symm, e7, trivial⟩).symm]
          refine XG.op (XOp.extract (.bool ((normB ar rs ((ts.getD k [])) 1 n).2)) rfl rfl ?_)
          exact ⟨rfl, rfl⟩
        refine stepsG.cons (fun vals Fs R leFs hpZ => ?_) ?_
        · obtain ⟨e6, f6_1hr⟩ := hpZ 6 (by decide)
          have e8 : vals 8 = ((tupAt (vals 6) 0)) := hpZ 8 (by decide)
          rw [(envs_of_sat (l := [(6, (.tuple #[((tupAt (vals 6) 0)), .bool ((normB ar rs ((ts.getD k [])) 1 n).2)] : Value)), (8, ((tupAt (vals 6) 0)))]) ⟨(e6).symm, e8, trivial⟩).symm]
          refine XG.op (XOp.assign (((tupAt (vals 6) 0))) rfl ?_)
          exact ⟨rfl, rfl⟩
        exact stepsG.nil
      · intro vals F4 le4 hphi
        have e0 : vals 0 = (.agg #[arv, rsv] : Value) := hphi 0 (by decide)
        have e1 : vals 1 = tsv := hphi 1 (by decide)
        have e2 : vals 2 = (.int .i64 (((k : Nat) : Int)) : Value) := hphi 2 (by decide)
        have e3 : vals 3 = (.pointer (some (elemA tsv (k))) : Value) := hphi 3 (by decide)
        have e4 : vals 4 = a1 := hphi 4 (by decide)
        have e5 : vals 5 = (.int .i64 (n) : Value) := hphi 5 (by decide)
        obtain ⟨e6, f6_1hr⟩ := hphi 6 (by decide)
        have e7 : vals 7 = (.tuple #[((tupAt (vals 6) 0)), .bool ((normB ar rs ((ts.getD k [])) 1 n).2)] : Value) := hphi 7 (by decide)
        have e8 : vals 8 = ((tupAt (vals 6) 0)) := hphi 8 (by decide)
        have e9 : vals 9 = (.bool ((normB ar rs ((ts.getD k [])) 1 n).2) : Value) := hphi 9 (by decide)
        have e10 : vals 10 = ((tupAt (vals 6) 0)) := hphi 10 (by decide)
        generalize hu1 : ((tupAt (vals 6) 0)) = u1 at e0 e1 e2 e3 e4 e5 e6 f6_1hr e7 e8 e9 e10
        rw [(envs_of_sat (l := [(0, (.agg #[arv, rsv] : Value)), (1, tsv), (2, (.int .i64 (((k : Nat) : Int)) : Value)), (3, (.pointer (some (elemA tsv (k))) : Value)), (4, a1), (5, (.int .i64 (n) : Value)), (6, (.tuple #[u1, .bool ((normB ar rs ((ts.getD k [])) 1 n).2)] : Value)), (7, (.tuple #[u1, .bool ((normB ar rs ((ts.getD k [])) 1 n).2)] : Value)), (8, u1), (9, (.bool ((normB ar rs ((ts.getD k [])) 1 n).2) : Value)), (10, u1)]) ⟨e0, e1, e2, e3, e4, e5, (e6).symm, e7, e8, e9, e10, trivial⟩).symm]
        replace har := har.mono le4
        replace hrs := hrs.mono le4
        replace hts := hts.mono le4
        replace hC := hC.mono le4
        replace ha1 := ha1.mono le4
        replace hr1 := Rd.monoA hr1 le4
        show XL _ _ _ _ _ _ _ (slH 22 1 rv k rcs :: intsH 2 ov os :: cellsH b1 [arv, rsv] 37 :: L)
        refine XL.cons (XOp.assign (.bool ((normB ar rs ((ts.getD k [])) 1 n).2)) rfl ?_)
        refine XL.nil ?_
        refine X.seq ?_
        refine X.seq ?_
        refine X.region ?_
        refine XL.cons (XOp.move (.bool ((normB ar rs ((ts.getD k [])) 1 n).2)) rfl ?_)
        refine XL.cons (XOp.notB (b := (normB ar rs ((ts.getD k [])) 1 n).2) rfl ?_)
        refine XL.nil ?_
        refine X.cond (t := !((normB ar rs ((ts.getD k [])) 1 n).2)) rfl (fun h3 => ?_) (fun h3 => ?_)
        · have hnF : nfF ar rs n (ts.getD k []) = false := by rw [← (normB_nf hsys (hot (by omega)) hn0).1]; simpa using h3
          refine X.seq ?_
          refine X.region ?_
          refine XL.cons (XOp.buildSlice (s := 1) [] [.int .i64 (0)] [] Tryz.runUnderlying22 Tryz.sizeOf2 Tryz.zeroValue2 rfl (by decide) rfl CellsAre.nil rfl ?_)
          intro v3 hv3
          refine XL.cons (XOp.assign (v3) rfl ?_)
          refine XL.nil ?_
          show X _ _ _ _ _ _ (intsH 2 v3 ([] : List Int) :: slH 22 1 rv k rcs :: intsH 2 ov os :: cellsH b1 [arv, rsv] 37 :: L)
          refine X.freezeF [] _ _ rfl (fun F5 le5 hz2 => ?_)
          replace har := har.mono le5
          replace hrs := hrs.mono le5
          replace hts := hts.mono le5
          replace hC := hC.mono le5
          replace ha1 := ha1.mono le5
          replace f6_1hr := f6_1hr.mono le5
          replace hr1 := Rd.monoA hr1 le5
          have hf2 : IntsF F5 v3 ([]) := intsH.fz (xs := []) hz2.fz
          refine X.ret (thenQ_ret (blockQ_ret (thenQ_ret (thenQ_ret (blockQ_ret (thenQ_ret (retEnd (L' := L) [v3] (v3) (.tmp rfl .nil) rfl (FLe.trans (FLe.trans leG1 le4) le5) (FLe.refl _) (Sub.drop (Sub.drop (Sub.drop (Sub.refl _)))) ?_)))))))
          have e9 : clsL ar rs ts n = [] := clsL_no3 (k := k) (by omega) hnF
          exact ⟨_, rfl, by rw [e9]; exact hf2, rfl⟩
        · have hnF : nfF ar rs n (ts.getD k []) = true := by rw [← (normB_nf hsys (hot (by omega)) hn0).1]; simpa using h3
          have hnE := (normB_nf hsys (hot (by omega)) hn0).2 hnF
          have hnL := normB_len (ar := ar) (rs := rs) (t := (ts.getD k [])) (st := 1) (n := n)
          refine X.skip ?_
          refine X.seq ?_
          refine X.region ?_
          refine XL.cons (XOp.move (rv) rfl ?_)
          refine XL.cons (XOp.move (u1) rfl ?_)
          refine XL.cons (XOp.buildSlice (s := 1) [u1] [(.slice none 0 0)] [(0, [u1])] Tryz.runUnderlying54 Tryz.sizeOf22 Tryz.zeroValue22 rfl (by decide) rfl (.cons (cells_one (IntsF.isSl f6_1hr)) CellsAre.nil) rfl ?_)
          intro v4 hv4
          refine XL.cons (XOp.append (m := 1) (bytes := 24) (cs := rcs) [_] _ [u1] Tryz.runUnderlying54 Tryz.typeInfo22 rfl rfl rfl rfl rfl rfl rfl (SlV.own [] rfl) rfl (Rd.lit [] rfl) (ones_cons (one_sl (IntsF.isSl f6_1hr)) ones_nil) (by (try simp only [List.length_append, List.length_nil, List.length_cons, List.length_singleton]); omega) (by (try simp only [List.length_append, List.length_nil, List.length_cons, List.length_singleton]); omega) ?_)
          intro v5 hs1 hn1 hm1
          have hc1 := RowsC.snoc hC f6_1hr
          refine XL.cons (XOp.assign (v5) rfl ?_)
          refine XL.nil ?_
          refine X.region ?_
          refine XL.cons (XOp.move (ov) rfl ?_)
          refine XL.cons (XOp.move (v5) rfl ?_)
          refine XL.cons (XOp.move (u1) rfl ?_)
          refine XL.cons (XOp.lend [_] _ _ rfl (fun F6 le6 hz3 => ?_))
          have hf3 : RowsF _ v5 (vs ++ [(normB ar rs ((ts.getD k [])) 1 n).1]) := (CO.fz (RowsC.mono hc1 (FLe.trans le6 (FLe.refl _))) (by first | rfl | assumption | omega | (rw [List.length_append]; simp only [List.length_singleton]; omega)) hz3 : RowsF _ v5 (vs ++ [(normB ar rs ((ts.getD k [])) 1 n).1]))
          refine id (XOp.call (args := [v5, u1]) Tryz.call80 rfl (l1TermPlace_spec hf3 ((f6_1hr.mono le6)) (hlt := (by rw [List.length_append]; simp only [List.length_singleton]; omega)) (htb := (by rw [hnE, hvs, nfR_next]; exact fun i hi => by have := nfR_bound hsys hall (by omega) i hi; omega)) (hlx := (by omega))) ?_)
          rintro _ _ _ _ ⟨rfl, rfl, rfl⟩
          show XL _ _ _ _ _ _ _ (slH 22 1 v5 ((k) + 1) (rcs ++ [u1]) :: slH 22 1 v4 1 [u1] :: intsH 2 ov os :: cellsH b1 [arv, rsv] 37 :: L)
          refine XL.cons (XOp.buildSlice (s := 1) [.int .i64 (badG (fun y => !decide (y = ((normB ar rs ((ts.getD k [])) 1 n).1))) (vs ++ [(normB ar rs ((ts.getD k [])) 1 n).1]))] [.int .i64 (0)] [(0, [.int .i64 (badG (fun y => !decide (y = ((normB ar rs ((ts.getD k [])) 1 n).1))) (vs ++ [(normB ar rs ((ts.getD k [])) 1 n).1]))])] Tryz.runUnderlying22 Tryz.sizeOf2 Tryz.zeroValue2 rfl (by decide) rfl (.cons rfl CellsAre.nil) rfl ?_)
          intro v6 hv5
          refine XL.cons (XOp.append1 (u := badG (fun y => !decide (y = ((normB ar rs ((ts.getD k [])) 1 n).1))) (vs ++ [(normB ar rs ((ts.getD k [])) 1 n).1])) [_, _, _] _ Tryz.runUnderlying22 Tryz.typeInfo2 rfl rfl rfl rfl rfl rfl (SlV.own [] rfl) (Rd.sl [] rfl rfl) (by (try simp only [List.length_append, List.length_nil, List.length_cons, List.length_singleton, List.length_take, List.length_drop]); omega) ?_)
          intro v7 hs2 hn2
          refine XL.cons (XOp.assign (v7) rfl ?_)
          refine XL.nil ?_
          refine X.region ?_
          refine XL.cons (XOp.move (.int .i64 (((k : Nat) : Int))) rfl ?_)
          refine XL.cons (XOp.addR (a := ((k : Nat) : Int)) (b := 1) (((k + 1 : Nat) : Int)) rfl rfl (by omega) (by omega) ?_)
          refine XL.cons (XOp.assign (.int .i64 (((k + 1 : Nat) : Int))) rfl ?_)
          refine XL.nil ?_
          exact ⟨(k + 1, v5, vs ++ [(normB ar rs ((ts.getD k [])) 1 n).1], rcs ++ [u1], v7, os ++ [badG (fun y => !decide (y = ((normB ar rs ((ts.getD k [])) 1 n).1))) (vs ++ [(normB ar rs ((ts.getD k [])) 1 n).1])], F4), _, (FLe.trans leG1 le4), (FLe.refl _), ⟨rfl, rfl, rfl, rfl, rfl, rfl, trivial⟩, (Sub.drop (Sub.cons (Sub.drop (Sub.cons (Sub.cons (Sub.refl _)))))), ⟨rfl, (FLe.trans leG1 le4), (hs1), (hs2), (by (try dsimp only) <;> omega), (hc1), (by (try dsimp only); subst hvs hos; rw [hnE]; exact nfR_next), (by (try dsimp only); subst hvs hos; rw [hnE]; exact clsTo_next), (fun i hi => (Nat.lt_or_ge i k).elim (fun h => hfl i h) (fun h => by obtain rfl : i = k := (by omega); exact hnF))⟩, (by omega)⟩
    · refine X.exit (thenQ_exit (thenQ_exit (blockQ_exit ?_)))
      refine X.seq ?_
      refine X.region ?_
      refine XL.cons (XOp.move (ov) rfl ?_)
      refine XL.cons (XOp.assign (ov) rfl ?_)
      refine XL.nil ?_
      refine X.freezeF [_] _ _ rfl (fun F7 le7 hz4 => ?_)
      replace har := har.mono le7
      replace hrs := hrs.mono le7
      replace hts := hts.mono le7
      replace hC := hC.mono le7
      have hf4 : IntsF F7 ov os := intsH.fz (xs := os) hz4.fz
      refine X.ret (retEnd (L' := L) [ov] (ov) (.tmp rfl .nil) rfl (FLe.trans leG1 le7) (FLe.refl _) (Sub.drop (Sub.drop (Sub.refl _))) ?_)
      have e9 : clsL ar rs ts n = os := by rw [clsL_yes hok (fun i hi => hfl i (by omega)), hos, show k = ts.length from by omega]
      exact ⟨_, rfl, by rw [e9]; exact hf4, rfl⟩

/- laws.FnExactClassesBy -/
set_option maxRecDepth 20000 in
theorem FnExactClassesBy_does {F : FH} {L : List HP} {arv : Value} {ar : List Int} (har : IntsF F arv ar) {rsv : Value} {rs : List (List Int × List Int)} (hrs : PairsF F rsv rs) {tsv : Value} {ts : List (List Int)} (hts : RowsF F tsv ts) {n : Int} (hlar : ar.length ≤ 9223372036854775807) (hlrs : rs.length ≤ 9223372036854775807) (hbrs : ∀ i, i < rs.length → (rs.getD i ([], [])).1.length ≤ 9223372036854775807 ∧ (rs.getD i ([], [])).2.length ≤ 9223372036854775807) (hlts : ts.length ≤ 9223372036854775807) (hbts : ∀ i, i < ts.length → (ts.getD i []).length ≤ 9223372036854775807) :
    Does Tryz.prog 5 [.agg #[arv, rsv], tsv, .int .i64 (n)] F (L) (fun v F' L' => (.bool (true) : Value) = v ∧ F = F' ∧ L = L') := by
  refine Does.of_X Tryz.func5 rfl rfl rfl ?_
  have hnl := clsL_len (ar := ar) (rs := rs) (ts := ts) (n := n)
  refine X.seq ?_
  refine X.region ?_
  refine XL.cons (XOp.box [arv, rsv] rfl rfl ?_)
  intro b1
  refine XL.cons (XOp.assign (.bool (false)) rfl ?_)
  refine XL.nil ?_
  refine X.seq ?_
  refine X.region ?_
  refine XL.cons (XOp.assign (.int .i64 (1048576)) rfl ?_)
  refine XL.nil ?_
  refine X.seq ?_
  refine X.region ?_
  refine XL.cons (XOp.loadN [arv, rsv] Tryz.isAgg27 Tryz.sizeOf27 rfl rfl (Rd.ownN [] rfl rfl) ?_)
  refine XL.cons (XOp.move (.int .i64 (1048576)) rfl ?_)
  refine XL.cons (XOp.call (args := [.agg #[arv, rsv], .int .i64 (1048576)]) Tryz.call10 rfl (szSystem_spec (z := 1048576) har hrs (hz := (by first | assumption | rfl | omega | (left; simp; done) | (right; simp; done))) (hal := (by first | assumption | rfl | omega | (left; simp; done) | (right; simp; done))) (hrl := (by first | assumption | rfl | omega | (left; simp; done) | (right; simp; done))) (hrb := (by first | assumption | rfl | omega | (left; simp; done) | (right; simp; done)))) ?_)
  rintro _ _ _ _ ⟨rfl, rfl, rfl⟩
  refine XL.cons (XOp.assign (.int .i64 (dec 1048576 (ar.length + szR rs))) rfl ?_)
  refine XL.nil ?_
  refine X.seq ?_
  refine X.seq ?_
  refine X.region ?_
  refine XL.cons (XOp.move (.int .i64 (dec 1048576 (ar.length + szR rs))) rfl ?_)
  refine XL.cons (XOp.lss (a := dec 1048576 (ar.length + szR rs)) (b := 0) rfl rfl ?_)
  refine XL.nil ?_
  refine X.condD (p := (dec 1048576 (ar.length + szR rs) : Int) < 0) rfl (fun h1 => ?_) (fun h1 => ?_)
  · refine X.seq ?_
    refine X.region ?_
    refine XL.cons (XOp.assign (.bool (true)) rfl ?_)
    refine XL.nil ?_
    refine X.ret (thenQ_ret (retEnd (L' := L) [.bool (true)] (.bool (true)) (.tmp rfl .nil) rfl (FLe.refl _) (FLe.refl _) (Sub.drop (Sub.refl _)) ?_))
    exact ⟨rfl, rfl, rfl⟩
  · have hd1 := dec_le2 h1 (by omega)
    have hzrs := szR_le (rs := rs)
    have hirs := hzrs.2
    have hcrs : ∀ i, i < rs.length → (rs.getD i ([], [])).1.length ≤ 4000000 ∧ (rs.getD i ([], [])).2.length ≤ 4000000 := fun i hi => by have := hirs i hi; omega
    have hfrs := flatPair_len rs
    refine X.skip ?_
    refine X.seq ?_
    refine X.region ?_
    refine XL.cons (XOp.move (tsv) rfl ?_)
    refine XL.cons (XOp.move (.int .i64 (dec 1048576 (ar.length + szR rs))) rfl ?_)
    refine XL.cons (XOp.call (args := [tsv, .int .i64 (dec 1048576 (ar.length + szR rs))]) Tryz.call27 rfl (szInt64SS_spec (z := dec 1048576 (ar.length + szR rs)) hts (hz := (by first | assumption | rfl | omega | (left; simp; done) | (right; simp; done))) (hrl := (by first | assumption | rfl | omega | (left; simp; done) | (right; simp; done))) (hrb := (by first | assumption | rfl | omega | (left; simp; done) | (right; simp; done)))) ?_)
    rintro _ _ _ _ ⟨rfl, rfl, rfl⟩
    refine XL.cons (XOp.assign (.int .i64 (dec (dec 1048576 (ar.length + szR rs)) (szG lenR ts))) rfl ?_)
    refine XL.nil ?_
    refine X.seq ?_
    refine X.seq ?_
    refine X.region ?_
    refine XL.cons (XOp.move (.int .i64 (dec (dec 1048576 (ar.length + szR rs)) (szG lenR ts))) rfl ?_)
    refine XL.cons (XOp.lss (a := dec (dec 1048576 (ar.length + szR rs)) (szG lenR ts)) (b := 0) rfl rfl ?_)
    refine XL.nil ?_
    refine X.condD (p := (dec (dec 1048576 (ar.length + szR rs)) (szG lenR ts) : Int) < 0) rfl (fun h2 => ?_) (fun h2 => ?_)
    · refine X.seq ?_
      refine X.region ?_
      refine XL.cons (XOp.assign (.bool (true)) rfl ?_)
      refine XL.nil ?_
      refine X.ret (thenQ_ret (retEnd (L' := L) [.bool (true)] (.bool (true)) (.tmp rfl .nil) rfl (FLe.refl _) (FLe.refl _) (Sub.drop (Sub.refl _)) ?_))
      exact ⟨rfl, rfl, rfl⟩
    · have hd2 := dec_le2 h2 (by omega)
      have hzts := szG_le (f := lenR) (l := ts) ([] : List Int)
      have hits := hzts.2
      have hcts : ∀ i, i < ts.length → (ts.getD i []).length ≤ 4000000 := fun i hi => by have h9 := hits i hi; have h8 : lenR (ts.getD i []) = (ts.getD i []).length := rfl; omega
      have hfts := flatRow_len ts
      have hq9ts : szG lenR ts = ts.length + gTo lenR ts ts.length := rfl
      refine X.skip ?_
      refine X.seq ?_
      refine X.region ?_
      refine XL.cons (XOp.loadN [arv, rsv] Tryz.isAgg27 Tryz.sizeOf27 rfl rfl (Rd.ownN [] rfl rfl) ?_)
      refine XL.cons (XOp.thawL ?_)
      refine id (XOp.call (args := [.agg #[arv, rsv]]) Tryz.call12 rfl (toSystem_spec har hrs (hla := (by first | assumption | rfl | omega | (left; simp; done) | (right; simp; done))) (hrl := (by first | assumption | rfl | omega | (left; simp; done) | (right; simp; done))) (hrb := (by first | assumption | rfl | omega | (left; simp; done) | (right; simp; done)))) ?_)
      rintro _ F1 _ le1 ⟨x1, x2, rfl, hr1, hr2, hr3, rfl⟩
      refine ⟨[intsH 2 x1 ar, pairsD 2 135 x2 rs], hr3, ?_⟩
      show XL _ _ _ _ _ _ _ (intsH 2 x1 ar :: pairsD 2 135 x2 rs :: cellsH b1 [arv, rsv] 27 :: L)
      refine XL.cons (XOp.move (tsv) rfl ?_)
      refine XL.cons (XOp.thawL ?_)
      refine id (XOp.call (args := [tsv]) Tryz.call29 rfl (toInt64SS_spec hts (hlx := (by first | assumption | rfl | omega | (left; simp; done) | (right; simp; done))) (hrb := (by first | assumption | rfl | omega | (left; simp; done) | (right; simp; done)))) ?_)
      rintro _ F2 _ le2 ⟨x3, rfl, hr4, hr5, rfl⟩
      refine ⟨[rowsD 2 22 x3 ts], hr5, ?_⟩
      show XL _ _ _ _ _ _ _ (rowsD 2 22 x3 ts :: intsH 2 x1 ar :: pairsD 2 135 x2 rs :: cellsH b1 [arv, rsv] 27 :: L)
      refine XL.cons (XOp.move (.int .i64 (n)) rfl ?_)
      refine XL.freezeF [_] _ _ rfl (fun F3 le3 hz1 => ?_)
      replace har := har.mono le3
      replace hrs := hrs.mono le3
      replace hts := hts.mono le3
      have hf1 : IntsF F3 x1 ar := intsH.fz (xs := ar) hz1.fz
      refine XL.freezeF [_] _ _ rfl (fun F4 le4 hz2 => ?_)
      replace har := har.mono le4
      replace hrs := hrs.mono le4
      replace hts := hts.mono le4
      replace hf1 := hf1.mono le4
      have hf2 : PairsF F4 x2 rs := pairsD.fz hz2.fz
      refine XL.freezeF [] _ _ rfl (fun F5 le5 hz3 => ?_)
      replace har := har.mono le5
      replace hrs := hrs.mono le5
      replace hts := hts.mono le5
      replace hf1 := hf1.mono le5
      replace hf2 := hf2.mono le5
      have hf3 : RowsF F5 x3 ts := rowsD.fz hz3.fz
      refine XL.cons (XOp.call (args := [.agg #[x1, x2], x3, .int .i64 (n)]) Tryz.call28 rfl (sClassesBy_spec (n := n) hf1 hf2 hf3 (hla := (by first | assumption | rfl | omega | (left; simp; done) | (right; simp; done))) (hlr := (by first | assumption | rfl | omega | (left; simp; done) | (right; simp; done))) (hrb := (by first | assumption | rfl | omega | (left; simp; done) | (right; simp; done))) (hlt := (by first | assumption | rfl | omega | (left; simp; done) | (right; simp; done))) (htb := (by first | assumption | rfl | omega | (left; simp; done) | (right; simp; done)))) ?_)
      rintro _ F6 _ le6 ⟨x4, rfl, hr6, rfl⟩
      replace har := har.mono le6
      replace hrs := hrs.mono le6
      replace hts := hts.mono le6
      replace hf1 := hf1.mono le6
      replace hf2 := hf2.mono le6
      replace hf3 := hf3.mono le6
      refine XL.cons (XOp.assign (x4) rfl ?_)
      refine XL.nil ?_
      refine X.seq ?_
      refine X.region ?_
      refine XL.cons (XOp.loadN [arv, rsv] Tryz.isAgg27 Tryz.sizeOf27 rfl rfl (Rd.ownN [] rfl rfl) ?_)
      refine XL.cons (XOp.thawL ?_)
      refine id (XOp.call (args := [.agg #[arv, rsv]]) Tryz.call12 rfl (toSystem_spec har hrs (hla := (by first | assumption | rfl | omega | (left; simp; done) | (right; simp; done))) (hrl := (by first | assumption | rfl | omega | (left; simp; done) | (right; simp; done))) (hrb := (by first | assumption | rfl | omega | (left; simp; done) | (right; simp; done)))) ?_)
      rintro _ F7 _ le7 ⟨x5, x6, rfl, hr7, hr8, hr9, rfl⟩
      refine ⟨[intsH 2 x5 ar, pairsD 2 135 x6 rs], hr9, ?_⟩
      show XL _ _ _ _ _ _ _ (intsH 2 x5 ar :: pairsD 2 135 x6 rs :: cellsH b1 [arv, rsv] 27 :: L)
      refine XL.cons (XOp.alloc [(.slice none 0 0), (.slice none 0 0)] Tryz.zeroValue37 rfl ?_)
      intro b2
      refine XL.cons (XOp.storeN (vs := [x5, x6]) [] _ [x5, x6] Tryz.sizeOf37 rfl rfl rfl (ones_cons (one_sl (IntsF.isSl hr7)) (ones_cons (one_sl (PairsF.isSl hr8)) ones_nil)) rfl rfl rfl ?_)
      refine XL.nil ?_
      refine X.seq ?_
      refine X.region ?_
      refine XL.cons (XOp.move (tsv) rfl ?_)
      refine XL.cons (XOp.thawL ?_)
      refine id (XOp.call (args := [tsv]) Tryz.call29 rfl (toInt64SS_spec hts (hlx := (by first | assumption | rfl | omega | (left; simp; done) | (right; simp; done))) (hrb := (by first | assumption | rfl | omega | (left; simp; done) | (right; simp; done)))) ?_)
      rintro _ F8 _ le8 ⟨x7, rfl, hr10, hr11, rfl⟩
      refine ⟨[rowsD 2 22 x7 ts], hr11, ?_⟩
      show XL _ _ _ _ _ _ _ (rowsD 2 22 x7 ts :: cellsH b2 [x5, x6] 37 :: intsH 2 x5 ar :: pairsD 2 135 x6 rs :: cellsH b1 [arv, rsv] 27 :: L)
      refine XL.cons (XOp.assign (x7) rfl ?_)
      refine XL.nil ?_
      refine X.seq ?_
      refine X.region ?_
      refine XL.cons (XOp.loadN [x5, x6] Tryz.isAgg37 Tryz.sizeOf37 rfl rfl (Rd.ownN [_] rfl rfl) ?_)
      refine XL.cons (XOp.move (x7) rfl ?_)
      refine XL.cons (XOp.move (.int .i64 (n)) rfl ?_)
      refine XL.cons (XOp.lend [_, _] _ _ rfl (fun F9 le9 hz4 => ?_))
      refine id (XOp.lend [_, _] _ _ rfl (fun F10 le10 hz5 => ?_))
      refine id (XOp.lend [] _ _ rfl (fun F11 le11 hz6 => ?_))
      have hf4 : IntsF _ x5 ar := (intsH.fz (xs := ar) hz4).mono (FLe.trans le10 le11)
      have hf5 : PairsF _ x6 rs := (pairsD.fz hz5).mono le11
      have hf6 : RowsF _ x7 ts := rowsD.fz hz6
      refine id (XOp.thawL ?_)
      refine id (XOp.call (args := [.agg #[x5, x6], x7, .int .i64 (n)]) Tryz.call30 rfl (ClassesBy_spec (n := n) hf4 hf5 hf6 (hlt := (by first | assumption | rfl | omega | (left; simp; done) | (right; simp; done)))) ?_)
      rintro _ F12 _ le12 ⟨x8, rfl, hr12, hr13, rfl⟩
      refine ⟨[intsH 2 x8 (clsL ar rs ts n)], hr13, ?_⟩
      show XL _ _ _ _ _ _ _ (intsH 2 x5 ar :: pairsD 2 135 x6 rs :: rowsD 2 22 x7 ts :: intsH 2 x8 (clsL ar rs ts n) :: cellsH b2 [x5, x6] 37 :: cellsH b1 [arv, rsv] 27 :: L)
      refine XL.cons (XOp.assign (x8) rfl ?_)
      refine XL.nil ?_
      refine X.seq ?_
      refine X.seq ?_
      refine X.region ?_
      refine XL.cons (XOp.move (x8) rfl ?_)
      refine XL.cons (XOp.move (x4) rfl ?_)
      refine XL.cons (XOp.lend [_, _, _] _ _ rfl (fun F13 le13 hz7 => ?_))
      have hf7 : IntsF _ x8 (clsL ar rs ts n) := intsH.fz (xs := clsL ar rs ts n) hz7
      refine id (XOp.call (args := [x8, x4]) Tryz.call17 rfl (eqInt64S_spec hf7 ((hr6.mono le13)) (hbd := (by first | assumption | rfl | omega | (left; simp; done) | (right; simp; done)))) ?_)
      rintro _ _ _ _ ⟨rfl, rfl, rfl⟩
      show XL _ _ _ _ _ _ _ (intsH 2 x8 (clsL ar rs ts n) :: intsH 2 x5 ar :: pairsD 2 135 x6 rs :: rowsD 2 22 x7 ts :: cellsH b2 [x5, x6] 37 :: cellsH b1 [arv, rsv] 27 :: L)
      refine XL.cons (XOp.notD (p := (clsL ar rs ts n) = (clsL ar rs ts n)) rfl ?_)
      refine XL.nil ?_
      refine X.condD (p := ¬((clsL ar rs ts n) = (clsL ar rs ts n))) rfl (fun h3 => ?_) (fun h3 => ?_)
      · exact absurd (by first | rfl | exact ⟨rfl, rfl⟩ | exact ⟨⟨rfl, rfl⟩, rfl, rfl⟩ | simp) h3
      · refine X.skip ?_
        refine X.seq ?_
        refine X.seq ?_
        refine X.drawG [intsH 2 x8 (clsL ar rs ts n), intsH 2 x5 ar, pairsD 2 135 x6 rs, rowsD 2 22 x7 ts, cellsH b2 [x5, x6] 37, cellsH b1 [arv, rsv] 27] L 3 [[], [], []] [[], [], [1]] [[], [], []] (phiG [fun FF us v => v = (.agg #[x5, x6] : Value), fun FF us v => v = (.agg #[arv, rsv] : Value), fun FF us v => (.agg #[((aggAt v 0)), ((aggAt v 1))] : Value) = v ∧ (IntsF FF ((aggAt v 0)) ar) ∧ (PairsF FF ((aggAt v 1)) rs)]) (ownL [fun us v => [], fun us v => [], fun us v => []]) mixed rfl rfl (by kernel_rfl) (by kernel_rfl) (MonoG.get (MonoG.cons (fun le h => h) (MonoG.cons (fun le h => h) (MonoG.cons (fun le h => ⟨h.1, h.2.1.mono le, h.2.2.mono le⟩) MonoG.nil)))) ?_ ?_
        · refine stepsG.cons (fun vals Fs R leFs hpZ => ?_) ?_
          · replace har := har.mono leFs
            replace hrs := hrs.mono leFs
            replace hts := hts.mono leFs
            replace hf1 := hf1.mono leFs
            replace hf2 := hf2.mono leFs
            replace hf3 := hf3.mono leFs
            replace hr6 := hr6.mono leFs
            refine XG.op (XOp.loadN [x5, x6] Tryz.isAgg37 Tryz.sizeOf37 rfl rfl (Rd.ownN [_, _, _, _] rfl rfl) ?_)
            exact ⟨rfl, rfl⟩
          refine stepsG.cons (fun vals Fs R leFs hpZ => ?_) ?_
          · replace har := har.mono leFs
            replace hrs := hrs.mono leFs
            replace hts := hts.mono leFs
            replace hf1 := hf1.mono leFs
            replace hf2 := hf2.mono leFs
            replace hf3 := hf3.mono leFs
            replace hr6 := hr6.mono leFs
            refine XG.op (XOp.loadN [arv, rsv] Tryz.isAgg27 Tryz.sizeOf27 rfl rfl (Rd.ownN [_, _, _, _, _] rfl rfl) ?_)
            exact ⟨rfl, rfl⟩
          refine stepsG.cons (fun vals Fs R leFs hpZ => ?_) ?_
          · have e1 : vals 1 = (.agg #[arv, rsv] : Value) := hpZ 1 (by decide)
            replace har := har.mono leFs
            replace hrs := hrs.mono leFs
            replace hts := hts.mono leFs
            replace hf1 := hf1.mono leFs
            replace hf2 := hf2.mono leFs
            replace hf3 := hf3.mono leFs
            replace hr6 := hr6.mono leFs
            rw [(envs_of_sat (l := [(1, (.agg #[arv, rsv] : Value))]) ⟨e1, trivial⟩).symm]
            refine XG.op (XOp.call (args := [.agg #[arv, rsv]]) Tryz.call12 rfl (toSystem_spec har hrs (hla := (by first | assumption | rfl | omega | (left; simp; done) | (right; simp; done))) (hrl := (by first | assumption | rfl | omega | (left; simp; done) | (right; simp; done))) (hrb := (by first | assumption | rfl | omega | (left; simp; done) | (right; simp; done)))) ?_)
            rintro _ F15 _ le15 ⟨x11, x12, rfl, hr17, hr18, hr19, rfl⟩
            replace har := har.mono le15
            replace hrs := hrs.mono le15
            replace hts := hts.mono le15
            replace hf1 := hf1.mono le15
            replace hf2 := hf2.mono le15
            replace hf3 := hf3.mono le15
            replace hr6 := hr6.mono le15
            exact ⟨⟨rfl, hr17, hr18⟩, rfl⟩
          exact stepsG.nil
        · intro vals F16 le16 hphi
          have e0 : vals 0 = (.agg #[x5, x6] : Value) := hphi 0 (by decide)
          have e1 : vals 1 = (.agg #[arv, rsv] : Value) := hphi 1 (by decide)
          obtain ⟨e2, f2_1hr1, f2_1hr2⟩ := hphi 2 (by decide)
          generalize hu1 : ((aggAt (vals 2) 0)) = u1 at e0 e1 e2 f2_1hr1 f2_1hr2
          generalize hu2 : ((aggAt (vals 2) 1)) = u2 at e0 e1 e2 f2_1hr1 f2_1hr2
          rw [(envs_of_sat (l := [(0, (.agg #[x5, x6] : Value)), (1, (.agg #[arv, rsv] : Value)), (2, (.agg #[u1, u2] : Value))]) ⟨e0, e1, (e2).symm, trivial⟩).symm]
          replace har := har.mono le16
          replace hrs := hrs.mono le16
          replace hts := hts.mono le16
          replace hf1 := hf1.mono le16
          replace hf2 := hf2.mono le16
          replace hf3 := hf3.mono le16
          replace hr6 := hr6.mono le16
          show XL _ _ _ _ _ _ _ (intsH 2 x8 (clsL ar rs ts n) :: intsH 2 x5 ar :: pairsD 2 135 x6 rs :: rowsD 2 22 x7 ts :: cellsH b2 [x5, x6] 37 :: cellsH b1 [arv, rsv] 27 :: L)
          refine XL.cons (XOp.lend [_] _ _ rfl (fun F17 le17 hz8 => ?_))
          refine id (XOp.lend [_] _ _ rfl (fun F18 le18 hz9 => ?_))
          have hf8 : IntsF _ x5 ar := (intsH.fz (xs := ar) hz8).mono le18
          have hf9 : PairsF _ x6 rs := pairsD.fz hz9
          refine id (XOp.call (args := [.agg #[x5, x6], .agg #[u1, u2]]) Tryz.call16 rfl (eqSystem_spec hf8 hf9 ((f2_1hr1.mono (FLe.trans le17 le18))) ((f2_1hr2.mono (FLe.trans le17 le18))) (hcl := (by first | assumption | rfl | omega | (left; simp; done) | (right; simp; done))) (hal := (by first | assumption | rfl | omega | (left; simp; done) | (right; simp; done))) (hbd := (by first | assumption | rfl | omega | (left; simp; done) | (right; simp; done)))) ?_)
          rintro _ _ _ _ ⟨rfl, rfl, rfl⟩
          show XL _ _ _ _ _ _ _ (intsH 2 x5 ar :: pairsD 2 135 x6 rs :: intsH 2 x8 (clsL ar rs ts n) :: rowsD 2 22 x7 ts :: cellsH b2 [x5, x6] 37 :: cellsH b1 [arv, rsv] 27 :: L)
          refine XL.cons (XOp.notD (p := ar = ar ∧ rs = rs) rfl ?_)
          refine XL.nil ?_
          refine X.condD (p := ¬(ar = ar ∧ rs = rs)) rfl (fun h4 => ?_) (fun h4 => ?_)
          · exact absurd (by first | rfl | exact ⟨rfl, rfl⟩ | exact ⟨⟨rfl, rfl⟩, rfl, rfl⟩ | simp) h4
          · refine X.skip ?_
            refine X.seq ?_
            refine X.seq ?_
            refine X.region ?_
            refine XL.cons (XOp.move (x7) rfl ?_)
            refine XL.cons (XOp.move (tsv) rfl ?_)
            refine XL.cons (XOp.thawL ?_)
            refine id (XOp.call (args := [tsv]) Tryz.call29 rfl (toInt64SS_spec hts (hlx := (by first | assumption | rfl | omega | (left; simp; done) | (right; simp; done))) (hrb := (by first | assumption | rfl | omega | (left; simp; done) | (right; simp; done)))) ?_)
            rintro _ F19 _ le19 ⟨x13, rfl, hr20, hr21, rfl⟩
            refine ⟨[rowsD 2 22 x13 ts], hr21, ?_⟩
            show XL _ _ _ _ _ _ _ (rowsD 2 22 x13 ts :: intsH 2 x5 ar :: pairsD 2 135 x6 rs :: intsH 2 x8 (clsL ar rs ts n) :: rowsD 2 22 x7 ts :: cellsH b2 [x5, x6] 37 :: cellsH b1 [arv, rsv] 27 :: L)
            refine XL.cons (XOp.lend [_, _, _, _] _ _ rfl (fun F20 le20 hz10 => ?_))
            refine id (XOp.lend [] _ _ rfl (fun F21 le21 hz11 => ?_))
            have hf10 : RowsF _ x7 ts := (rowsD.fz hz10).mono le21
            have hf11 : RowsF _ x13 ts := rowsD.fz hz11
            refine id (XOp.call (args := [x7, x13]) Tryz.call31 rfl (eqInt64SS_spec hf10 hf11 (hal := (by first | assumption | rfl | omega | (left; simp; done) | (right; simp; done))) (hbd := (by first | assumption | rfl | omega | (left; simp; done) | (right; simp; done)))) ?_)
            rintro _ _ _ _ ⟨rfl, rfl, rfl⟩
            show XL _ _ _ _ _ _ _ (rowsD 2 22 x7 ts :: rowsD 2 22 x13 ts :: intsH 2 x5 ar :: pairsD 2 135 x6 rs :: intsH 2 x8 (clsL ar rs ts n) :: cellsH b2 [x5, x6] 37 :: cellsH b1 [arv, rsv] 27 :: L)
            refine XL.cons (XOp.notD (p := ts = ts) rfl ?_)
            refine XL.nil ?_
            refine X.condD (p := ¬(ts = ts)) rfl (fun h5 => ?_) (fun h5 => ?_)
            · exact absurd (by first | rfl | exact ⟨rfl, rfl⟩ | exact ⟨⟨rfl, rfl⟩, rfl, rfl⟩ | simp) h5
            · refine X.skip ?_
              refine X.seq ?_
              refine X.region ?_
              refine XL.cons (XOp.assign (.int .i64 (1)) rfl ?_)
              refine XL.nil ?_
              refine X.seq ?_
              refine X.region ?_
              refine XL.cons (XOp.loadN [x5, x6] Tryz.isAgg37 Tryz.sizeOf37 rfl rfl (Rd.ownN [_, _, _, _, _] rfl rfl) ?_)
              refine XL.cons (XOp.move (.int .i64 (1)) rfl ?_)
              refine XL.weaken (Sub.front (A := [_, _, _])) ?_
              show XL _ _ _ _ _ _ _ (pairsD 2 135 x6 rs :: rowsD 2 22 x7 ts :: rowsD 2 22 x13 ts :: intsH 2 x5 ar :: intsH 2 x8 (clsL ar rs ts n) :: cellsH b2 [x5, x6] 37 :: cellsH b1 [arv, rsv] 27 :: L)
              refine XL.weaken (Sub.front (A := [_, _, _])) ?_
              show XL _ _ _ _ _ _ _ (intsH 2 x5 ar :: pairsD 2 135 x6 rs :: rowsD 2 22 x7 ts :: rowsD 2 22 x13 ts :: intsH 2 x8 (clsL ar rs ts n) :: cellsH b2 [x5, x6] 37 :: cellsH b1 [arv, rsv] 27 :: L)
              refine XL.cons (XOp.call (args := [.agg #[x5, x6], .int .i64 (1)]) Tryz.call18 rfl (markSystem_spec (by (try simp only [List.length_append]); omega) (by omega)) ?_)
              rintro _ _ _ _ ⟨m1, m2, hm1, hk1, rfl, rfl, rfl⟩
              have hml1 := congrArg List.length hm1
              rw [iota_len] at hml1
              try simp only [List.length_append] at hml1
              refine XL.cons (XOp.assign (.int .i64 (1 + (((ar) ++ (rs.flatMap flatPair)).length : Int))) rfl ?_)
              refine XL.nil ?_
              refine X.seq ?_
              refine X.region ?_
              refine XL.cons (XOp.move (x7) rfl ?_)
              refine XL.cons (XOp.move (.int .i64 (1 + (((ar) ++ (rs.flatMap flatPair)).length : Int))) rfl ?_)
              refine XL.weaken (Sub.front (A := [_, _])) ?_
              show XL _ _ _ _ _ _ _ (rowsD 2 22 x7 ts :: intsH 2 x5 m1 :: pairsD 2 135 x6 m2 :: rowsD 2 22 x13 ts :: intsH 2 x8 (clsL ar rs ts n) :: cellsH b2 [x5, x6] 37 :: cellsH b1 [arv, rsv] 27 :: L)
              refine XL.cons (XOp.call (args := [x7, .int .i64 (1 + (((ar) ++ (rs.flatMap flatPair)).length : Int))]) Tryz.call32 rfl (markInt64SS_spec (by (try simp only [List.length_append]); omega) (by omega)) ?_)
              rintro _ _ _ _ ⟨m3, hm2, hk2, rfl, rfl, rfl⟩
              have hml2 := congrArg List.length hm2
              rw [iota_len] at hml2
              try simp only [List.length_append] at hml2
              refine XL.cons (XOp.assign (.int .i64 ((1 + (((ar) ++ (rs.flatMap flatPair)).length : Int)) + (((ts.flatMap flatRow)).length : Int))) rfl ?_)
              refine XL.nil ?_
              refine X.seq ?_
              refine X.seq ?_
              refine X.region ?_
              refine XL.cons (XOp.move (.int .i64 ((1 + (((ar) ++ (rs.flatMap flatPair)).length : Int)) + (((ts.flatMap flatRow)).length : Int))) rfl ?_)
              refine XL.cons (XOp.lss (a := (1 + (((ar) ++ (rs.flatMap flatPair)).length : Int)) + (((ts.flatMap flatRow)).length : Int)) (b := 0) rfl rfl ?_)
              refine XL.cons (XOp.move (.bool (decide (((1 + (((ar) ++ (rs.flatMap flatPair)).length : Int)) + (((ts.flatMap flatRow)).length : Int) : Int) < 0))) rfl ?_)
              by_cases h6 : ((1 + (((ar) ++ (rs.flatMap flatPair)).length : Int)) + (((ts.flatMap flatRow)).length : Int) : Int) < 0
              · exact absurd h6 (by omega)
              · refine XL.yes (t := 62) rfl (congrArg Value.bool (decide_eq_false h6)) (XOp.move (x8) rfl ?_)
                refine XL.yes (t := 62) rfl (congrArg Value.bool (decide_eq_false h6)) (XOp.move (x4) rfl ?_)
                refine XL.yes (t := 62) rfl (congrArg Value.bool (decide_eq_false h6)) (XOp.lend [_, _, _, _] _ _ rfl (fun F22 le22 hz12 => ?_))
                have hf12 : IntsF _ x8 (clsL ar rs ts n) := intsH.fz (xs := clsL ar rs ts n) hz12
                refine id (XOp.call (args := [x8, x4]) Tryz.call17 rfl (eqInt64S_spec hf12 ((hr6.mono le22)) (hbd := (by first | assumption | rfl | omega | (left; simp; done) | (right; simp; done)))) ?_)
                rintro _ _ _ _ ⟨rfl, rfl, rfl⟩
                show XL _ _ _ _ _ _ _ (intsH 2 x8 (clsL ar rs ts n) :: rowsD 2 22 x7 m3 :: intsH 2 x5 m1 :: pairsD 2 135 x6 m2 :: rowsD 2 22 x13 ts :: cellsH b2 [x5, x6] 37 :: cellsH b1 [arv, rsv] 27 :: L)
                refine XL.yes (t := 62) rfl (congrArg Value.bool (decide_eq_false h6)) (XOp.notD (p := (clsL ar rs ts n) = (clsL ar rs ts n)) rfl ?_)
                refine XL.cons (XOp.pickF (.bool (decide (¬((clsL ar rs ts n) = (clsL ar rs ts n))))) (congrArg Value.bool (decide_eq_false h6)) rfl ?_)
                refine XL.nil ?_
                refine X.condF (congrArg Value.bool (decide_eq_false h3)) ?_
                refine X.skip ?_
                refine X.seq ?_
                refine X.region ?_
                refine XL.cons (XOp.assign (.int .i64 (1)) rfl ?_)
                refine XL.nil ?_
                refine X.seq ?_
                refine X.region ?_
                refine XL.cons (XOp.move (x8) rfl ?_)
                refine XL.cons (XOp.move (.int .i64 (1)) rfl ?_)
                refine XL.cons (XOp.call (args := [x8, .int .i64 (1)]) Tryz.call19 rfl (markInt64S_spec (by (try simp only [List.length_append]); omega)) ?_)
                rintro _ _ _ _ ⟨m4, hm3, rfl, rfl, rfl⟩
                have hml3 := congrArg List.length hm3
                rw [iota_len] at hml3
                try simp only [List.length_append] at hml3
                refine XL.cons (XOp.assign (.int .i64 (1 + ((((clsL ar rs ts n))).length : Int))) rfl ?_)
                refine XL.nil ?_
                refine X.seq ?_
                refine X.region ?_
                refine XL.cons (XOp.assign (.int .i64 (1)) rfl ?_)
                refine XL.nil ?_
                refine X.seq ?_
                refine X.region ?_
                refine XL.cons (XOp.move (x8) rfl ?_)
                refine XL.cons (XOp.move (.int .i64 (1)) rfl ?_)
                refine XL.cons (XOp.lend [] _ _ rfl (fun F23 le23 hz13 => ?_))
                have hf13 : IntsF _ x8 m4 := intsH.fz (xs := m4) hz13
                refine id (XOp.call (args := [x8, .int .i64 (1)]) Tryz.call33 rfl (heldInt64S_spec (z := 1) hf13 (hzb := (by first | assumption | rfl | omega | (left; simp; done) | (right; simp; done)))) ?_)
                rintro _ _ _ _ ⟨rfl, rfl, rfl⟩
                show XL _ _ _ _ _ _ _ (intsH 2 x8 m4 :: rowsD 2 22 x7 m3 :: intsH 2 x5 m1 :: pairsD 2 135 x6 m2 :: rowsD 2 22 x13 ts :: cellsH b2 [x5, x6] 37 :: cellsH b1 [arv, rsv] 27 :: L)
                refine XL.cons (XOp.assign (.int .i64 (heldF m4 1)) rfl ?_)
                refine XL.nil ?_
                refine X.seq ?_
                refine X.seq ?_
                refine X.region ?_
                refine XL.cons (XOp.move (.int .i64 (heldF m4 1)) rfl ?_)
                refine XL.cons (XOp.lss (a := heldF m4 1) (b := 0) rfl rfl ?_)
                refine XL.nil ?_
                refine X.condD (p := (heldF m4 1 : Int) < 0) rfl (fun h7 => ?_) (fun h7 => ?_)
                · rw [hm3, heldF_iota] at h7
                  exact absurd h7 (by omega)
                · have hh2 := (fun (l : List Int) (k k2 : Int) (n : Nat) (h : l = iota k n) (hk : k2 = k) => show heldF l k2 = k + n from (by subst hk; rw [h, heldF_iota])) _ _ (1) _ hm3 (by first | rfl | omega)
                  have hh2l := hh2
                  try simp only [List.length_append] at hh2l
                  refine X.skip ?_
                  refine X.seq ?_
                  refine X.seq ?_
                  refine X.region ?_
                  refine XL.cons (XOp.move (.int .i64 (heldF m4 1)) rfl ?_)
                  refine XL.cons (XOp.move (.int .i64 (1 + ((((clsL ar rs ts n))).length : Int))) rfl ?_)
                  refine XL.cons (XOp.neq (a := heldF m4 1) (b := 1 + ((((clsL ar rs ts n))).length : Int)) rfl rfl ?_)
                  refine XL.nil ?_
                  refine X.condD (p := (heldF m4 1 : Int) ≠ 1 + ((((clsL ar rs ts n))).length : Int)) rfl (fun h8 => ?_) (fun h8 => ?_)
                  · exact absurd (by rw [hm3, heldF_iota]) h8
                  · refine X.skip ?_
                    refine X.seq ?_
                    refine X.region ?_
                    refine XL.cons (XOp.loadN [arv, rsv] Tryz.isAgg27 Tryz.sizeOf27 rfl rfl (Rd.ownN [_, _, _, _, _, _] rfl rfl) ?_)
                    refine XL.cons (XOp.thawL ?_)
                    refine id (XOp.call (args := [.agg #[arv, rsv]]) Tryz.call12 rfl (toSystem_spec har hrs (hla := (by first | assumption | rfl | omega | (left; simp; done) | (right; simp; done))) (hrl := (by first | assumption | rfl | omega | (left; simp; done) | (right; simp; done))) (hrb := (by first | assumption | rfl | omega | (left; simp; done) | (right; simp; done)))) ?_)
                    rintro _ F24 _ le24 ⟨x14, x15, rfl, hr22, hr23, hr24, rfl⟩
                    refine ⟨[intsH 2 x14 ar, pairsD 2 135 x15 rs], hr24, ?_⟩
                    show XL _ _ _ _ _ _ _ (intsH 2 x14 ar :: pairsD 2 135 x15 rs :: intsH 2 x8 m4 :: rowsD 2 22 x7 m3 :: intsH 2 x5 m1 :: pairsD 2 135 x6 m2 :: rowsD 2 22 x13 ts :: cellsH b2 [x5, x6] 37 :: cellsH b1 [arv, rsv] 27 :: L)
                    refine XL.cons (XOp.move (tsv) rfl ?_)
                    refine XL.cons (XOp.thawL ?_)
                    refine id (XOp.call (args := [tsv]) Tryz.call29 rfl (toInt64SS_spec hts (hlx := (by first | assumption | rfl | omega | (left; simp; done) | (right; simp; done))) (hrb := (by first | assumption | rfl | omega | (left; simp; done) | (right; simp; done)))) ?_)
                    rintro _ F25 _ le25 ⟨x16, rfl, hr25, hr26, rfl⟩
                    refine ⟨[rowsD 2 22 x16 ts], hr26, ?_⟩
                    show XL _ _ _ _ _ _ _ (rowsD 2 22 x16 ts :: intsH 2 x14 ar :: pairsD 2 135 x15 rs :: intsH 2 x8 m4 :: rowsD 2 22 x7 m3 :: intsH 2 x5 m1 :: pairsD 2 135 x6 m2 :: rowsD 2 22 x13 ts :: cellsH b2 [x5, x6] 37 :: cellsH b1 [arv, rsv] 27 :: L)
                    refine XL.cons (XOp.move (.int .i64 (n)) rfl ?_)
                    refine XL.cons (XOp.lend [_] _ _ rfl (fun F26 le26 hz14 => ?_))
                    refine id (XOp.lend [_] _ _ rfl (fun F27 le27 hz15 => ?_))
                    refine id (XOp.lend [] _ _ rfl (fun F28 le28 hz16 => ?_))
                    have hf14 : IntsF _ x14 ar := (intsH.fz (xs := ar) hz14).mono (FLe.trans le27 le28)
                    have hf15 : PairsF _ x15 rs := (pairsD.fz hz15).mono le28
                    have hf16 : RowsF _ x16 ts := rowsD.fz hz16
                    refine id (XOp.thawL ?_)
                    refine id (XOp.call (args := [.agg #[x14, x15], x16, .int .i64 (n)]) Tryz.call30 rfl (ClassesBy_spec (n := n) hf14 hf15 hf16 (hlt := (by first | assumption | rfl | omega | (left; simp; done) | (right; simp; done)))) ?_)
                    rintro _ F29 _ le29 ⟨x17, rfl, hr27, hr28, rfl⟩
                    refine ⟨[intsH 2 x17 (clsL ar rs ts n)], hr28, ?_⟩
                    show XL _ _ _ _ _ _ _ (intsH 2 x14 ar :: pairsD 2 135 x15 rs :: rowsD 2 22 x16 ts :: intsH 2 x17 (clsL ar rs ts n) :: intsH 2 x8 m4 :: rowsD 2 22 x7 m3 :: intsH 2 x5 m1 :: pairsD 2 135 x6 m2 :: rowsD 2 22 x13 ts :: cellsH b2 [x5, x6] 37 :: cellsH b1 [arv, rsv] 27 :: L)
                    refine XL.cons (XOp.assign (x17) rfl ?_)
                    refine XL.nil ?_
                    refine X.seq ?_
                    refine X.seq ?_
                    refine X.region ?_
                    refine XL.cons (XOp.move (x17) rfl ?_)
                    refine XL.cons (XOp.move (x4) rfl ?_)
                    refine XL.cons (XOp.lend [_, _, _] _ _ rfl (fun F30 le30 hz17 => ?_))
                    have hf17 : IntsF _ x17 (clsL ar rs ts n) := intsH.fz (xs := clsL ar rs ts n) hz17
                    refine id (XOp.call (args := [x17, x4]) Tryz.call17 rfl (eqInt64S_spec hf17 ((hr6.mono le30)) (hbd := (by first | assumption | rfl | omega | (left; simp; done) | (right; simp; done)))) ?_)
                    rintro _ _ _ _ ⟨rfl, rfl, rfl⟩
                    show XL _ _ _ _ _ _ _ (intsH 2 x17 (clsL ar rs ts n) :: intsH 2 x14 ar :: pairsD 2 135 x15 rs :: rowsD 2 22 x16 ts :: intsH 2 x8 m4 :: rowsD 2 22 x7 m3 :: intsH 2 x5 m1 :: pairsD 2 135 x6 m2 :: rowsD 2 22 x13 ts :: cellsH b2 [x5, x6] 37 :: cellsH b1 [arv, rsv] 27 :: L)
                    refine XL.cons (XOp.notD (p := (clsL ar rs ts n) = (clsL ar rs ts n)) rfl ?_)
                    refine XL.nil ?_
                    refine X.condF (congrArg Value.bool (decide_eq_false h3)) ?_
                    refine X.skip ?_
                    refine X.seq ?_
                    refine X.region ?_
                    refine XL.cons (XOp.assign (.int .i64 (1)) rfl ?_)
                    refine XL.nil ?_
                    refine X.seq ?_
                    refine X.region ?_
                    refine XL.cons (XOp.move (x8) rfl ?_)
                    refine XL.cons (XOp.move (.int .i64 (1)) rfl ?_)
                    refine XL.cons (XOp.lend [_, _, _, _] _ _ rfl (fun F31 le31 hz18 => ?_))
                    have hf18 : IntsF _ x8 m4 := intsH.fz (xs := m4) hz18
                    refine id (XOp.call (args := [x8, .int .i64 (1)]) Tryz.call33 rfl (heldInt64S_spec (z := 1) hf18 (hzb := (by first | assumption | rfl | omega | (left; simp; done) | (right; simp; done)))) ?_)
                    rintro _ _ _ _ ⟨rfl, rfl, rfl⟩
                    show XL _ _ _ _ _ _ _ (intsH 2 x8 m4 :: intsH 2 x17 (clsL ar rs ts n) :: intsH 2 x14 ar :: pairsD 2 135 x15 rs :: rowsD 2 22 x16 ts :: rowsD 2 22 x7 m3 :: intsH 2 x5 m1 :: pairsD 2 135 x6 m2 :: rowsD 2 22 x13 ts :: cellsH b2 [x5, x6] 37 :: cellsH b1 [arv, rsv] 27 :: L)
                    refine XL.cons (XOp.assign (.int .i64 (heldF m4 1)) rfl ?_)
                    refine XL.nil ?_
                    refine X.seq ?_
                    refine X.seq ?_
                    refine X.region ?_
                    refine XL.cons (XOp.move (.int .i64 (heldF m4 1)) rfl ?_)
                    refine XL.cons (XOp.lss (a := heldF m4 1) (b := 0) rfl rfl ?_)
                    refine XL.nil ?_
                    refine X.condF (congrArg Value.bool (decide_eq_false h7)) ?_
                    refine X.skip ?_
                    refine X.seq ?_
                    refine X.seq ?_
                    refine X.region ?_
                    refine XL.cons (XOp.move (.int .i64 (heldF m4 1)) rfl ?_)
                    refine XL.cons (XOp.move (.int .i64 (1 + ((((clsL ar rs ts n))).length : Int))) rfl ?_)
                    refine XL.cons (XOp.neq (a := heldF m4 1) (b := 1 + ((((clsL ar rs ts n))).length : Int)) rfl rfl ?_)
                    refine XL.nil ?_
                    refine X.condF (congrArg Value.bool (decide_eq_false h8)) ?_
                    refine X.skip ?_
                    refine X.seq ?_
                    refine X.region ?_
                    refine XL.cons (XOp.assign (.bool (true)) rfl ?_)
                    refine XL.nil ?_
                    refine X.ret (retEnd (L' := L) [.bool (true)] (.bool (true)) (.tmp rfl .nil) rfl (FLe.refl _) (FLe.trans (FLe.trans (FLe.trans (FLe.trans le3 le4) le5) le6) le16) (Sub.drop (Sub.drop (Sub.drop (Sub.drop (Sub.drop (Sub.drop (Sub.drop (Sub.drop (Sub.drop (Sub.drop (Sub.drop (Sub.refl _)))))))))))) ?_)
                    exact ⟨rfl, rfl, rfl⟩
end Go.Proofs.YtbooflphoaaoeaaGreat
