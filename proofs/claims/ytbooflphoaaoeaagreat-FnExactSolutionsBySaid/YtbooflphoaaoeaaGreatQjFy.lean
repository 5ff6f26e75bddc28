/-
  Walks: words that are equal; the statement EqualBy.
-/
import Derived.Test.YtbooflphoaaoeaaGreatQjFt
import Derived.Test.YtbooflphoaaoeaaGreatP12
import Derived.Test.YtbooflphoaaoeaaGreatX14
set_option linter.unusedSimpArgs false
set_option linter.unusedVariables false
namespace Go.Proofs.YtbooflphoaaoeaaGreat
open Go X M

/- impl.wordOk$1 -/
theorem wordOk1_spec {F : FH} {L : List HP} {tv : Value} {t : List Int} (ht : IntsF F tv t) {arv : Value} {ar : List Int} (har : IntsF F arv ar) {rsv : Value} {rs : List (List Int × List Int)} (hrs : PairsF F rsv rs) {b : Nat} (hzb : FzC F b [arv, rsv]) :
    Does Tryz.prog 132 [tv, ptr b 0] F (L) (fun v F' L' => (.bool (!(termOk ar t)) : Value) = v ∧ F = F' ∧ L = L') := by
  refine Does.of_X Tryz.func132 rfl rfl rfl ?_
  refine X.seq ?_
  refine X.region ?_
  refine XL.cons (XOp.assign (.bool (false)) rfl ?_)
  refine XL.nil ?_
  refine X.seq ?_
  refine X.region ?_
  refine XL.cons (XOp.fieldP (b := b) (0) Tryz.runUnderlying37 rfl Tryz.sizeOf34 (by decide) rfl rfl ?_)
  refine XL.cons (XOp.loadN [arv] Tryz.isAgg34 Tryz.sizeOf34 rfl rfl (FzC.rdN (o := 0) hzb rfl) ?_)
  refine XL.cons (XOp.move (tv) rfl ?_)
  refine XL.cons (XOp.call (args := [.agg #[arv], tv]) Tryz.call133 rfl (TermOk_spec har ht) ?_)
  rintro _ _ _ _ ⟨rfl, rfl, rfl⟩
  refine XL.cons (XOp.notB (b := termOk ar t) rfl ?_)
  refine XL.cons (XOp.assign (.bool (!(termOk ar t))) rfl ?_)
  refine XL.nil ?_
  refine X.ret (retEnd (L' := L) [.bool (!(termOk ar t))] (.bool (!(termOk ar t))) (.tmp rfl .nil) rfl (FLe.refl _) (FLe.refl _) (Sub.refl _) ?_)
  exact ⟨rfl, rfl, rfl⟩

/- slices.IndexFunc[[][]int64,[]int64] -/
theorem IndexFuncWord_spec {F : FH} {L : List HP} {tsv : Value} {ts : List (List Int)} (hts : RowsF F tsv ts) {arv : Value} {ar : List Int} (har : IntsF F arv ar) {rsv : Value} {rs : List (List Int × List Int)} (hrs : PairsF F rsv rs) {b : Nat} (hzb : FzC F b [arv, rsv]) (hlt : ts.length ≤ 4000000) :
    Does Tryz.prog 83 [tsv, .func (.func 132) #[] #[ptr b 0]] F (L) (fun v F' L' => (.int .i64 (badIx ar ts) : Value) = v ∧ F = F' ∧ L = L') := by
  refine Does.of_X Tryz.func83 rfl rfl rfl ?_
  refine X.seq ?_
  refine X.region ?_
  refine XL.cons (XOp.assign (.int .i64 (0)) rfl ?_)
  refine XL.nil ?_
  refine X.seq ?_
  refine X.seq ?_
  refine X.region ?_
  refine XL.cons (XOp.move (tsv) rfl ?_)
  refine XL.cons (XOp.lenS (v := tsv) (n := (ts).length) Tryz.runUnderlying54 rfl hts.slv ?_)
  refine XL.cons (XOp.move (.int .i64 (0)) rfl ?_)
  refine XL.nil ?_
  refine X.block ?_
  refine X.loop (α := Nat) (fun k => [(0, tsv), (1, .func (.func 132) #[] #[ptr b 0]), (7, .int .i64 ((((ts).length : Nat) : Int))), (8, .int .i64 (((k : Nat) : Int)))]) (fun k => L) (fun k F' => F = F' ∧ (k ≤ ts.length) ∧ (∀ i, i < k → termOk ar (ts.getD i []) = true)) (fun k => ts.length - k) 0 ⟨rfl, rfl, rfl, rfl, trivial⟩ (Sub.refl _) ⟨rfl, (by (try dsimp only) <;> omega), (fun i hi => absurd hi (by omega))⟩ ?_
  rintro k rE _ _ ⟨rfl, hk, hall⟩
  show X _ _ _ _ (envs [(0, tsv), (1, .func (.func 132) #[] #[ptr b 0]), (7, .int .i64 ((((ts).length : Nat) : Int))), (8, .int .i64 (((k : Nat) : Int)))] rE) _ (L)
  refine X.seq ?_
  refine X.region ?_
  refine XL.cons (XOp.lss (a := ((k : Nat) : Int)) (b := (((ts).length : Nat) : Int)) rfl rfl ?_)
  refine XL.nil ?_
  refine X.seq ?_
  refine X.condD (p := (((k : Nat) : Int) : Int) < (((ts).length : Nat) : Int)) rfl (fun h1 => ?_) (fun h1 => ?_)
  · refine X.skip ?_
    refine X.seq ?_
    refine X.block ?_
    refine X.seq ?_
    refine X.region ?_
    refine XL.cons (XOp.move (.int .i64 (((k : Nat) : Int))) rfl ?_)
    refine XL.cons (XOp.assign (.int .i64 (((k : Nat) : Int))) rfl ?_)
    refine XL.nil ?_
    refine X.seq ?_
    refine X.region ?_
    refine XL.cons (XOp.move (.func (.func 132) #[] #[ptr b 0]) rfl ?_)
    refine XL.cons (XOp.move (tsv) rfl ?_)
    refine XL.cons (XOp.move (.int .i64 (((k : Nat) : Int))) rfl ?_)
    refine XL.cons (XOp.indexS (v := tsv) (i := ((k : Nat) : Int)) (n := (ts).length) k Tryz.runUnderlying54 Tryz.sizeOf22 rfl rfl rfl hts.slv (by omega) (Nat.mul_one _) ?_)
    obtain ⟨a1, ha1, hr1⟩ := hts.rd (i := k) (by omega)
    refine XL.cons (XOp.load1 (v := a1) Tryz.isAgg22 rfl (hr1 _) ?_)
    refine XL.cons (XOp.callV (first := []) (captured := [ptr b 0]) (args := [a1, ptr b 0]) Tryz.call132 rfl rfl (wordOk1_spec ha1 har hrs hzb) ?_)
    rintro _ _ _ _ ⟨rfl, rfl, rfl⟩
    refine XL.nil ?_
    refine X.cond (t := !(termOk ar ((ts.getD k [])))) rfl (fun h2 => ?_) (fun h2 => ?_)
    · refine X.seq ?_
      refine X.region ?_
      refine XL.cons (XOp.move (.int .i64 (((k : Nat) : Int))) rfl ?_)
      refine XL.cons (XOp.assign (.int .i64 (((k : Nat) : Int))) rfl ?_)
      refine XL.nil ?_
      refine X.ret (blockQ_ret (thenQ_ret (thenQ_ret (blockQ_ret (thenQ_ret (retEnd (L' := L) [.int .i64 (((k : Nat) : Int))] (.int .i64 (((k : Nat) : Int))) (.tmp rfl .nil) rfl (FLe.refl _) (FLe.refl _) (Sub.refl _) ?_))))))
      exact ⟨(congrArg (Value.int .i64) (badIx_at (by omega) (by simp_all) hall)), rfl, rfl⟩
    · refine X.skip ?_
      refine X.region ?_
      refine XL.cons (XOp.addR (a := ((k : Nat) : Int)) (b := 1) (((k + 1 : Nat) : Int)) rfl rfl (by omega) (by omega) ?_)
      refine XL.cons (XOp.move (.int .i64 (((k + 1 : Nat) : Int))) rfl ?_)
      refine XL.nil ?_
      exact ⟨k + 1, _, FLe.refl _, (FLe.refl _), ⟨rfl, rfl, rfl, rfl, trivial⟩, (Sub.refl _), ⟨rfl, (by (try dsimp only) <;> omega), (fun i hi => (Nat.lt_or_ge i k).elim (fun h => hall i h) (fun h => by obtain rfl : i = k := (by omega); simp_all))⟩, (by omega)⟩
  · refine X.exit (thenQ_exit (thenQ_exit (blockQ_exit ?_)))
    refine X.seq ?_
    refine X.region ?_
    refine XL.cons (XOp.assign (.int .i64 (-1)) rfl ?_)
    refine XL.nil ?_
    refine X.ret (retEnd (L' := L) [.int .i64 (-1)] (.int .i64 (-1)) (.tmp rfl .nil) rfl (FLe.refl _) (FLe.refl _) (Sub.refl _) ?_)
    exact ⟨(congrArg (Value.int .i64) (badIx_none (fun i hi => hall i (by omega)))), rfl, rfl⟩

/- slices.ContainsFunc[[][]int64,[]int64] -/
theorem ContainsFuncWord_spec {F : FH} {L : List HP} {tsv : Value} {ts : List (List Int)} (hts : RowsF F tsv ts) {arv : Value} {ar : List Int} (har : IntsF F arv ar) {rsv : Value} {rs : List (List Int × List Int)} (hrs : PairsF F rsv rs) {b : Nat} (hzb : FzC F b [arv, rsv]) (hlt : ts.length ≤ 4000000) :
    Does Tryz.prog 131 [tsv, .func (.func 132) #[] #[ptr b 0]] F (L) (fun v F' L' => (.bool (decide (badIx ar ts ≥ 0)) : Value) = v ∧ F = F' ∧ L = L') := by
  refine Does.of_X Tryz.func131 rfl rfl rfl ?_
  refine X.seq ?_
  refine X.region ?_
  refine XL.cons (XOp.assign (.bool (false)) rfl ?_)
  refine XL.nil ?_
  refine X.seq ?_
  refine X.region ?_
  refine XL.cons (XOp.move (tsv) rfl ?_)
  refine XL.cons (XOp.move (.func (.func 132) #[] #[ptr b 0]) rfl ?_)
  refine XL.cons (XOp.call (args := [tsv, .func (.func 132) #[] #[ptr b 0]]) Tryz.call83 rfl (IndexFuncWord_spec hts har hrs hzb (hlt := (by first | assumption | rfl | omega | (left; simp; done) | (right; simp; done)))) ?_)
  rintro _ _ _ _ ⟨rfl, rfl, rfl⟩
  refine XL.cons (XOp.geq (a := badIx ar ts) (b := 0) rfl rfl ?_)
  refine XL.cons (XOp.assign (.bool (decide ((badIx ar ts : Int) ≥ 0))) rfl ?_)
  refine XL.nil ?_
  refine X.ret (retEnd (L' := L) [.bool (decide ((badIx ar ts : Int) ≥ 0))] (.bool (decide ((badIx ar ts : Int) ≥ 0))) (.tmp rfl .nil) rfl (FLe.refl _) (FLe.refl _) (Sub.refl _) ?_)
  exact ⟨rfl, rfl, rfl⟩

/- impl.wordOk -/
theorem wordOk_spec {F : FH} {L : List HP} {arv : Value} {ar : List Int} (har : IntsF F arv ar) {rsv : Value} {rs : List (List Int × List Int)} (hrs : PairsF F rsv rs) {n : Int} {tsv : Value} {ts : List (List Int)} (hts : RowsF F tsv ts) (hlt : ts.length ≤ 4000000) :
    Does Tryz.prog 81 [.agg #[arv, rsv], .int .i64 (n), tsv] F (L) (fun v F' L' => (.bool (wordOkL ar rs n ts) : Value) = v ∧ F = F' ∧ L = L') := by
  refine Does.of_X Tryz.func81 rfl rfl rfl ?_
  refine X.seq ?_
  refine X.region ?_
  refine XL.cons (XOp.box [arv, rsv] rfl rfl ?_)
  intro b1
  refine XL.cons (XOp.assign (.bool (false)) rfl ?_)
  refine XL.nil ?_
  refine X.seq ?_
  refine X.seq ?_
  refine X.region ?_
  refine XL.cons (XOp.loadN [arv, rsv] Tryz.isAgg37 Tryz.sizeOf37 rfl rfl (Rd.ownN [] rfl rfl) ?_)
  refine XL.cons (XOp.call (args := [.agg #[arv, rsv]]) Tryz.call73 rfl (SystemOk_spec har hrs) ?_)
  rintro _ _ _ _ ⟨rfl, rfl, rfl⟩
  refine XL.cons (XOp.notB (b := sysOk ar rs) rfl ?_)
  refine XL.cons (XOp.move (.bool (!(sysOk ar rs))) rfl ?_)
  by_cases h1 : (!(sysOk ar rs)) = true
  · refine XL.no (t := 10) rfl (congrArg Value.bool h1) ?_
    refine XL.no (t := 10) rfl (congrArg Value.bool h1) ?_
    refine XL.cons (XOp.pickT (.bool (true)) (congrArg Value.bool h1) rfl ?_)
    refine XL.cons (XOp.move (.bool (true)) rfl ?_)
    refine XL.no (t := 14) rfl rfl ?_
    refine XL.no (t := 14) rfl rfl ?_
    refine XL.cons (XOp.pickT (.bool (true)) rfl rfl ?_)
    refine XL.nil ?_
    refine X.condT rfl ?_
    refine X.seq ?_
    refine X.region ?_
    refine XL.cons (XOp.assign (.bool (false)) rfl ?_)
    refine XL.nil ?_
    refine X.ret (thenQ_ret (retEnd (L' := L) [.bool (false)] (.bool (false)) (.tmp rfl .nil) rfl (FLe.refl _) (FLe.refl _) (Sub.drop (Sub.refl _)) ?_))
    exact ⟨(congrArg Value.bool (by unfold wordOkL; simp_all <;> omega)), rfl, rfl⟩
  · rw [Bool.not_eq_true] at h1
    refine XL.yes (t := 10) rfl (congrArg Value.bool h1) (XOp.move (.int .i64 (n)) rfl ?_)
    refine XL.yes (t := 10) rfl (congrArg Value.bool h1) (XOp.lss (a := n) (b := 0) rfl rfl ?_)
    refine XL.cons (XOp.pickF (.bool (decide ((n : Int) < 0))) (congrArg Value.bool h1) rfl ?_)
    refine XL.cons (XOp.move (.bool (decide ((n : Int) < 0))) rfl ?_)
    by_cases h2 : (n : Int) < 0
    · refine XL.no (t := 14) rfl (congrArg Value.bool (decide_eq_true h2)) ?_
      refine XL.no (t := 14) rfl (congrArg Value.bool (decide_eq_true h2)) ?_
      refine XL.cons (XOp.pickT (.bool (true)) (congrArg Value.bool (decide_eq_true h2)) rfl ?_)
      refine XL.nil ?_
      refine X.condT rfl ?_
      refine X.seq ?_
      refine X.region ?_
      refine XL.cons (XOp.assign (.bool (false)) rfl ?_)
      refine XL.nil ?_
      refine X.ret (thenQ_ret (retEnd (L' := L) [.bool (false)] (.bool (false)) (.tmp rfl .nil) rfl (FLe.refl _) (FLe.refl _) (Sub.drop (Sub.refl _)) ?_))
      exact ⟨(congrArg Value.bool (by unfold wordOkL; simp_all <;> omega)), rfl, rfl⟩
    · refine XL.yes (t := 14) rfl (congrArg Value.bool (decide_eq_false h2)) (XOp.move (.int .i64 (n)) rfl ?_)
      refine XL.yes (t := 14) rfl (congrArg Value.bool (decide_eq_false h2)) (XOp.gtr (a := n) (b := 60) rfl rfl ?_)
      refine XL.cons (XOp.pickF (.bool (decide ((n : Int) > 60))) (congrArg Value.bool (decide_eq_false h2)) rfl ?_)
      refine XL.nil ?_
      refine X.condD (p := (n : Int) > 60) rfl (fun h3 => ?_) (fun h3 => ?_)
      · refine X.seq ?_
        refine X.region ?_
        refine XL.cons (XOp.assign (.bool (false)) rfl ?_)
        refine XL.nil ?_
        refine X.ret (thenQ_ret (retEnd (L' := L) [.bool (false)] (.bool (false)) (.tmp rfl .nil) rfl (FLe.refl _) (FLe.refl _) (Sub.drop (Sub.refl _)) ?_))
        exact ⟨(congrArg Value.bool (by unfold wordOkL; simp_all <;> omega)), rfl, rfl⟩
      · refine X.skip ?_
        refine X.seq ?_
        refine X.region ?_
        refine XL.cons (XOp.move (tsv) rfl ?_)
        refine XL.cons (XOp.makeFuncL [] [ptr b1 0] rfl rfl ?_)
        refine XL.freeze [] _ _ rfl (fun F1 le1 hz1 => ?_)
        replace har := har.mono le1
        replace hrs := hrs.mono le1
        replace hts := hts.mono le1
        have hf1 : FzC F1 b1 [arv, rsv] := Fz.cells hz1
        refine XL.cons (XOp.call (args := [tsv, .func (.func 132) #[] #[ptr b1 0]]) Tryz.call131 rfl (ContainsFuncWord_spec hts har hrs hf1 (hlt := (by first | assumption | rfl | omega | (left; simp; done) | (right; simp; done)))) ?_)
        rintro _ _ _ _ ⟨rfl, rfl, rfl⟩
        refine XL.cons (XOp.notD (p := badIx ar ts ≥ 0) rfl ?_)
        refine XL.cons (XOp.assign (.bool (decide (¬(badIx ar ts ≥ 0)))) rfl ?_)
        refine XL.nil ?_
        refine X.ret (retEnd (L' := L) [.bool (decide (¬(badIx ar ts ≥ 0)))] (.bool (decide (¬(badIx ar ts ≥ 0)))) (.tmp rfl .nil) rfl (FLe.refl _) le1 (Sub.refl _) ?_)
        exact ⟨(congrArg Value.bool (by unfold wordOkL; have hb := badIx_iff (ar := ar) (ts := ts); cases hA : ts.all (termOk ar) <;> simp_all <;> omega)), rfl, rfl⟩

/- impl.normalOf -/
theorem normalOf_spec {F : FH} {L : List HP} {arv : Value} {ar : List Int} (har : IntsF F arv ar) {rsv : Value} {rs : List (List Int × List Int)} (hrs : PairsF F rsv rs) {tv : Value} {t : List Int} (ht : IntsF F tv t) {n : Nat} (hsys : sysOk ar rs = true) (ho : termOk ar t = true) (hn : n ≤ 60) :
    Does Tryz.prog 82 [.agg #[arv, rsv], tv, .int .i64 (((n : Nat) : Int))] F (L) (fun v F' L' => ∃ (a : Value), (.tuple #[a, .bool ((walkGo ar rs 1 n t).2)] : Value) = v ∧ (IntsF F' a (endL t (walkGo ar rs 1 n t).1)) ∧ L = L') := by
  refine Does.of_X Tryz.func82 rfl rfl rfl ?_
  have hwl := walkGo_len (ar := ar) (rs := rs) (st := 1) n t
  refine X.seq ?_
  refine X.region ?_
  refine XL.cons (XOp.box [arv, rsv] rfl rfl ?_)
  intro b1
  refine XL.cons (XOp.assign ((.slice none 0 0)) rfl ?_)
  refine XL.cons (XOp.assign (.bool (false)) rfl ?_)
  refine XL.nil ?_
  refine X.seq ?_
  refine X.region ?_
  refine XL.cons (XOp.loadN [arv, rsv] Tryz.isAgg37 Tryz.sizeOf37 rfl rfl (Rd.ownN [] rfl rfl) ?_)
  refine XL.cons (XOp.move (tv) rfl ?_)
  refine XL.cons (XOp.move (.int .i64 (((n : Nat) : Int))) rfl ?_)
  refine XL.cons (XOp.call (args := [.agg #[arv, rsv], tv, .int .i64 (1), .int .i64 ((n : Nat) : Int)]) Tryz.call56 rfl (walkBy_spec (st := 1) (n := n) har hrs ht (hsys := (by first | assumption | rfl | omega | (left; simp; done) | (right; simp; done))) (ho := (by first | assumption | rfl | omega | (left; simp; done) | (right; simp; done))) (hst := (by first | assumption | rfl | omega | (left; simp; done) | (right; simp; done))) (hn := (by first | assumption | rfl | omega | (left; simp; done) | (right; simp; done)))) ?_)
  rintro _ F1 _ le1 ⟨x1, x2, rfl, hr1, hr2, hr3, rfl⟩
  replace har := har.mono le1
  replace hrs := hrs.mono le1
  replace ht := ht.mono le1
  refine XL.cons (XOp.move (.tuple #[.agg #[x1, x2], .bool ((walkGo ar rs 1 n t).2)]) rfl ?_)
  refine XL.cons (XOp.extract (.agg #[x1, x2]) rfl rfl ?_)
  refine XL.cons (XOp.extract (.bool ((walkGo ar rs 1 n t).2)) rfl rfl ?_)
  refine XL.cons (XOp.alloc [(.slice none 0 0), (.slice none 0 0)] Tryz.zeroValue66 rfl ?_)
  intro b2
  refine XL.cons (XOp.storeN (vs := [x1, x2]) [] _ [x1, x2] Tryz.sizeOf66 rfl rfl rfl (ones_cons (one_sl (IntsF.isSl hr1)) (ones_cons (one_sl (StepsF.isSl hr2)) ones_nil)) rfl rfl rfl ?_)
  refine XL.cons (XOp.assign (.bool ((walkGo ar rs 1 n t).2)) rfl ?_)
  refine XL.nil ?_
  refine X.seq ?_
  refine X.region ?_
  refine XL.cons (XOp.loadN [x1, x2] Tryz.isAgg66 Tryz.sizeOf66 rfl rfl (Rd.ownN [] rfl rfl) ?_)
  refine XL.cons (XOp.call (args := [.agg #[x1, x2]]) Tryz.call134 rfl (walkEnd_spec hr1 hr2 (hlss := (by first | assumption | rfl | omega | (left; simp; done) | (right; simp; done)))) ?_)
  rintro _ _ _ _ ⟨rfl, x3, rfl, hr4, rfl⟩
  refine XL.cons (XOp.move (.bool ((walkGo ar rs 1 n t).2)) rfl ?_)
  refine XL.cons (XOp.assign (x3) rfl ?_)
  refine XL.cons (XOp.assign (.bool ((walkGo ar rs 1 n t).2)) rfl ?_)
  refine XL.nil ?_
  refine X.ret (retEnd (L' := L) [x3, .bool ((walkGo ar rs 1 n t).2)] (.tuple #[x3, .bool ((walkGo ar rs 1 n t).2)]) (.tmp rfl (.tmp rfl .nil)) rfl le1 (FLe.refl _) (Sub.drop (Sub.drop (Sub.refl _))) ?_)
  exact ⟨_, rfl, hr4, rfl⟩

/- impl.equalBy$1 -/
theorem equalBy1_spec {F : FH} {L : List HP} {tv : Value} {t : List Int} (ht : IntsF F tv t) {arv : Value} {ar : List Int} (har : IntsF F arv ar) {rsv : Value} {rs : List (List Int × List Int)} (hrs : PairsF F rsv rs) {b : Nat} (hzb : FzC F b [arv, rsv]) {n : Nat} {c : Nat} (hzc : FzC F c [.int .i64 (((n : Nat) : Int))]) (hsys : sysOk ar rs = true) (ho : termOk ar t = true) (hn : n ≤ 60) :
    Does Tryz.prog 129 [tv, ptr b 0, ptr c 0] F (L) (fun v F' L' => ∃ (a : Value), (.tuple #[a, .bool ((walkGo ar rs 1 n t).2)] : Value) = v ∧ (IntsF F' a (endL t (walkGo ar rs 1 n t).1)) ∧ L = L') := by
  refine Does.of_X Tryz.func129 rfl rfl rfl ?_
  refine X.seq ?_
  refine X.region ?_
  refine XL.cons (XOp.assign ((.slice none 0 0)) rfl ?_)
  refine XL.cons (XOp.assign (.bool (false)) rfl ?_)
  refine XL.nil ?_
  refine X.seq ?_
  refine X.region ?_
  refine XL.cons (XOp.loadN [arv, rsv] Tryz.isAgg37 Tryz.sizeOf37 rfl rfl (FzC.rd hzb rfl) ?_)
  refine XL.cons (XOp.move (tv) rfl ?_)
  refine XL.cons (XOp.load1 (v := .int .i64 (((n : Nat) : Int))) Tryz.isAgg3 rfl (FzC.rd1 hzc rfl) ?_)
  refine XL.cons (XOp.call (args := [.agg #[arv, rsv], tv, .int .i64 ((n : Nat) : Int)]) Tryz.call82 rfl (normalOf_spec (n := n) har hrs ht (hsys := (by first | assumption | rfl | omega | (left; simp; done) | (right; simp; done))) (ho := (by first | assumption | rfl | omega | (left; simp; done) | (right; simp; done))) (hn := (by first | assumption | rfl | omega | (left; simp; done) | (right; simp; done)))) ?_)
  rintro _ F1 _ le1 ⟨x1, rfl, hr1, rfl⟩
  replace ht := ht.mono le1
  replace har := har.mono le1
  replace hrs := hrs.mono le1
  replace hzb := hzb.mono le1
  replace hzc := hzc.mono le1
  refine XL.cons (XOp.extract (x1) rfl rfl ?_)
  refine XL.cons (XOp.extract (.bool ((walkGo ar rs 1 n t).2)) rfl rfl ?_)
  refine XL.cons (XOp.assign (x1) rfl ?_)
  refine XL.cons (XOp.assign (.bool ((walkGo ar rs 1 n t).2)) rfl ?_)
  refine XL.nil ?_
  refine X.ret (retEnd (L' := L) [x1, .bool ((walkGo ar rs 1 n t).2)] (.tuple #[x1, .bool ((walkGo ar rs 1 n t).2)]) (.tmp rfl (.tmp rfl .nil)) rfl le1 (FLe.refl _) (Sub.refl _) ?_)
  exact ⟨_, rfl, hr1, rfl⟩

/- impl.both[[]int64] -/
theorem both_spec {F : FH} {L : List HP} {xv : Value} {x : List Int} (hx : IntsF F xv x) {yv : Value} {y : List Int} (hy : IntsF F yv y) {arv : Value} {ar : List Int} (har : IntsF F arv ar) {rsv : Value} {rs : List (List Int × List Int)} (hrs : PairsF F rsv rs) {b : Nat} (hzb : FzC F b [arv, rsv]) {n : Nat} {c : Nat} (hzc : FzC F c [.int .i64 (((n : Nat) : Int))]) (hsys : sysOk ar rs = true) (hox : termOk ar x = true) (hoy : termOk ar y = true) (hn : n ≤ 60) :
    Does Tryz.prog 128 [xv, yv, .func (.func 129) #[] #[ptr b 0, ptr c 0]] F (L) (fun v F' L' => ∃ (a : Value), ∃ (d : Value), (.tuple #[a, d, .bool (((walkGo ar rs 1 n x).2 && (walkGo ar rs 1 n y).2))] : Value) = v ∧ (IntsF F' a (endL x (walkGo ar rs 1 n x).1)) ∧ (IntsF F' d (endL y (walkGo ar rs 1 n y).1)) ∧ L = L') := by
  refine Does.of_X Tryz.func128 rfl rfl rfl ?_
  refine X.seq ?_
  refine X.region ?_
  refine XL.cons (XOp.assign ((.slice none 0 0)) rfl ?_)
  refine XL.cons (XOp.assign ((.slice none 0 0)) rfl ?_)
  refine XL.cons (XOp.assign (.bool (false)) rfl ?_)
  refine XL.nil ?_
  refine X.seq ?_
  refine X.region ?_
  refine XL.cons (XOp.move (.func (.func 129) #[] #[ptr b 0, ptr c 0]) rfl ?_)
  refine XL.cons (XOp.move (xv) rfl ?_)
  refine XL.cons (XOp.callV (first := []) (captured := [ptr b 0, ptr c 0]) (args := [xv, ptr b 0, ptr c 0]) Tryz.call129 rfl rfl (equalBy1_spec hx har hrs hzb hzc (hsys := (by first | assumption | rfl | omega | (left; simp; done) | (right; simp; done))) (ho := (by first | assumption | rfl | omega | (left; simp; done) | (right; simp; done))) (hn := (by first | assumption | rfl | omega | (left; simp; done) | (right; simp; done)))) ?_)
  rintro _ F1 _ le1 ⟨x1, rfl, hr1, rfl⟩
  replace hx := hx.mono le1
  replace hy := hy.mono le1
  replace har := har.mono le1
  replace hrs := hrs.mono le1
  replace hzb := hzb.mono le1
  replace hzc := hzc.mono le1
  refine XL.cons (XOp.move (.tuple #[x1, .bool ((walkGo ar rs 1 n x).2)]) rfl ?_)
  refine XL.cons (XOp.extract (x1) rfl rfl ?_)
  refine XL.cons (XOp.extract (.bool ((walkGo ar rs 1 n x).2)) rfl rfl ?_)
  refine XL.cons (XOp.assign (x1) rfl ?_)
  refine XL.cons (XOp.assign (.bool ((walkGo ar rs 1 n x).2)) rfl ?_)
  refine XL.nil ?_
  refine X.seq ?_
  refine X.region ?_
  refine XL.cons (XOp.move (.func (.func 129) #[] #[ptr b 0, ptr c 0]) rfl ?_)
  refine XL.cons (XOp.move (yv) rfl ?_)
  refine XL.cons (XOp.callV (first := []) (captured := [ptr b 0, ptr c 0]) (args := [yv, ptr b 0, ptr c 0]) Tryz.call129 rfl rfl (equalBy1_spec hy har hrs hzb hzc (hsys := (by first | assumption | rfl | omega | (left; simp; done) | (right; simp; done))) (ho := (by first | assumption | rfl | omega | (left; simp; done) | (right; simp; done))) (hn := (by first | assumption | rfl | omega | (left; simp; done) | (right; simp; done)))) ?_)
  rintro _ F2 _ le2 ⟨x2, rfl, hr2, rfl⟩
  replace hx := hx.mono le2
  replace hy := hy.mono le2
  replace har := har.mono le2
  replace hrs := hrs.mono le2
  replace hzb := hzb.mono le2
  replace hzc := hzc.mono le2
  replace hr1 := hr1.mono le2
  refine XL.cons (XOp.move (.tuple #[x2, .bool ((walkGo ar rs 1 n y).2)]) rfl ?_)
  refine XL.cons (XOp.extract (x2) rfl rfl ?_)
  refine XL.cons (XOp.extract (.bool ((walkGo ar rs 1 n y).2)) rfl rfl ?_)
  refine XL.cons (XOp.assign (x2) rfl ?_)
  refine XL.cons (XOp.assign (.bool ((walkGo ar rs 1 n y).2)) rfl ?_)
  refine XL.nil ?_
  refine X.seq ?_
  refine X.region ?_
  refine XL.cons (XOp.move (x1) rfl ?_)
  refine XL.cons (XOp.move (x2) rfl ?_)
  refine XL.cons (XOp.move (.bool ((walkGo ar rs 1 n x).2)) rfl ?_)
  refine XL.cons (XOp.move (.bool ((walkGo ar rs 1 n x).2)) rfl ?_)
  by_cases h1 : ((walkGo ar rs 1 n x).2) = true
  · refine XL.yes (t := 28) rfl (congrArg Value.bool h1) (XOp.move (.bool ((walkGo ar rs 1 n y).2)) rfl ?_)
    refine XL.cons (XOp.pickT (.bool ((walkGo ar rs 1 n y).2)) (congrArg Value.bool h1) rfl ?_)
    refine XL.cons (XOp.assign (x1) rfl ?_)
    refine XL.cons (XOp.assign (x2) rfl ?_)
    refine XL.cons (XOp.assign (.bool ((walkGo ar rs 1 n y).2)) rfl ?_)
    refine XL.nil ?_
    refine X.ret (retEnd (L' := L) [x1, x2, .bool ((walkGo ar rs 1 n y).2)] (.tuple #[x1, x2, .bool ((walkGo ar rs 1 n y).2)]) (.tmp rfl (.tmp rfl (.tmp rfl .nil))) rfl (FLe.trans le1 le2) (FLe.refl _) (Sub.refl _) ?_)
    exact ⟨_, _, by first | rfl | (rw [‹(walkGo ar rs 1 n x).2 = _›]; rfl), hr1, hr2, rfl⟩
  · rw [Bool.not_eq_true] at h1
    refine XL.no (t := 28) rfl (congrArg Value.bool h1) ?_
    refine XL.cons (XOp.pickF (.bool (false)) (congrArg Value.bool h1) rfl ?_)
    refine XL.cons (XOp.assign (x1) rfl ?_)
    refine XL.cons (XOp.assign (x2) rfl ?_)
    refine XL.cons (XOp.assign (.bool (false)) rfl ?_)
    refine XL.nil ?_
    refine X.ret (retEnd (L' := L) [x1, x2, .bool (false)] (.tuple #[x1, x2, .bool (false)]) (.tmp rfl (.tmp rfl (.tmp rfl .nil))) rfl (FLe.trans le1 le2) (FLe.refl _) (Sub.refl _) ?_)
    exact ⟨_, _, by first | rfl | (rw [‹(walkGo ar rs 1 n x).2 = _›]; rfl), hr1, hr2, rfl⟩

/- impl.equalBy -/
theorem equalBy_spec {F : FH} {L : List HP} {arv : Value} {ar : List Int} (har : IntsF F arv ar) {rsv : Value} {rs : List (List Int × List Int)} (hrs : PairsF F rsv rs) {av : Value} {a : List Int} (ha : IntsF F av a) {bv : Value} {b : List Int} (hb : IntsF F bv b) {n : Nat} (hsys : sysOk ar rs = true) (hoa : termOk ar a = true) (hob : termOk ar b = true) (hn : n ≤ 60) :
    Does Tryz.prog 75 [.agg #[arv, rsv], av, bv, .int .i64 (((n : Nat) : Int))] F (L) (fun v F' L' => (.int .i64 (eqN ar rs a b n) : Value) = v ∧ F = F' ∧ L = L') := by
  refine Does.of_X Tryz.func75 rfl rfl rfl ?_
  have hwa := walkGo_ok (ar := ar) (rs := rs) (st := 1) n a (right_iff.2 ⟨hsys, hoa⟩)
  have hwb := walkGo_ok (ar := ar) (rs := rs) (st := 1) n b (right_iff.2 ⟨hsys, hob⟩)
  have hla := termOk_len (right_iff.1 hwa.2.1).2
  have hlb := termOk_len (right_iff.1 hwb.2.1).2
  refine X.seq ?_
  refine X.region ?_
  refine XL.cons (XOp.box [arv, rsv] rfl rfl ?_)
  intro b1
  refine XL.cons (XOp.box [.int .i64 (((n : Nat) : Int))] rfl rfl ?_)
  intro b2
  refine XL.cons (XOp.assign (.int .i64 (0)) rfl ?_)
  refine XL.nil ?_
  refine X.seq ?_
  refine X.region ?_
  refine XL.cons (XOp.move (av) rfl ?_)
  refine XL.cons (XOp.move (bv) rfl ?_)
  refine XL.cons (XOp.makeFuncL [] [ptr b1 0, ptr b2 0] rfl rfl ?_)
  refine XL.freeze [_] _ _ rfl (fun F1 le1 hz1 => ?_)
  replace har := har.mono le1
  replace hrs := hrs.mono le1
  replace ha := ha.mono le1
  replace hb := hb.mono le1
  have hf1 : FzC F1 b1 [arv, rsv] := Fz.cells hz1
  refine XL.freeze [] _ _ rfl (fun F2 le2 hz2 => ?_)
  replace har := har.mono le2
  replace hrs := hrs.mono le2
  replace ha := ha.mono le2
  replace hb := hb.mono le2
  replace hf1 := hf1.mono le2
  have hf2 : FzC F2 b2 [.int .i64 (((n : Nat) : Int))] := Fz.cells hz2
  refine XL.cons (XOp.call (args := [av, bv, .func (.func 129) #[] #[ptr b1 0, ptr b2 0]]) Tryz.call128 rfl (both_spec ha hb har hrs hf1 hf2 (hsys := (by first | assumption | rfl | omega | (left; simp; done) | (right; simp; done))) (hox := (by first | assumption | rfl | omega | (left; simp; done) | (right; simp; done))) (hoy := (by first | assumption | rfl | omega | (left; simp; done) | (right; simp; done))) (hn := (by first | assumption | rfl | omega | (left; simp; done) | (right; simp; done)))) ?_)
  rintro _ F3 _ le3 ⟨x1, x2, rfl, hr1, hr2, rfl⟩
  replace har := har.mono le3
  replace hrs := hrs.mono le3
  replace ha := ha.mono le3
  replace hb := hb.mono le3
  replace hf1 := hf1.mono le3
  replace hf2 := hf2.mono le3
  refine XL.cons (XOp.move (.tuple #[x1, x2, .bool (((walkGo ar rs 1 n a).2 && (walkGo ar rs 1 n b).2))]) rfl ?_)
  refine XL.cons (XOp.extract (x1) rfl rfl ?_)
  refine XL.cons (XOp.extract (x2) rfl rfl ?_)
  refine XL.cons (XOp.extract (.bool (((walkGo ar rs 1 n a).2 && (walkGo ar rs 1 n b).2))) rfl rfl ?_)
  refine XL.cons (XOp.assign (x1) rfl ?_)
  refine XL.cons (XOp.assign (x2) rfl ?_)
  refine XL.cons (XOp.assign (.bool (((walkGo ar rs 1 n a).2 && (walkGo ar rs 1 n b).2))) rfl ?_)
  refine XL.nil ?_
  refine X.seq ?_
  refine X.block ?_
  refine X.seq ?_
  refine X.region ?_
  refine XL.cons (XOp.move (.bool (((walkGo ar rs 1 n a).2 && (walkGo ar rs 1 n b).2))) rfl ?_)
  refine XL.cons (XOp.notB (b := ((walkGo ar rs 1 n a).2 && (walkGo ar rs 1 n b).2)) rfl ?_)
  refine XL.cons (XOp.assign (.bool (!(((walkGo ar rs 1 n a).2 && (walkGo ar rs 1 n b).2)))) rfl ?_)
  refine XL.nil ?_
  refine X.cond (t := !(((walkGo ar rs 1 n a).2 && (walkGo ar rs 1 n b).2))) rfl (fun h1 => ?_) (fun h1 => ?_)
  · refine X.seq ?_
    refine X.region ?_
    refine XL.cons (XOp.assign (.int .i64 (-1)) rfl ?_)
    refine XL.nil ?_
    refine X.ret (blockQ_ret (thenQ_ret (retEnd (L' := L) [.int .i64 (-1)] (.int .i64 (-1)) (.tmp rfl .nil) rfl (FLe.refl _) (FLe.trans (FLe.trans le1 le2) le3) (Sub.refl _) ?_)))
    exact ⟨(congrArg (Value.int .i64) (by rw [eqN, if_neg (fun h => by simp_all)])), rfl, rfl⟩
  · refine X.seq ?_
    refine X.region ?_
    refine XL.cons (XOp.move (x1) rfl ?_)
    refine XL.cons (XOp.move (x2) rfl ?_)
    refine XL.cons (XOp.call (args := [x1, x2]) Tryz.call85 rfl (Equal_spec hr1 hr2 (hbd := (by first | assumption | rfl | omega | (left; simp; done) | (right; simp; done)))) ?_)
    rintro _ _ _ _ ⟨rfl, rfl, rfl⟩
    refine XL.cons (XOp.assign (.bool (decide ((endL a (walkGo ar rs 1 n a).1) = (endL b (walkGo ar rs 1 n b).1)))) rfl ?_)
    refine XL.nil ?_
    refine X.condD (p := (endL a (walkGo ar rs 1 n a).1) = (endL b (walkGo ar rs 1 n b).1)) rfl (fun h2 => ?_) (fun h2 => ?_)
    · refine X.seq ?_
      refine X.region ?_
      refine XL.cons (XOp.assign (.int .i64 (1)) rfl ?_)
      refine XL.nil ?_
      refine X.ret (blockQ_ret (thenQ_ret (retEnd (L' := L) [.int .i64 (1)] (.int .i64 (1)) (.tmp rfl .nil) rfl (FLe.refl _) (FLe.trans (FLe.trans le1 le2) le3) (Sub.refl _) ?_)))
      exact ⟨(congrArg (Value.int .i64) (by rw [eqN, if_pos (by simp_all), if_pos (by assumption)])), rfl, rfl⟩
    · refine X.skip ?_
      refine X.seq ?_
      refine X.region ?_
      refine XL.cons (XOp.assign (.int .i64 (0)) rfl ?_)
      refine XL.nil ?_
      refine X.ret (retEnd (L' := L) [.int .i64 (0)] (.int .i64 (0)) (.tmp rfl .nil) rfl (FLe.refl _) (FLe.trans (FLe.trans le1 le2) le3) (Sub.refl _) ?_)
      exact ⟨(congrArg (Value.int .i64) (by rw [eqN, if_pos (by simp_all), if_neg (by assumption)])), rfl, rfl⟩

/- spec.l22Right -/
theorem l22Right_spec {F : FH} {L : List HP} {arv : Value} {ar : List Int} (har : IntsF F arv ar) {rsv : Value} {rs : List (List Int × List Int)} (hrs : PairsF F rsv rs) {tv : Value} {t : List Int} (ht : IntsF F tv t) {n : Int} (hla : ar.length ≤ 4000000) (hlr : rs.length ≤ 4000000) (hrb : ∀ i, i < rs.length → (rs.getD i ([], [])).1.length ≤ 4000000 ∧ (rs.getD i ([], [])).2.length ≤ 4000000) (hlt : t.length ≤ 4000000) :
    Does Tryz.prog 103 [.agg #[arv, rsv], tv, .int .i64 (n)] F (L) (fun v F' L' => (.bool ((rightB ar rs t && decide (0 ≤ n ∧ n ≤ 60))) : Value) = v ∧ F = F' ∧ L = L') := by
  refine Does.of_X Tryz.func103 rfl rfl rfl ?_
  refine X.seq ?_
  refine X.region ?_
  refine XL.cons (XOp.box [arv, rsv] rfl rfl ?_)
  intro b1
  refine XL.cons (XOp.assign (.bool (false)) rfl ?_)
  refine XL.nil ?_
  refine X.seq ?_
  refine X.region ?_
  refine XL.cons (XOp.loadN [arv, rsv] Tryz.isAgg37 Tryz.sizeOf37 rfl rfl (Rd.ownN [] rfl rfl) ?_)
  refine XL.cons (XOp.move (tv) rfl ?_)
  refine XL.cons (XOp.call (args := [.agg #[arv, rsv], tv]) Tryz.call140 rfl (l7Right_spec har hrs ht (hla := (by first | assumption | rfl | omega | (left; simp; done) | (right; simp; done))) (hlr := (by first | assumption | rfl | omega | (left; simp; done) | (right; simp; done))) (hrb := (by first | assumption | rfl | omega | (left; simp; done) | (right; simp; done))) (hlt := (by first | assumption | rfl | omega | (left; simp; done) | (right; simp; done)))) ?_)
  rintro _ _ _ _ ⟨rfl, rfl, rfl⟩
  refine XL.cons (XOp.move (.bool (rightB ar rs t)) rfl ?_)
  by_cases h1 : (rightB ar rs t) = true
  · refine XL.yes (t := 10) rfl (congrArg Value.bool h1) (XOp.move (.int .i64 (n)) rfl ?_)
    refine XL.yes (t := 10) rfl (congrArg Value.bool h1) (XOp.call (args := [.int .i64 (n), .int .i64 (0), .int .i64 (60)]) Tryz.call86 rfl (l1In_spec (n := n) (a := 0) (b := 60)) ?_)
    rintro _ _ _ _ ⟨rfl, rfl, rfl⟩
    refine XL.cons (XOp.pickT (.bool (decide (0 ≤ n ∧ n ≤ 60))) (congrArg Value.bool h1) rfl ?_)
    refine XL.cons (XOp.assign (.bool (decide (0 ≤ n ∧ n ≤ 60))) rfl ?_)
    refine XL.nil ?_
    refine X.ret (retEnd (L' := L) [.bool (decide (0 ≤ n ∧ n ≤ 60))] (.bool (decide (0 ≤ n ∧ n ≤ 60))) (.tmp rfl .nil) rfl (FLe.refl _) (FLe.refl _) (Sub.drop (Sub.refl _)) ?_)
    exact ⟨(congrArg Value.bool (by simp_all)), rfl, rfl⟩
  · rw [Bool.not_eq_true] at h1
    refine XL.no (t := 10) rfl (congrArg Value.bool h1) ?_
    refine XL.no (t := 10) rfl (congrArg Value.bool h1) ?_
    refine XL.cons (XOp.pickF (.bool (false)) (congrArg Value.bool h1) rfl ?_)
    refine XL.cons (XOp.assign (.bool (false)) rfl ?_)
    refine XL.nil ?_
    refine X.ret (retEnd (L' := L) [.bool (false)] (.bool (false)) (.tmp rfl .nil) rfl (FLe.refl _) (FLe.refl _) (Sub.drop (Sub.refl _)) ?_)
    exact ⟨(congrArg Value.bool (by simp_all)), rfl, rfl⟩

/- spec.l1Flag -/
theorem l1Flag_spec {F : FH} {L : List HP} {q : Bool} :
    Does Tryz.prog 104 [.bool (q)] F (L) (fun v F' L' => (.int .i64 (if q = true then 1 else 0) : Value) = v ∧ F = F' ∧ L = L') := by
  refine Does.of_X Tryz.func104 rfl rfl rfl ?_
  refine X.seq ?_
  refine X.region ?_
  refine XL.cons (XOp.assign (.int .i64 (0)) rfl ?_)
  refine XL.nil ?_
  refine X.seq ?_
  refine X.seq ?_
  refine X.region ?_
  refine XL.cons (XOp.move (.bool (q)) rfl ?_)
  refine XL.nil ?_
  refine X.cond (t := q) rfl (fun h1 => ?_) (fun h1 => ?_)
  · refine X.seq ?_
    refine X.region ?_
    refine XL.cons (XOp.assign (.int .i64 (1)) rfl ?_)
    refine XL.nil ?_
    refine X.ret (thenQ_ret (retEnd (L' := L) [.int .i64 (1)] (.int .i64 (1)) (.tmp rfl .nil) rfl (FLe.refl _) (FLe.refl _) (Sub.refl _) ?_))
    exact ⟨(congrArg (Value.int .i64) (by rw [if_pos (by assumption)])), rfl, rfl⟩
  · refine X.skip ?_
    refine X.seq ?_
    refine X.region ?_
    refine XL.cons (XOp.assign (.int .i64 (0)) rfl ?_)
    refine XL.nil ?_
    refine X.ret (retEnd (L' := L) [.int .i64 (0)] (.int .i64 (0)) (.tmp rfl .nil) rfl (FLe.refl _) (FLe.refl _) (Sub.refl _) ?_)
    exact ⟨(congrArg (Value.int .i64) (by rw [if_neg (by simp_all)])), rfl, rfl⟩

/- spec.EqualBy -/
theorem sEqualBy_spec {F : FH} {L : List HP} {arv : Value} {ar : List Int} (har : IntsF F arv ar) {rsv : Value} {rs : List (List Int × List Int)} (hrs : PairsF F rsv rs) {av : Value} {a : List Int} (ha : IntsF F av a) {bv : Value} {b : List Int} (hb : IntsF F bv b) {n : Int} (hla : ar.length ≤ 4000000) (hlr : rs.length ≤ 4000000) (hrb : ∀ i, i < rs.length → (rs.getD i ([], [])).1.length ≤ 4000000 ∧ (rs.getD i ([], [])).2.length ≤ 4000000) (hlta : a.length ≤ 4000000) (hltb : b.length ≤ 4000000) :
    Does Tryz.prog 49 [.agg #[arv, rsv], av, bv, .int .i64 (n)] F (L) (fun v F' L' => (.int .i64 (eqB ar rs a b n) : Value) = v ∧ F = F' ∧ L = L') := by
  refine Does.of_X Tryz.func49 rfl rfl rfl ?_
  refine X.seq ?_
  refine X.region ?_
  refine XL.cons (XOp.box [arv, rsv] rfl rfl ?_)
  intro b1
  refine XL.cons (XOp.assign (.int .i64 (0)) rfl ?_)
  refine XL.nil ?_
  refine X.seq ?_
  refine X.seq ?_
  refine X.region ?_
  refine XL.cons (XOp.loadN [arv, rsv] Tryz.isAgg37 Tryz.sizeOf37 rfl rfl (Rd.ownN [] rfl rfl) ?_)
  refine XL.cons (XOp.move (av) rfl ?_)
  refine XL.cons (XOp.move (.int .i64 (n)) rfl ?_)
  refine XL.cons (XOp.call (args := [.agg #[arv, rsv], av, .int .i64 (n)]) Tryz.call103 rfl (l22Right_spec (n := n) har hrs ha (hla := (by first | assumption | rfl | omega | (left; simp; done) | (right; simp; done))) (hlr := (by first | assumption | rfl | omega | (left; simp; done) | (right; simp; done))) (hrb := (by first | assumption | rfl | omega | (left; simp; done) | (right; simp; done))) (hlt := (by first | assumption | rfl | omega | (left; simp; done) | (right; simp; done)))) ?_)
  rintro _ _ _ _ ⟨rfl, rfl, rfl⟩
  refine XL.cons (XOp.notB (b := (rightB ar rs a && decide (0 ≤ n ∧ n ≤ 60))) rfl ?_)
  refine XL.cons (XOp.move (.bool (!((rightB ar rs a && decide (0 ≤ n ∧ n ≤ 60))))) rfl ?_)
  by_cases h1 : (!((rightB ar rs a && decide (0 ≤ n ∧ n ≤ 60)))) = true
  · refine XL.no (t := 18) rfl (congrArg Value.bool h1) ?_
    refine XL.no (t := 18) rfl (congrArg Value.bool h1) ?_
    refine XL.no (t := 18) rfl (congrArg Value.bool h1) ?_
    refine XL.no (t := 18) rfl (congrArg Value.bool h1) ?_
    refine XL.no (t := 18) rfl (congrArg Value.bool h1) ?_
    refine XL.cons (XOp.pickT (.bool (true)) (congrArg Value.bool h1) rfl ?_)
    refine XL.nil ?_
    refine X.condT rfl ?_
    refine X.seq ?_
    refine X.region ?_
    refine XL.cons (XOp.assign (.int .i64 (-1)) rfl ?_)
    refine XL.nil ?_
    refine X.ret (thenQ_ret (retEnd (L' := L) [.int .i64 (-1)] (.int .i64 (-1)) (.tmp rfl .nil) rfl (FLe.refl _) (FLe.refl _) (Sub.drop (Sub.refl _)) ?_))
    exact ⟨(congrArg (Value.int .i64) (by rw [eqB, if_neg]; intro h; simp_all <;> omega)), rfl, rfl⟩
  · rw [Bool.not_eq_true] at h1
    refine XL.yes (t := 18) rfl (congrArg Value.bool h1) (XOp.loadN [arv, rsv] Tryz.isAgg37 Tryz.sizeOf37 rfl rfl (Rd.ownN [] rfl rfl) ?_)
    refine XL.yes (t := 18) rfl (congrArg Value.bool h1) (XOp.move (bv) rfl ?_)
    refine XL.yes (t := 18) rfl (congrArg Value.bool h1) (XOp.move (.int .i64 (n)) rfl ?_)
    refine XL.yes (t := 18) rfl (congrArg Value.bool h1) (XOp.call (args := [.agg #[arv, rsv], bv, .int .i64 (n)]) Tryz.call103 rfl (l22Right_spec (n := n) har hrs hb (hla := (by first | assumption | rfl | omega | (left; simp; done) | (right; simp; done))) (hlr := (by first | assumption | rfl | omega | (left; simp; done) | (right; simp; done))) (hrb := (by first | assumption | rfl | omega | (left; simp; done) | (right; simp; done))) (hlt := (by first | assumption | rfl | omega | (left; simp; done) | (right; simp; done)))) ?_)
    rintro _ _ _ _ ⟨rfl, rfl, rfl⟩
    refine XL.yes (t := 18) rfl (congrArg Value.bool h1) (XOp.notB (b := (rightB ar rs b && decide (0 ≤ n ∧ n ≤ 60))) rfl ?_)
    refine XL.cons (XOp.pickF (.bool (!((rightB ar rs b && decide (0 ≤ n ∧ n ≤ 60))))) (congrArg Value.bool h1) rfl ?_)
    refine XL.nil ?_
    refine X.cond (t := !((rightB ar rs b && decide (0 ≤ n ∧ n ≤ 60)))) rfl (fun h2 => ?_) (fun h2 => ?_)
    · refine X.seq ?_
      refine X.region ?_
      refine XL.cons (XOp.assign (.int .i64 (-1)) rfl ?_)
      refine XL.nil ?_
      refine X.ret (thenQ_ret (retEnd (L' := L) [.int .i64 (-1)] (.int .i64 (-1)) (.tmp rfl .nil) rfl (FLe.refl _) (FLe.refl _) (Sub.drop (Sub.refl _)) ?_))
      exact ⟨(congrArg (Value.int .i64) (by rw [eqB, if_neg]; intro h; simp_all <;> omega)), rfl, rfl⟩
    · refine X.skip ?_
      refine X.seq ?_
      refine X.region ?_
      have hra : rightB ar rs a = true := by simp_all
      have hrb2 : rightB ar rs b = true := by simp_all
      have hn0 : 0 ≤ n ∧ n ≤ 60 := by simp_all
      have hea := normB_right (a := a) hra hn0
      have heb := normB_right (a := b) hrb2 hn0
      have hna := normB_len (ar := ar) (rs := rs) (t := a) (st := 1) (n := n)
      have hnb := normB_len (ar := ar) (rs := rs) (t := b) (st := 1) (n := n)
      refine XL.cons (XOp.loadN [arv, rsv] Tryz.isAgg37 Tryz.sizeOf37 rfl rfl (Rd.ownN [] rfl rfl) ?_)
      refine XL.cons (XOp.move (av) rfl ?_)
      refine XL.cons (XOp.move (.int .i64 (n)) rfl ?_)
      refine XL.cons (XOp.call (args := [.agg #[arv, rsv], av, .int .i64 (1), .int .i64 (n)]) Tryz.call79 rfl (sNormalBy_spec (st := 1) (n := n) har hrs ha (hla := (by first | assumption | rfl | omega | (left; simp; done) | (right; simp; done))) (hlr := (by first | assumption | rfl | omega | (left; simp; done) | (right; simp; done))) (hrb := (by first | assumption | rfl | omega | (left; simp; done) | (right; simp; done))) (hlt := (by first | assumption | rfl | omega | (left; simp; done) | (right; simp; done)))) ?_)
      rintro _ F1 _ le1 ⟨x1, rfl, hr1, rfl⟩
      replace har := har.mono le1
      replace hrs := hrs.mono le1
      replace ha := ha.mono le1
      replace hb := hb.mono le1
      refine XL.cons (XOp.move (.tuple #[x1, .bool ((normB ar rs a 1 n).2)]) rfl ?_)
      refine XL.cons (XOp.extract (x1) rfl rfl ?_)
      refine XL.cons (XOp.extract (.bool ((normB ar rs a 1 n).2)) rfl rfl ?_)
      refine XL.cons (XOp.assign (x1) rfl ?_)
      refine XL.cons (XOp.assign (.bool ((normB ar rs a 1 n).2)) rfl ?_)
      refine XL.nil ?_
      refine X.seq ?_
      refine X.region ?_
      refine XL.cons (XOp.loadN [arv, rsv] Tryz.isAgg37 Tryz.sizeOf37 rfl rfl (Rd.ownN [] rfl rfl) ?_)
      refine XL.cons (XOp.move (bv) rfl ?_)
      refine XL.cons (XOp.move (.int .i64 (n)) rfl ?_)
      refine XL.cons (XOp.call (args := [.agg #[arv, rsv], bv, .int .i64 (1), .int .i64 (n)]) Tryz.call79 rfl (sNormalBy_spec (st := 1) (n := n) har hrs hb (hla := (by first | assumption | rfl | omega | (left; simp; done) | (right; simp; done))) (hlr := (by first | assumption | rfl | omega | (left; simp; done) | (right; simp; done))) (hrb := (by first | assumption | rfl | omega | (left; simp; done) | (right; simp; done))) (hlt := (by first | assumption | rfl | omega | (left; simp; done) | (right; simp; done)))) ?_)
      rintro _ F2 _ le2 ⟨x2, rfl, hr2, rfl⟩
      replace har := har.mono le2
      replace hrs := hrs.mono le2
      replace ha := ha.mono le2
      replace hb := hb.mono le2
      replace hr1 := hr1.mono le2
      refine XL.cons (XOp.move (.tuple #[x2, .bool ((normB ar rs b 1 n).2)]) rfl ?_)
      refine XL.cons (XOp.extract (x2) rfl rfl ?_)
      refine XL.cons (XOp.extract (.bool ((normB ar rs b 1 n).2)) rfl rfl ?_)
      refine XL.cons (XOp.assign (x2) rfl ?_)
      refine XL.cons (XOp.assign (.bool ((normB ar rs b 1 n).2)) rfl ?_)
      refine XL.nil ?_
      refine X.seq ?_
      refine X.seq ?_
      refine X.region ?_
      refine XL.cons (XOp.move (.bool ((normB ar rs a 1 n).2)) rfl ?_)
      refine XL.cons (XOp.notB (b := (normB ar rs a 1 n).2) rfl ?_)
      refine XL.cons (XOp.move (.bool (!((normB ar rs a 1 n).2))) rfl ?_)
      by_cases h3 : (!((normB ar rs a 1 n).2)) = true
      · refine XL.no (t := 41) rfl (congrArg Value.bool h3) ?_
        refine XL.no (t := 41) rfl (congrArg Value.bool h3) ?_
        refine XL.cons (XOp.pickT (.bool (true)) (congrArg Value.bool h3) rfl ?_)
        refine XL.nil ?_
        refine X.condT rfl ?_
        refine X.seq ?_
        refine X.region ?_
        refine XL.cons (XOp.assign (.int .i64 (-1)) rfl ?_)
        refine XL.nil ?_
        refine X.ret (thenQ_ret (retEnd (L' := L) [.int .i64 (-1)] (.int .i64 (-1)) (.tmp rfl .nil) rfl (FLe.refl _) (FLe.trans le1 le2) (Sub.drop (Sub.refl _)) ?_))
        exact ⟨(congrArg (Value.int .i64) (by rw [eqB, if_pos ⟨⟨hra, hrb2⟩, hn0⟩, eqN, if_neg]; intro h; rw [hea, heb, if_pos h.1, if_pos h.2] at *; simp_all)), rfl, rfl⟩
      · rw [Bool.not_eq_true] at h3
        refine XL.yes (t := 41) rfl (congrArg Value.bool h3) (XOp.move (.bool ((normB ar rs b 1 n).2)) rfl ?_)
        refine XL.yes (t := 41) rfl (congrArg Value.bool h3) (XOp.notB (b := (normB ar rs b 1 n).2) rfl ?_)
        refine XL.cons (XOp.pickF (.bool (!((normB ar rs b 1 n).2))) (congrArg Value.bool h3) rfl ?_)
        refine XL.nil ?_
        refine X.cond (t := !((normB ar rs b 1 n).2)) rfl (fun h4 => ?_) (fun h4 => ?_)
        · refine X.seq ?_
          refine X.region ?_
          refine XL.cons (XOp.assign (.int .i64 (-1)) rfl ?_)
          refine XL.nil ?_
          refine X.ret (thenQ_ret (retEnd (L' := L) [.int .i64 (-1)] (.int .i64 (-1)) (.tmp rfl .nil) rfl (FLe.refl _) (FLe.trans le1 le2) (Sub.drop (Sub.refl _)) ?_))
          exact ⟨(congrArg (Value.int .i64) (by rw [eqB, if_pos ⟨⟨hra, hrb2⟩, hn0⟩, eqN, if_neg]; intro h; rw [hea, heb, if_pos h.1, if_pos h.2] at *; simp_all)), rfl, rfl⟩
        · refine X.skip ?_
          refine X.seq ?_
          refine X.region ?_
          refine XL.cons (XOp.move (x1) rfl ?_)
          refine XL.cons (XOp.move (x2) rfl ?_)
          refine XL.cons (XOp.call (args := [x1, x2]) Tryz.call71 rfl (SameTerm_spec hr1 hr2 (hbd := (by first | assumption | rfl | omega | (left; simp; done) | (right; simp; done)))) ?_)
          rintro _ _ _ _ ⟨rfl, rfl, rfl⟩
          refine XL.cons (XOp.call (args := [.bool (decide (((normB ar rs a 1 n).1) = ((normB ar rs b 1 n).1)))]) Tryz.call104 rfl (l1Flag_spec (q := decide (((normB ar rs a 1 n).1) = ((normB ar rs b 1 n).1)))) ?_)
          rintro _ _ _ _ ⟨rfl, rfl, rfl⟩
          refine XL.cons (XOp.assign (.int .i64 (if (decide (((normB ar rs a 1 n).1) = ((normB ar rs b 1 n).1))) = true then 1 else 0)) rfl ?_)
          refine XL.nil ?_
          refine X.ret (retEnd (L' := L) [.int .i64 (if (decide (((normB ar rs a 1 n).1) = ((normB ar rs b 1 n).1))) = true then 1 else 0)] (.int .i64 (if (decide (((normB ar rs a 1 n).1) = ((normB ar rs b 1 n).1))) = true then 1 else 0)) (.tmp rfl .nil) rfl (FLe.refl _) (FLe.trans le1 le2) (Sub.drop (Sub.refl _)) ?_)
          exact ⟨(congrArg (Value.int .i64) (eqFin hra hrb2 hn0 (by simp_all) (by simp_all))), rfl, rfl⟩
end Go.Proofs.YtbooflphoaaoeaaGreat
