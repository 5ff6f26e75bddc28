/-
  Walks: words that are equal; the statement EqualBy.
-/
import Derived.Test.YtbooflphoaaoeaaGreatQlFt
import Derived.Test.YtbooflphoaaoeaaGreatP12
import Derived.Test.YtbooflphoaaoeaaGreatX14
set_option linter.unusedSimpArgs false
set_option linter.unusedVariables false
namespace Go.Proofs.YtbooflphoaaoeaaGreat
open Go X M

/- impl.wordOk$1 -/
theorem wordOk1_spec {F : FH} {L : List HP} {tv : Value} {t : List Int} (ht : IntsF F tv t) {arv : Value} {ar : List Int} (har : IntsF F arv ar) {rsv : Value} {rs : List (List Int × List Int)} (hrs : PairsF F rsv rs) {b : Nat} (hzb : FzC F b [arv, rsv]) :
    Does Tryz.prog 132 [tv, ptr b 0] F (L) (fun v F' L' => (.bool (!(termOk ar t)) : Value) = v ∧ F = F' ∧ L = L') := by
  refine Does.of_X Tryz.func132 rfl rfl rfl ?_
  refine X.seq ?_
  refine X.region ?_
  refine XL.cons (XOp.assign (.bool (false)) rfl ?_)
  refine XL.nil ?_
  refine X.seq ?_
  refine X.region ?_
  refine XL.cons (XOp.fieldP (b := b) (0) Tryz.runUnderlying37 rfl Tryz.sizeOf34 (by decide) rfl rfl ?_)
  refine XL.cons (XOp.loadN [arv] Tryz.isAgg34 Tryz.sizeOf34 rfl rfl (FzC.rdN (o := 0) hzb rfl) ?_)
  refine XL.cons (XOp.move (tv) rfl ?_)
  refine XL.cons (XOp.call (args := [.agg #[arv], tv]) Tryz.call133 rfl (TermOk_spec har ht) ?_)
  rintro _ _ _ _ ⟨rfl, rfl, rfl⟩
  refine XL.cons (XOp.notB (b := termOk ar t) rfl ?_)
  refine XL.cons (XOp.assign (.bool (!(termOk ar t))) rfl ?_)
  refine XL.nil ?_
  refine X.ret (retEnd (L' := L) [.bool (!(termOk ar t))] (.bool (!(termOk ar t))) (.tmp rfl .nil) rfl (FLe.refl _) (FLe.refl _) (Sub.refl _) ?_)
  exact ⟨rfl, rfl, rfl⟩

/- slices.IndexFunc[[][]int64,[]int64] -/
theorem IndexFuncWord_spec {F : FH} {L : List HP} {tsv : Value} {ts : List (List Int)} (hts : RowsF F tsv ts) {arv : Value} {ar : List Int} (har : IntsF F arv ar) {rsv : Value} {rs : List (List Int × List Int)} (hrs : PairsF F rsv rs) {b : Nat} (hzb : FzC F b [arv, rsv]) (hlt : ts.length ≤ 4000000) :
    Does Tryz.prog 83 [tsv, .func (.func 132) #[] #[ptr b 0]] F (L) (fun v F' L' => (.int .i64 (badIx ar ts) : Value) = v ∧ F = F' ∧ L = L') := by
  refine Does.of_X Tryz.func83 rfl rfl rfl ?_
  refine X.seq ?_
  refine X.region ?_
  refine XL.cons (XOp.assign (.int .i64 (0)) rfl ?_)
  refine XL.nil ?_
  refine X.seq ?_
  refine X.seq ?_
  refine X.region ?_
  refine XL.cons (XOp.move (tsv) rfl ?_)
  refine XL.cons (XOp.lenS (v := tsv) (n := (ts).length) Tryz.runUnderlying54 rfl hts.slv ?_)
  refine XL.cons (XOp.move (.int .i64 (0)) rfl ?_)
  refine XL.nil ?_
  refine X.block ?_
  refine X.loop (α := Nat) (fun k => [(0, tsv), (1, .func (.func 132) #[] #[ptr b 0]), (7, .int .i64 ((((ts).length : Nat) : Int))), (8, .int .i64 (((k : Nat) : Int)))]) (fun k => L) (fun k F' => F = F' ∧ (k ≤ ts.length) ∧ (∀ i, i < k → termOk ar (ts.getD i []) = true)) (fun k => ts.length - k) 0 ⟨rfl, rfl, rfl, rfl, trivial⟩ (Sub.refl _) ⟨rfl, (by (try dsimp only) <;> omega), (fun i hi => absurd hi (by omega))⟩ ?_
  rintro k rE _ _ ⟨rfl, hk, hall⟩
  show X _ _ _ _ (envs [(0, tsv), (1, .func (.func 132) #[] #[ptr b 0]), (7, .int .i64 ((((ts).length : Nat) : Int))), (8, .int .i64 (((k : Nat) : Int)))] rE) _ (L)
  refine X.seq ?_
  refine X.region ?_
  refine XL.cons (XOp.lss (a := ((k : Nat) : Int)) (b := (((ts).length : Nat) : Int)) rfl rfl ?_)
  refine XL.nil ?_
  refine X.seq ?_
  refine X.condD (p := (((k : Nat) : Int) : Int) < (((ts).length : Nat) : Int)) rfl (fun h1 => ?_) (fun h1 => ?_)
  · refine X.skip ?_
    refine X.seq ?_
    refine X.block ?_
    refine X.seq ?_
    refine X.region ?_
    refine XL.cons (XOp.move (.int .i64 (((k : Nat) : Int))) rfl ?_)
    refine XL.cons (XOp.assign (.int .i64 (((k : Nat) : Int))) rfl ?_)
    refine XL.nil ?_
    refine X.seq ?_
    refine X.region ?_
    refine XL.cons (XOp.move (.func (.func 132) #[] #[ptr b 0]) rfl ?_)
    refine XL.cons (XOp.move (tsv) rfl ?_)
    refine XL.cons (XOp.move (.int .i64 (((k : Nat) : Int))) rfl ?_)
    refine XL.cons (XOp.indexS (v := tsv) (i := ((k : Nat) : Int)) (n := (ts).length) k Tryz.runUnderlying54 Tryz.sizeOf22 rfl rfl rfl hts.slv (by omega) (Nat.mul_one _) ?_)
    obtain ⟨a1, ha1, hr1⟩ := hts.rd (i := k) (by omega)
    refine XL.cons (XOp.load1 (v := a1) Tryz.isAgg22 rfl (hr1 _) ?_)
    refine XL.cons (XOp.callV (first := []) (captured := [ptr b 0]) (args := [a1, ptr b 0]) Tryz.call132 rfl rfl (wordOk1_spec ha1 har hrs hzb) ?_)
    rintro _ _ _ _ ⟨rfl, rfl, rfl⟩
    refine XL.nil ?_
    refine X.cond (t := !(termOk ar ((ts.getD k [])))) rfl (fun h2 => ?_) (fun h2 => ?_)
    · refine X.seq ?_
      refine X.region ?_
      refine XL.cons (XOp.move (.int .i64 (((k : Nat) : Int))) rfl ?_)
      refine XL.cons (XOp.assign (.int .i64 (((k : Nat) : Int))) rfl ?_)
      refine XL.nil ?_
      refine X.ret (blockQ_ret (thenQ_ret (thenQ_ret (blockQ_ret (thenQ_ret (retEnd (L' := L) [.int .i64 (((k : Nat) : Int))] (.int .i64 (((k : Nat) : Int))) (.tmp rfl .nil) rfl (FLe.refl _) (FLe.refl _) (Sub.refl _) ?_))))))
      exact ⟨(congrArg (Value.int .i64) (badIx_at (by omega) (by simp_all) hall)), rfl, rfl⟩
    · refine X.skip ?_
      refine X.region ?_
      refine XL.cons (XOp.addR (a := ((k : Nat) : Int)) (b := 1) (((k + 1 : Nat) : Int)) rfl rfl (by omega) (by omega) ?_)
      refine XL.cons (XOp.move (.int .i64 (((k + 1 : Nat) : Int))) rfl ?_)
      refine XL.nil ?_
      exact ⟨k + 1, _, FLe.refl _, (FLe.refl _), ⟨rfl, rfl, rfl, rfl, trivial⟩, (Sub.refl _), ⟨rfl, (by (try dsimp only) <;> omega), (fun i hi => (Nat.lt_or_ge i k).elim (fun h => hall i h) (fun h => by obtain rfl : i = k := (by omega); simp_all))⟩, (by omega)⟩
  · refine X.exit (thenQ_exit (thenQ_exit (blockQ_exit ?_)))
    refine X.seq ?_
    refine X.region ?_
    refine XL.cons (XOp.assign (.int .i64 (-1)) rfl ?_)
    refine XL.nil ?_
    refine X.ret (retEnd (L' := L) [.int .i64 (-1)] (.int .i64 (-1)) (.tmp rfl .nil) rfl (FLe.refl _) (FLe.refl _) (Sub.refl _) ?_)
    exact ⟨(congrArg (Value.int .i64) (badIx_none (fun i hi => hall i (by omega)))), rfl, rfl⟩

/- slices.ContainsFunc[[][]int64,[]int64] -/
theorem ContainsFuncWord_spec {F : FH} {L : List HP} {tsv : Value} {ts : List (List Int)} (hts : RowsF F tsv ts) {arv : Value} {ar : List Int} (har : IntsF F arv ar) {rsv : Value} {rs : List (List Int × List Int)} (hrs : PairsF F rsv rs) {b : Nat} (hzb : FzC F b [arv, rsv]) (hlt : ts.length ≤ 4000000) :
    Does Tryz.prog 131 [tsv, .func (.func 132) #[] #[ptr b 0]] F (L) (fun v F' L' => (.bool (decide (badIx ar ts ≥ 0)) : Value) = v ∧ F = F' ∧ L = L') := by
  refine Does.of_X Tryz.func131 rfl rfl rfl ?_
  refine X.seq ?_
  refine X.region ?_
  refine XL.cons (XOp.assign (.bool (false)) rfl ?_)
  refine XL.nil ?_
  refine X.seq ?_
  refine X.region ?_
  refine XL.cons (XOp.move (tsv) rfl ?_)
  refine XL.cons (XOp.move (.func (.func 132) #[] #[ptr b 0]) rfl ?_)
  refine XL.cons (XOp.call (args := [tsv, .func (.func 132) #[] #[ptr b 0]]) Tryz.call83 rfl (IndexFuncWord_spec hts har hrs hzb (hlt := (by first | assumption | rfl | omega | (left; simp; done) | (right; simp; done)))) ?_)
  rintro _ _ _ _ ⟨rfl, rfl, rfl⟩
  refine XL.cons (XOp.geq (a := badIx ar ts) (b := 0) rfl rfl ?_)
  refine XL.cons (XOp.assign (.bool (decide ((badIx ar ts : Int) ≥ 0))) rfl ?_)
  refine XL.nil ?_
  refine X.ret (retEnd (L' := L) [.bool (decide ((badIx ar ts : Int) ≥ 0))] (.bool (decide ((badIx ar ts : Int) ≥ 0))) (.tmp rfl .nil) rfl (FLe.refl _) (FLe.refl _) (Sub.refl _) ?_)
  exact ⟨rfl, rfl, rfl⟩

/- impl.wordOk -/
theorem wordOk_spec {F : FH} {L : List HP} {arv : Value} {ar : List Int} (har : IntsF F arv ar) {rsv : Value} {rs : List (List Int × List Int)} (hrs : PairsF F rsv rs) {n : Int} {tsv : Value} {ts : List (List Int)} (hts : RowsF F tsv ts) (hlt : ts.length ≤ 4000000) :
    Does Tryz.prog 81 [.agg #[arv, rsv], .int .i64 (n), tsv] F (L) (fun v F' L' => (.bool (wordOkL ar rs n ts) : Value) = v ∧ F = F' ∧ L = L') := by
  refine Does.of_X Tryz.func81 rfl rfl rfl ?_
  refine X.seq ?_
  refine X.region ?_
  refine XL.cons (XOp.box [arv, rsv] rfl rfl ?_)
  intro b1
  refine XL.cons (XOp.assign (.bool (false)) rfl ?_)
  refine XL.nil ?_
  refine X.seq ?_
  refine X.seq ?_
  refine X.region ?_
  refine XL.cons (XOp.loadN [arv, rsv] Tryz.isAgg37 Tryz.sizeOf37 rfl rfl (Rd.ownN [] rfl rfl) ?_)
  refine XL.cons (XOp.call (args := [.agg #[arv, rsv]]) Tryz.call73 rfl (SystemOk_spec har hrs) ?_)
  rintro _ _ _ _ ⟨rfl, rfl, rfl⟩
  refine XL.cons (XOp.notB (b := sysOk ar rs) rfl ?_)
  refine XL.cons (XOp.move (.bool (!(sysOk ar rs))) rfl ?_)
  by_cases h1 : (!(sysOk ar rs)) = true
  · refine XL.no (t := 10) rfl (congrArg Value.bool h1) ?_
    refine XL.no (t := 10) rfl (congrArg Value.bool h1) ?_
    refine XL.cons (XOp.pickT (.bool (true)) (congrArg Value.bool h1) rfl ?_)
    refine XL.cons (XOp.move (.bool (true)) rfl ?_)
    refine XL.no (t := 14) rfl rfl ?_
    refine XL.no (t := 14) rfl rfl ?_
    refine XL.cons (XOp.pickT (.bool (true)) rfl rfl ?_)
    refine XL.nil ?_
    refine X.condT rfl ?_
    refine X.seq ?_
    refine X.region ?_
    refine XL.cons (XOp.assign (.bool (false)) rfl ?_)
    refine XL.nil ?_
    refine X.ret (thenQ_ret (retEnd (L' := L) [.bool (false)] (.bool (false)) (.tmp rfl .nil) rfl (FLe.refl _) (FLe.refl _) (Sub.drop (Sub.refl _)) ?_))
    exact ⟨(congrArg Value.bool (by unfold wordOkL; simp_all <;> omega)), rfl, rfl⟩
  · rw [Bool.not_eq_true] at h1
    refine XL.yes (t := 10) rfl (congrArg Value.bool h1) (XOp.move (.int .i64 (n)) rfl ?_)
    refine XL.yes (t := 10) rfl (congrArg Value.bool h1) (XOp.lss (a := n) (b := 0) rfl rfl ?_)
    refine XL.cons (XOp.pickF (.bool (decide ((n : Int) < 0))) (congrArg Value.bool h1) rfl ?_)
    refine XL.cons (XOp.move (.bool (decide ((n : Int) < 0))) rfl ?_)
    by_cases h2 : (n : Int) < 0
    · refine XL.no (t := 14) rfl (congrArg Value.bool (decide_eq_true h2)) ?_
      refine XL.no (t := 14) rfl (congrArg Value.bool (decide_eq_true h2)) ?_
      refine XL.cons (XOp.pickT (.bool (true)) (congrArg Value.bool (decide_eq_true h2)) rfl ?_)
      refine XL.nil ?_
      refine X.condT rfl ?_
      refine X.seq ?_
      refine X.region ?_
      refine XL.cons (XOp.assign (.bool (false)) rfl ?_)
      refine XL.nil ?_
      refine X.ret (thenQ_ret (retEnd (L' := L) [.bool (false)] (.bool (false)) (.tmp rfl .nil) rfl (FLe.refl _) (FLe.refl _) (Sub.drop (Sub.refl _)) ?_))
      exact ⟨(congrArg Value.bool (by unfold wordOkL; simp_all <;> omega)), rfl, rfl⟩
    · refine XL.yes (t := 14) rfl (congrArg Value.bool (decide_eq_false h2)) (XOp.move (.int .i64 (n)) rfl ?_)
      refine XL.yes (t := 14) rfl (congrArg Value.bool (decide_eq_false h2)) (XOp.gtr (a := n) (b := 60) rfl rfl ?_)
      refine XL.cons (XOp.pickF (.bool (decide ((n : Int) > 60))) (congrArg Value.bool (decide_eq_false h2)) rfl ?_)
      refine XL.nil ?_
      refine X.condD (p := (n : Int) > 60) rfl (fun h3 => ?_) (fun h3 => ?_)
      · refine X.seq ?_
        refine X.region ?_
        refine XL.cons (XOp.assign (.bool (false)) rfl ?_)
        refine XL.nil ?_
        refine X.ret (thenQ_ret (retEnd (L' := L) [.bool (false)] (.bool (false)) (.tmp rfl .nil) rfl (FLe.refl _) (FLe.refl _) (Sub.drop (Sub.refl _)) ?_))
        exact ⟨(congrArg Value.bool (by unfold wordOkL; simp_all <;> omega)), rfl, rfl⟩
      · refine X.skip ?_
        refine X.seq ?_
        refine X.region ?_
        refine XL.cons (XOp.move (tsv) rfl ?_)
        refine XL.cons (XOp.makeFuncL [] [ptr b1 0] rfl rfl ?_)
        refine XL.freeze [] _ _ rfl (fun F1 le1 hz1 => ?_)
        replace har := har.mono le1
        replace hrs := hrs.mono le1
        replace hts := hts.mono le1
        have hf1 : FzC F1 b1 [arv, rsv] := Fz.cells hz1
        refine XL.cons (XOp.call (args := [tsv, .func (.func 132) #[] #[ptr b1 0]]) Tryz.call131 rfl (ContainsFuncWord_spec hts har hrs hf1 (hlt := (by first | assumption | rfl | omega | (left; simp; done) | (right; simp; done)))) ?_)
        rintro _ _ _ _ ⟨rfl, rfl, rfl⟩
        refine XL.cons (XOp.notD (p := badIx ar ts ≥ 0) rfl ?_)
        refine XL.cons (XOp.assign (.bool (decide (¬(badIx ar ts ≥ 0)))) rfl ?_)
        refine XL.nil ?_
        refine X.ret (retEnd (L' := L) [.bool (decide (¬(badIx ar ts ≥ 0)))] (.bool (decide (¬(badIx ar ts ≥ 0)))) (.tmp rfl .nil) rfl (FLe.refl _) le1 (Sub.refl _) ?_)
        exact ⟨(congrArg Value.bool (by unfold wordOkL; have hb := badIx_iff (ar := ar) (ts := ts); cases hA : ts.all (termOk ar) <;> simp_all <;> omega)), rfl, rfl⟩

/- impl.normalOf -/
theorem normalOf_spec {F : FH} {L : List HP} {arv : Value} {ar : List Int} (har : IntsF F arv ar) {rsv : Value} {rs : List (List Int × List Int)} (hrs : PairsF F rsv rs) {tv : Value} {t : List Int} (ht : IntsF F tv t) {n : Nat} (hsys : sysOk ar rs = true) (ho : termOk ar t = true) (hn : n ≤ 60) :
    Does Tryz.prog 82 [.agg #[arv, rsv], tv, .int .i64 (((n : Nat) : Int))] F (L) (fun v F' L' => ∃ (a : Value), (.tuple #[a, .bool ((walkGo ar rs 1 n t).2)] : Value) = v ∧ (IntsF F' a (endL t (walkGo ar rs 1 n t).1)) ∧ L = L') := by
  refine Does.of_X Tryz.func82 rfl rfl rfl ?_
  have hwl := walkGo_len (ar := ar) (rs := rs) (st := 1) n t
  refine X.seq ?_
  refine X.region ?_
  refine XL.cons (XOp.box [arv, rsv] rfl rfl ?_)
  intro b1
  refine XL.cons (XOp.assign ((.slice none 0 0)) rfl ?_)
  refine XL.cons (XOp.assign (.bool (false)) rfl ?_)
  refine XL.nil ?_
  refine X.seq ?_
  refine X.region ?_
  refine XL.cons (XOp.loadN [arv, rsv] Tryz.isAgg37 Tryz.sizeOf37 rfl rfl (Rd.ownN [] rfl rfl) ?_)
  refine XL.cons (XOp.move (tv) rfl ?_)
  refine XL.cons (XOp.move (.int .i64 (((n : Nat) : Int))) rfl ?_)
  refine XL.cons (XOp.call (args := [.agg #[arv, rsv], tv, .int .i64 (1), .int .i64 ((n : Nat) : Int)]) Tryz.call56 rfl (walkBy_spec (st := 1) (n := n) har hrs ht (hsys := (by first | assumption | rfl | omega | (left; simp; done) | (right; simp; done))) (ho := (by first | assumption | rfl | omega | (left; simp; done) | (right; simp; done))) (hst := (by first | assumption | rfl | omega | (left; simp; done) | (right; simp; done))) (hn := (by first | assumption | rfl | omega | (left; simp; done) | (right; simp; done)))) ?_)
  rintro _ F1 _ le1 ⟨x1, x2, rfl, hr1, hr2, hr3, rfl⟩
  replace har := har.mono le1
  replace hrs := hrs.mono le1
  replace ht := ht.mono le1
  refine XL.cons (XOp.move (.tuple #[.agg #[x1, x2], .bool ((walkGo ar rs 1 n t).2)]) rfl ?_)
  refine XL.cons (XOp.extract (.agg #[x1, x2]) rfl rfl ?_)
  refine XL.cons (XOp.extract (.bool ((walkGo ar rs 1 n t).2)) rfl rfl ?_)
  refine XL.cons (XOp.alloc [(.slice none 0 0), (.slice none 0 0)] Tryz.zeroValue66 rfl ?_)
  intro b2
  refine XL.cons (XOp.storeN (vs := [x1, x2]) [] _ [x1, x2] Tryz.sizeOf66 rfl rfl rfl (ones_cons (one_sl (IntsF.isSl hr1)) (ones_cons (one_sl (StepsF.isSl hr2)) ones_nil)) rfl rfl rfl ?_)
  refine XL.cons (XOp.assign (.bool ((walkGo ar rs 1 n t).2)) rfl ?_)
  refine XL.nil ?_
  refine X.seq ?_
  refine X.region ?_
  refine XL.cons (XOp.loadN [x1, x2] Tryz.isAgg66 Tryz.sizeOf66 rfl rfl (Rd.ownN [] rfl rfl) ?_)
  refine XL.cons (XOp.call (args := [.agg #[x1, x2]]) Tryz.call134 rfl (walkEnd_spec hr1 hr2 (hlss := (by first | assumption | rfl | omega | (left; simp; done) | (right; simp; done)))) ?_)
  rintro _ _ _ _ ⟨rfl, x3, rfl, hr4, rfl⟩
  refine XL.cons (XOp.move (.bool ((walkGo ar rs 1 n t).2)) rfl ?_)
  refine XL.cons (XOp.assign (x3) rfl ?_)
  refine XL.cons (XOp.assign (.bool ((walkGo ar rs 1 n t).2)) rfl ?_)
  refine XL.nil ?_
  refine X.ret (retEnd (L' := L) [x3, .bool ((walkGo ar rs 1 n t).2)] (.tuple #[x3, .bool ((walkGo ar rs 1 n t).2)]) (.tmp rfl (.tmp rfl .nil)) rfl le1 (FLe.refl _) (Sub.drop (Sub.drop (Sub.refl _))) ?_)
  exact ⟨_, rfl, hr4, rfl⟩
end Go.Proofs.YtbooflphoaaoeaaGreat
