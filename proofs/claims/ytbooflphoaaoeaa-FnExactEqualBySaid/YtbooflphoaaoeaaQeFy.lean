/-
  Walks: words that are equal; the statement EqualBy.
-/
import Derived.Test.YtbooflphoaaoeaaQeFt
import Derived.Test.YtbooflphoaaoeaaP12
import Derived.Test.YtbooflphoaaoeaaX14
set_option linter.unusedSimpArgs false
set_option linter.unusedVariables false
namespace Go.Proofs.Ytbooflphoaaoeaa
open Go X M

/- impl.wordOk$1 -/
theorem wordOk1_spec {F : FH} {L : List HP} {tv : Value} {t : List Int} (ht : IntsF F tv t) {arv : Value} {ar : List Int} (har : IntsF F arv ar) {rsv : Value} {rs : List (List Int × List Int)} (hrs : PairsF F rsv rs) {b : Nat} (hzb : FzC F b [arv, rsv]) :
    Does Try.prog 99 [tv, ptr b 0] F (L) (fun v F' L' => (.bool (!(termOk ar t)) : Value) = v ∧ F = F' ∧ L = L') := by
  refine Does.of_X Try.func99 rfl rfl rfl ?_
  refine X.seq ?_
  refine X.region ?_
  refine XL.cons (XOp.assign (.bool (false)) rfl ?_)
  refine XL.nil ?_
  refine X.seq ?_
  refine X.region ?_
  refine XL.cons (XOp.fieldP (b := b) (0) Try.runUnderlying37 rfl Try.sizeOf34 (by decide) rfl rfl ?_)
  refine XL.cons (XOp.loadN [arv] Try.isAgg34 Try.sizeOf34 rfl rfl (FzC.rdN (o := 0) hzb rfl) ?_)
  refine XL.cons (XOp.move (tv) rfl ?_)
  refine XL.cons (XOp.call (args := [.agg #[arv], tv]) Try.call44 rfl (TermOk_spec har ht) ?_)
  rintro _ _ _ _ ⟨rfl, rfl, rfl⟩
  refine XL.cons (XOp.notB (b := termOk ar t) rfl ?_)
  refine XL.cons (XOp.assign (.bool (!(termOk ar t))) rfl ?_)
  refine XL.nil ?_
  refine X.ret (retEnd (L' := L) [.bool (!(termOk ar t))] (.bool (!(termOk ar t))) (.tmp rfl .nil) rfl (FLe.refl _) (FLe.refl _) (Sub.refl _) ?_)
  exact ⟨rfl, rfl, rfl⟩

/- slices.IndexFunc[[][]int64,[]int64] -/
theorem IndexFuncWord_spec {F : FH} {L : List HP} {tsv : Value} {ts : List (List Int)} (hts : RowsF F tsv ts) {arv : Value} {ar : List Int} (har : IntsF F arv ar) {rsv : Value} {rs : List (List Int × List Int)} (hrs : PairsF F rsv rs) {b : Nat} (hzb : FzC F b [arv, rsv]) (hlt : ts.length ≤ 4000000) :
    Does Try.prog 130 [tsv, .func (.func 99) #[] #[ptr b 0]] F (L) (fun v F' L' => (.int .i64 (badIx ar ts) : Value) = v ∧ F = F' ∧ L = L') := by
  refine Does.of_X Try.func130 rfl rfl rfl ?_
  refine X.seq ?_
  refine X.region ?_
  refine XL.cons (XOp.assign (.int .i64 (0)) rfl ?_)
  refine XL.nil ?_
  refine X.seq ?_
  refine X.seq ?_
  refine X.region ?_
  refine XL.cons (XOp.move (tsv) rfl ?_)
  refine XL.cons (XOp.lenS (v := tsv) (n := (ts).length) Try.runUnderlying52 rfl hts.slv ?_)
  refine XL.cons (XOp.move (.int .i64 (0)) rfl ?_)
  refine XL.nil ?_
  refine X.block ?_
  refine X.loop (α := Nat) (fun k => [(0, tsv), (1, .func (.func 99) #[] #[ptr b 0]), (7, .int .i64 ((((ts).length : Nat) : Int))), (8, .int .i64 (((k : Nat) : Int)))]) (fun k => L) (fun k F' => F = F' ∧ (k ≤ ts.length) ∧ (∀ i, i < k → termOk ar (ts.getD i []) = true)) (fun k => ts.length - k) 0 ⟨rfl, rfl, rfl, rfl, trivial⟩ (Sub.refl _) ⟨rfl, (by (try dsimp only) <;> omega), (fun i hi => absurd hi (by omega))⟩ ?_
  rintro k rE _ _ ⟨rfl, hk, hall⟩
  show X _ _ _ _ (envs [(0, tsv), (1, .func (.func 99) #[] #[ptr b 0]), (7, .int .i64 ((((ts).length : Nat) : Int))), (8, .int .i64 (((k : Nat) : Int)))] rE) _ (L)
  refine X.seq ?_
  refine X.region ?_
  refine XL.cons (XOp.lss (a := ((k : Nat) : Int)) (b := (((ts).length : Nat) : Int)) rfl rfl ?_)
  refine XL.nil ?_
  refine X.seq ?_
  refine X.condD (p := (((k : Nat) : Int) : Int) < (((ts).length : Nat) : Int)) rfl (fun h1 => ?_) (fun h1 => ?_)
  · refine X.skip ?_
    refine X.seq ?_
    refine X.block ?_
    refine X.seq ?_
    refine X.region ?_
    refine XL.cons (XOp.move (.int .i64 (((k : Nat) : Int))) rfl ?_)
    refine XL.cons (XOp.assign (.int .i64 (((k : Nat) : Int))) rfl ?_)
    refine XL.nil ?_
    refine X.seq ?_
    refine X.region ?_
    refine XL.cons (XOp.move (.func (.func 99) #[] #[ptr b 0]) rfl ?_)
    refine XL.cons (XOp.move (tsv) rfl ?_)
    refine XL.cons (XOp.move (.int .i64 (((k : Nat) : Int))) rfl ?_)
    refine XL.cons (XOp.indexS (v := tsv) (i := ((k : Nat) : Int)) (n := (ts).length) k Try.runUnderlying52 Try.sizeOf22 rfl rfl rfl hts.slv (by omega) (Nat.mul_one _) ?_)
    obtain ⟨a1, ha1, hr1⟩ := hts.rd (i := k) (by omega)
    refine XL.cons (XOp.load1 (v := a1) Try.isAgg22 rfl (hr1 _) ?_)
    refine XL.cons (XOp.callV (first := []) (captured := [ptr b 0]) (args := [a1, ptr b 0]) Try.call99 rfl rfl (wordOk1_spec ha1 har hrs hzb) ?_)
    rintro _ _ _ _ ⟨rfl, rfl, rfl⟩
    refine XL.nil ?_
    refine X.cond (t := !(termOk ar ((ts.getD k [])))) rfl (fun h2 => ?_) (fun h2 => ?_)
    · refine X.seq ?_
      refine X.region ?_
      refine XL.cons (XOp.move (.int .i64 (((k : Nat) : Int))) rfl ?_)
      refine XL.cons (XOp.assign (.int .i64 (((k : Nat) : Int))) rfl ?_)
      refine XL.nil ?_
      refine X.ret (blockQ_ret (thenQ_ret (thenQ_ret (blockQ_ret (thenQ_ret (retEnd (L' := L) [.int .i64 (((k : Nat) : Int))] (.int .i64 (((k : Nat) : Int))) (.tmp rfl .nil) rfl (FLe.refl _) (FLe.refl _) (Sub.refl _) ?_))))))
      exact ⟨(congrArg (Value.int .i64) (badIx_at (by omega) (by simp_all) hall)), rfl, rfl⟩
    · refine X.skip ?_
      refine X.region ?_
      refine XL.cons (XOp.addR (a := ((k : Nat) : Int)) (b := 1) (((k + 1 : Nat) : Int)) rfl rfl (by omega) (by omega) ?_)
      refine XL.cons (XOp.move (.int .i64 (((k + 1 : Nat) : Int))) rfl ?_)
      refine XL.nil ?_
      exact ⟨k + 1, _, FLe.refl _, (FLe.refl _), ⟨rfl, rfl, rfl, rfl, trivial⟩, (Sub.refl _), ⟨rfl, (by (try dsimp only) <;> omega), (fun i hi => (Nat.lt_or_ge i k).elim (fun h => hall i h) (fun h => by obtain rfl : i = k := (by omega); simp_all))⟩, (by omega)⟩
  · refine X.exit (thenQ_exit (thenQ_exit (blockQ_exit ?_)))
    refine X.seq ?_
    refine X.region ?_
    refine XL.cons (XOp.assign (.int .i64 (-1)) rfl ?_)
    refine XL.nil ?_
    refine X.ret (retEnd (L' := L) [.int .i64 (-1)] (.int .i64 (-1)) (.tmp rfl .nil) rfl (FLe.refl _) (FLe.refl _) (Sub.refl _) ?_)
    exact ⟨(congrArg (Value.int .i64) (badIx_none (fun i hi => hall i (by omega)))), rfl, rfl⟩

/- slices.ContainsFunc[[][]int64,[]int64] -/
theorem ContainsFuncWord_spec {F : FH} {L : List HP} {tsv : Value} {ts : List (List Int)} (hts : RowsF F tsv ts) {arv : Value} {ar : List Int} (har : IntsF F arv ar) {rsv : Value} {rs : List (List Int × List Int)} (hrs : PairsF F rsv rs) {b : Nat} (hzb : FzC F b [arv, rsv]) (hlt : ts.length ≤ 4000000) :
    Does Try.prog 98 [tsv, .func (.func 99) #[] #[ptr b 0]] F (L) (fun v F' L' => (.bool (decide (badIx ar ts ≥ 0)) : Value) = v ∧ F = F' ∧ L = L') := by
  refine Does.of_X Try.func98 rfl rfl rfl ?_
  refine X.seq ?_
  refine X.region ?_
  refine XL.cons (XOp.assign (.bool (false)) rfl ?_)
  refine XL.nil ?_
  refine X.seq ?_
  refine X.region ?_
  refine XL.cons (XOp.move (tsv) rfl ?_)
  refine XL.cons (XOp.move (.func (.func 99) #[] #[ptr b 0]) rfl ?_)
  refine XL.cons (XOp.call (args := [tsv, .func (.func 99) #[] #[ptr b 0]]) Try.call130 rfl (IndexFuncWord_spec hts har hrs hzb (hlt := (by first | assumption | rfl | omega | (left; simp; done) | (right; simp; done)))) ?_)
  rintro _ _ _ _ ⟨rfl, rfl, rfl⟩
  refine XL.cons (XOp.geq (a := badIx ar ts) (b := 0) rfl rfl ?_)
  refine XL.cons (XOp.assign (.bool (decide ((badIx ar ts : Int) ≥ 0))) rfl ?_)
  refine XL.nil ?_
  refine X.ret (retEnd (L' := L) [.bool (decide ((badIx ar ts : Int) ≥ 0))] (.bool (decide ((badIx ar ts : Int) ≥ 0))) (.tmp rfl .nil) rfl (FLe.refl _) (FLe.refl _) (Sub.refl _) ?_)
  exact ⟨rfl, rfl, rfl⟩

/- impl.wordOk -/
theorem wordOk_spec {F : FH} {L : List HP} {arv : Value} {ar : List Int} (har : IntsF F arv ar) {rsv : Value} {rs : List (List Int × List Int)} (hrs : PairsF F rsv rs) {n : Int} {tsv : Value} {ts : List (List Int)} (hts : RowsF F tsv ts) (hlt : ts.length ≤ 4000000) :
    Does Try.prog 58 [.agg #[arv, rsv], .int .i64 (n), tsv] F (L) (fun v F' L' => (.bool (wordOkL ar rs n ts) : Value) = v ∧ F = F' ∧ L = L') := by
  refine Does.of_X Try.func58 rfl rfl rfl ?_
  refine X.seq ?_
  refine X.region ?_
  refine XL.cons (XOp.box [arv, rsv] rfl rfl ?_)
  intro b1
  refine XL.cons (XOp.assign (.bool (false)) rfl ?_)
  refine XL.nil ?_
  refine X.seq ?_
  refine X.seq ?_
  refine X.region ?_
  refine XL.cons (XOp.loadN [arv, rsv] Try.isAgg37 Try.sizeOf37 rfl rfl (Rd.ownN [] rfl rfl) ?_)
  refine XL.cons (XOp.call (args := [.agg #[arv, rsv]]) Try.call43 rfl (SystemOk_spec har hrs) ?_)
  rintro _ _ _ _ ⟨rfl, rfl, rfl⟩
  refine XL.cons (XOp.notB (b := sysOk ar rs) rfl ?_)
  refine XL.cons (XOp.move (.bool (!(sysOk ar rs))) rfl ?_)
  by_cases h1 : (!(sysOk ar rs)) = true
  · refine XL.no (t := 10) rfl (congrArg Value.bool h1) ?_
    refine XL.no (t := 10) rfl (congrArg Value.bool h1) ?_
    refine XL.cons (XOp.pickT (.bool (true)) (congrArg Value.bool h1) rfl ?_)
    refine XL.cons (XOp.move (.bool (true)) rfl ?_)
    refine XL.no (t := 14) rfl rfl ?_
    refine XL.no (t := 14) rfl rfl ?_
    refine XL.cons (XOp.pickT (.bool (true)) rfl rfl ?_)
    refine XL.nil ?_
    refine X.condT rfl ?_
    refine X.seq ?_
    refine X.region ?_
    refine XL.cons (XOp.assign (.bool (false)) rfl ?_)
    refine XL.nil ?_
    refine X.ret (thenQ_ret (retEnd (L' := L) [.bool (false)] (.bool (false)) (.tmp rfl .nil) rfl (FLe.refl _) (FLe.refl _) (Sub.drop (Sub.refl _)) ?_))
    exact ⟨(congrArg Value.bool (by unfold wordOkL; simp_all <;> omega)), rfl, rfl⟩
  · rw [Bool.not_eq_true] at h1
    refine XL.yes (t := 10) rfl (congrArg Value.bool h1) (XOp.move (.int .i64 (n)) rfl ?_)
    refine XL.yes (t := 10) rfl (congrArg Value.bool h1) (XOp.lss (a := n) (b := 0) rfl rfl ?_)
    refine XL.cons (XOp.pickF (.bool (decide ((n : Int) < 0))) (congrArg Value.bool h1) rfl ?_)
    refine XL.cons (XOp.move (.bool (decide ((n : Int) < 0))) rfl ?_)
    by_cases h2 : (n : Int) < 0
    · refine XL.no (t := 14) rfl (congrArg Value.bool (decide_eq_true h2)) ?_
      refine XL.no (t := 14) rfl (congrArg Value.bool (decide_eq_true h2)) ?_
      refine XL.cons (XOp.pickT (.bool (true)) (congrArg Value.bool (decide_eq_true h2)) rfl ?_)
      refine XL.nil ?_
      refine X.condT rfl ?_
      refine X.seq ?_
      refine X.region ?_
      refine XL.cons (XOp.assign (.bool (false)) rfl ?_)
      refine XL.nil ?_
      refine X.ret (thenQ_ret (retEnd (L' := L) [.bool (false)] (.bool (false)) (.tmp rfl .nil) rfl (FLe.refl _) (FLe.refl _) (Sub.drop (Sub.refl _)) ?_))
      exact ⟨(congrArg Value.bool (by unfold wordOkL; simp_all <;> omega)), rfl, rfl⟩
    · refine XL.yes (t := 14) rfl (congrArg Value.bool (decide_eq_false h2)) (XOp.move (.int .i64 (n)) rfl ?_)
      refine XL.yes (t := 14) rfl (congrArg Value.bool (decide_eq_false h2)) (XOp.gtr (a := n) (b := 60) rfl rfl ?_)
      refine XL.cons (XOp.pickF (.bool (decide ((n : Int) > 60))) (congrArg Value.bool (decide_eq_false h2)) rfl ?_)
      refine XL.nil ?_
      refine X.condD (p := (n : Int) > 60) rfl (fun h3 => ?_) (fun h3 => ?_)
      · refine X.seq ?_
        refine X.region ?_
        refine XL.cons (XOp.assign (.bool (false)) rfl ?_)
        refine XL.nil ?_
        refine X.ret (thenQ_ret (retEnd (L' := L) [.bool (false)] (.bool (false)) (.tmp rfl .nil) rfl (FLe.refl _) (FLe.refl _) (Sub.drop (Sub.refl _)) ?_))
        exact ⟨(congrArg Value.bool (by unfold wordOkL; simp_all <;> omega)), rfl, rfl⟩
      · refine X.skip ?_
        refine X.seq ?_
        refine X.region ?_
        refine XL.cons (XOp.move (tsv) rfl ?_)
        refine XL.cons (XOp.makeFuncL [] [ptr b1 0] rfl rfl ?_)
        refine XL.freeze [] _ _ rfl (fun F1 le1 hz1 => ?_)
        replace har := har.mono le1
        replace hrs := hrs.mono le1
        replace hts := hts.mono le1
        have hf1 : FzC F1 b1 [arv, rsv] := Fz.cells hz1
        refine XL.cons (XOp.call (args := [tsv, .func (.func 99) #[] #[ptr b1 0]]) Try.call98 rfl (ContainsFuncWord_spec hts har hrs hf1 (hlt := (by first | assumption | rfl | omega | (left; simp; done) | (right; simp; done)))) ?_)
        rintro _ _ _ _ ⟨rfl, rfl, rfl⟩
        refine XL.cons (XOp.notD (p := badIx ar ts ≥ 0) rfl ?_)
        refine XL.cons (XOp.assign (.bool (decide (¬(badIx ar ts ≥ 0)))) rfl ?_)
        refine XL.nil ?_
        refine X.ret (retEnd (L' := L) [.bool (decide (¬(badIx ar ts ≥ 0)))] (.bool (decide (¬(badIx ar ts ≥ 0)))) (.tmp rfl .nil) rfl (FLe.refl _) le1 (Sub.refl _) ?_)
        exact ⟨(congrArg Value.bool (by unfold wordOkL; have hb := badIx_iff (ar := ar) (ts := ts); cases hA : ts.all (termOk ar) <;> simp_all <;> omega)), rfl, rfl⟩

/- impl.normalOf -/
theorem normalOf_spec {F : FH} {L : List HP} {arv : Value} {ar : List Int} (har : IntsF F arv ar) {rsv : Value} {rs : List (List Int × List Int)} (hrs : PairsF F rsv rs) {tv : Value} {t : List Int} (ht : IntsF F tv t) {n : Nat} (hsys : sysOk ar rs = true) (ho : termOk ar t = true) (hn : n ≤ 60) :
    Does Try.prog 102 [.agg #[arv, rsv], tv, .int .i64 (((n : Nat) : Int))] F (L) (fun v F' L' => ∃ (a : Value), (.tuple #[a, .bool ((walkGo ar rs 1 n t).2)] : Value) = v ∧ (IntsF F' a (endL t (walkGo ar rs 1 n t).1)) ∧ L = L') := by
  refine Does.of_X Try.func102 rfl rfl rfl ?_
  have hwl := walkGo_len (ar := ar) (rs := rs) (st := 1) n t
  refine X.seq ?_
  refine X.region ?_
  refine XL.cons (XOp.box [arv, rsv] rfl rfl ?_)
  intro b1
  refine XL.cons (XOp.assign ((.slice none 0 0)) rfl ?_)
  refine XL.cons (XOp.assign (.bool (false)) rfl ?_)
  refine XL.nil ?_
  refine X.seq ?_
  refine X.region ?_
  refine XL.cons (XOp.loadN [arv, rsv] Try.isAgg37 Try.sizeOf37 rfl rfl (Rd.ownN [] rfl rfl) ?_)
  refine XL.cons (XOp.move (tv) rfl ?_)
  refine XL.cons (XOp.move (.int .i64 (((n : Nat) : Int))) rfl ?_)
  refine XL.cons (XOp.call (args := [.agg #[arv, rsv], tv, .int .i64 (1), .int .i64 ((n : Nat) : Int)]) Try.call131 rfl (walkBy_spec (st := 1) (n := n) har hrs ht (hsys := (by first | assumption | rfl | omega | (left; simp; done) | (right; simp; done))) (ho := (by first | assumption | rfl | omega | (left; simp; done) | (right; simp; done))) (hst := (by first | assumption | rfl | omega | (left; simp; done) | (right; simp; done))) (hn := (by first | assumption | rfl | omega | (left; simp; done) | (right; simp; done)))) ?_)
  rintro _ F1 _ le1 ⟨x1, x2, rfl, hr1, hr2, hr3, rfl⟩
  replace har := har.mono le1
  replace hrs := hrs.mono le1
  replace ht := ht.mono le1
  refine XL.cons (XOp.move (.tuple #[.agg #[x1, x2], .bool ((walkGo ar rs 1 n t).2)]) rfl ?_)
  refine XL.cons (XOp.extract (.agg #[x1, x2]) rfl rfl ?_)
  refine XL.cons (XOp.extract (.bool ((walkGo ar rs 1 n t).2)) rfl rfl ?_)
  refine XL.cons (XOp.alloc [(.slice none 0 0), (.slice none 0 0)] Try.zeroValue31 rfl ?_)
  intro b2
  refine XL.cons (XOp.storeN (vs := [x1, x2]) [] _ [x1, x2] Try.sizeOf31 rfl rfl rfl (ones_cons (one_sl (IntsF.isSl hr1)) (ones_cons (one_sl (StepsF.isSl hr2)) ones_nil)) rfl rfl rfl ?_)
  refine XL.cons (XOp.assign (.bool ((walkGo ar rs 1 n t).2)) rfl ?_)
  refine XL.nil ?_
  refine X.seq ?_
  refine X.region ?_
  refine XL.cons (XOp.loadN [x1, x2] Try.isAgg31 Try.sizeOf31 rfl rfl (Rd.ownN [] rfl rfl) ?_)
  refine XL.cons (XOp.call (args := [.agg #[x1, x2]]) Try.call71 rfl (walkEnd_spec hr1 hr2 (hlss := (by first | assumption | rfl | omega | (left; simp; done) | (right; simp; done)))) ?_)
  rintro _ _ _ _ ⟨rfl, x3, rfl, hr4, rfl⟩
  refine XL.cons (XOp.move (.bool ((walkGo ar rs 1 n t).2)) rfl ?_)
  refine XL.cons (XOp.assign (x3) rfl ?_)
  refine XL.cons (XOp.assign (.bool ((walkGo ar rs 1 n t).2)) rfl ?_)
  refine XL.nil ?_
  refine X.ret (retEnd (L' := L) [x3, .bool ((walkGo ar rs 1 n t).2)] (.tuple #[x3, .bool ((walkGo ar rs 1 n t).2)]) (.tmp rfl (.tmp rfl .nil)) rfl le1 (FLe.refl _) (Sub.drop (Sub.drop (Sub.refl _))) ?_)
  exact ⟨_, rfl, hr4, rfl⟩

/- impl.equalBy$1 -/
theorem equalBy1_spec {F : FH} {L : List HP} {tv : Value} {t : List Int} (ht : IntsF F tv t) {arv : Value} {ar : List Int} (har : IntsF F arv ar) {rsv : Value} {rs : List (List Int × List Int)} (hrs : PairsF F rsv rs) {b : Nat} (hzb : FzC F b [arv, rsv]) {n : Nat} {c : Nat} (hzc : FzC F c [.int .i64 (((n : Nat) : Int))]) (hsys : sysOk ar rs = true) (ho : termOk ar t = true) (hn : n ≤ 60) :
    Does Try.prog 101 [tv, ptr b 0, ptr c 0] F (L) (fun v F' L' => ∃ (a : Value), (.tuple #[a, .bool ((walkGo ar rs 1 n t).2)] : Value) = v ∧ (IntsF F' a (endL t (walkGo ar rs 1 n t).1)) ∧ L = L') := by
  refine Does.of_X Try.func101 rfl rfl rfl ?_
  refine X.seq ?_
  refine X.region ?_
  refine XL.cons (XOp.assign ((.slice none 0 0)) rfl ?_)
  refine XL.cons (XOp.assign (.bool (false)) rfl ?_)
  refine XL.nil ?_
  refine X.seq ?_
  refine X.region ?_
  refine XL.cons (XOp.loadN [arv, rsv] Try.isAgg37 Try.sizeOf37 rfl rfl (FzC.rd hzb rfl) ?_)
  refine XL.cons (XOp.move (tv) rfl ?_)
  refine XL.cons (XOp.load1 (v := .int .i64 (((n : Nat) : Int))) Try.isAgg3 rfl (FzC.rd1 hzc rfl) ?_)
  refine XL.cons (XOp.call (args := [.agg #[arv, rsv], tv, .int .i64 ((n : Nat) : Int)]) Try.call102 rfl (normalOf_spec (n := n) har hrs ht (hsys := (by first | assumption | rfl | omega | (left; simp; done) | (right; simp; done))) (ho := (by first | assumption | rfl | omega | (left; simp; done) | (right; simp; done))) (hn := (by first | assumption | rfl | omega | (left; simp; done) | (right; simp; done)))) ?_)
  rintro _ F1 _ le1 ⟨x1, rfl, hr1, rfl⟩
  replace ht := ht.mono le1
  replace har := har.mono le1
  replace hrs := hrs.mono le1
  replace hzb := hzb.mono le1
  replace hzc := hzc.mono le1
  refine XL.cons (XOp.extract (x1) rfl rfl ?_)
  refine XL.cons (XOp.extract (.bool ((walkGo ar rs 1 n t).2)) rfl rfl ?_)
  refine XL.cons (XOp.assign (x1) rfl ?_)
  refine XL.cons (XOp.assign (.bool ((walkGo ar rs 1 n t).2)) rfl ?_)
  refine XL.nil ?_
  refine X.ret (retEnd (L' := L) [x1, .bool ((walkGo ar rs 1 n t).2)] (.tuple #[x1, .bool ((walkGo ar rs 1 n t).2)]) (.tmp rfl (.tmp rfl .nil)) rfl le1 (FLe.refl _) (Sub.refl _) ?_)
  exact ⟨_, rfl, hr1, rfl⟩

/- impl.both[[]int64] -/
theorem both_spec {F : FH} {L : List HP} {xv : Value} {x : List Int} (hx : IntsF F xv x) {yv : Value} {y : List Int} (hy : IntsF F yv y) {arv : Value} {ar : List Int} (har : IntsF F arv ar) {rsv : Value} {rs : List (List Int × List Int)} (hrs : PairsF F rsv rs) {b : Nat} (hzb : FzC F b [arv, rsv]) {n : Nat} {c : Nat} (hzc : FzC F c [.int .i64 (((n : Nat) : Int))]) (hsys : sysOk ar rs = true) (hox : termOk ar x = true) (hoy : termOk ar y = true) (hn : n ≤ 60) :
    Does Try.prog 100 [xv, yv, .func (.func 101) #[] #[ptr b 0, ptr c 0]] F (L) (fun v F' L' => ∃ (a : Value), ∃ (d : Value), (.tuple #[a, d, .bool (((walkGo ar rs 1 n x).2 && (walkGo ar rs 1 n y).2))] : Value) = v ∧ (IntsF F' a (endL x (walkGo ar rs 1 n x).1)) ∧ (IntsF F' d (endL y (walkGo ar rs 1 n y).1)) ∧ L = L') := by
  refine Does.of_X Try.func100 rfl rfl rfl ?_
  refine X.seq ?_
  refine X.region ?_
  refine XL.cons (XOp.assign ((.slice none 0 0)) rfl ?_)
  refine XL.cons (XOp.assign ((.slice none 0 0)) rfl ?_)
  refine XL.cons (XOp.assign (.bool (false)) rfl ?_)
  refine XL.nil ?_
  refine X.seq ?_
  refine X.region ?_
  refine XL.cons (XOp.move (.func (.func 101) #[] #[ptr b 0, ptr c 0]) rfl ?_)
  refine XL.cons (XOp.move (xv) rfl ?_)
  refine XL.cons (XOp.callV (first := []) (captured := [ptr b 0, ptr c 0]) (args := [xv, ptr b 0, ptr c 0]) Try.call101 rfl rfl (equalBy1_spec hx har hrs hzb hzc (hsys := (by first | assumption | rfl | omega | (left; simp; done) | (right; simp; done))) (ho := (by first | assumption | rfl | omega | (left; simp; done) | (right; simp; done))) (hn := (by first | assumption | rfl | omega | (left; simp; done) | (right; simp; done)))) ?_)
  rintro _ F1 _ le1 ⟨x1, rfl, hr1, rfl⟩
  replace hx := hx.mono le1
  replace hy := hy.mono le1
  replace har := har.mono le1
  replace hrs := hrs.mono le1
  replace hzb := hzb.mono le1
  replace hzc := hzc.mono le1
  refine XL.cons (XOp.move (.tuple #[x1, .bool ((walkGo ar rs 1 n x).2)]) rfl ?_)
  refine XL.cons (XOp.extract (x1) rfl rfl ?_)
  refine XL.cons (XOp.extract (.bool ((walkGo ar rs 1 n x).2)) rfl rfl ?_)
  refine XL.cons (XOp.assign (x1) rfl ?_)
  refine XL.cons (XOp.assign (.bool ((walkGo ar rs 1 n x).2)) rfl ?_)
  refine XL.nil ?_
  refine X.seq ?_
  refine X.region ?_
  refine XL.cons (XOp.move (.func (.func 101) #[] #[ptr b 0, ptr c 0]) rfl ?_)
  refine XL.cons (XOp.move (yv) rfl ?_)
  refine XL.cons (XOp.callV (first := []) (captured := [ptr b 0, ptr c 0]) (args := [yv, ptr b 0, ptr c 0]) Try.call101 rfl rfl (equalBy1_spec hy har hrs hzb hzc (hsys := (by first | assumption | rfl | omega | (left; simp; done) | (right; simp; done))) (ho := (by first | assumption | rfl | omega | (left; simp; done) | (right; simp; done))) (hn := (by first | assumption | rfl | omega | (left; simp; done) | (right; simp; done)))) ?_)
  rintro _ F2 _ le2 ⟨x2, rfl, hr2, rfl⟩
  replace hx := hx.mono le2
  replace hy := hy.mono le2
  replace har := har.mono le2
  replace hrs := hrs.mono le2
  replace hzb := hzb.mono le2
  replace hzc := hzc.mono le2
  replace hr1 := hr1.mono le2
  refine XL.cons (XOp.move (.tuple #[x2, .bool ((walkGo ar rs 1 n y).2)]) rfl ?_)
  refine XL.cons (XOp.extract (x2) rfl rfl ?_)
  refine XL.cons (XOp.extract (.bool ((walkGo ar rs 1 n y).2)) rfl rfl ?_)
  refine XL.cons (XOp.assign (x2) rfl ?_)
  refine XL.cons (XOp.assign (.bool ((walkGo ar rs 1 n y).2)) rfl ?_)
  refine XL.nil ?_
  refine X.seq ?_
  refine X.region ?_
  refine XL.cons (XOp.move (x1) rfl ?_)
  refine XL.cons (XOp.move (x2) rfl ?_)
  refine XL.cons (XOp.move (.bool ((walkGo ar rs 1 n x).2)) rfl ?_)
  refine XL.cons (XOp.move (.bool ((walkGo ar rs 1 n x).2)) rfl ?_)
  by_cases h1 : ((walkGo ar rs 1 n x).2) = true
  · refine XL.yes (t := 28) rfl (congrArg Value.bool h1) (XOp.move (.bool ((walkGo ar rs 1 n y).2)) rfl ?_)
    refine XL.cons (XOp.pickT (.bool ((walkGo ar rs 1 n y).2)) (congrArg Value.bool h1) rfl ?_)
    refine XL.cons (XOp.assign (x1) rfl ?_)
    refine XL.cons (XOp.assign (x2) rfl ?_)
    refine XL.cons (XOp.assign (.bool ((walkGo ar rs 1 n y).2)) rfl ?_)
    refine XL.nil ?_
    refine X.ret (retEnd (L' := L) [x1, x2, .bool ((walkGo ar rs 1 n y).2)] (.tuple #[x1, x2, .bool ((walkGo ar rs 1 n y).2)]) (.tmp rfl (.tmp rfl (.tmp rfl .nil))) rfl (FLe.trans le1 le2) (FLe.refl _) (Sub.refl _) ?_)
    exact ⟨_, _, by first | rfl | (rw [‹(walkGo ar rs 1 n x).2 = _›]; rfl), hr1, hr2, rfl⟩
  · rw [Bool.not_eq_true] at h1
    refine XL.no (t := 28) rfl (congrArg Value.bool h1) ?_
    refine XL.cons (XOp.pickF (.bool (false)) (congrArg Value.bool h1) rfl ?_)
    refine XL.cons (XOp.assign (x1) rfl ?_)
    refine XL.cons (XOp.assign (x2) rfl ?_)
    refine XL.cons (XOp.assign (.bool (false)) rfl ?_)
    refine XL.nil ?_
    refine X.ret (retEnd (L' := L) [x1, x2, .bool (false)] (.tuple #[x1, x2, .bool (false)]) (.tmp rfl (.tmp rfl (.tmp rfl .nil))) rfl (FLe.trans le1 le2) (FLe.refl _) (Sub.refl _) ?_)
    exact ⟨_, _, by first | rfl | (rw [‹(walkGo ar rs 1 n x).2 = _›]; rfl), hr1, hr2, rfl⟩

/- impl.equalBy -/
theorem equalBy_spec {F : FH} {L : List HP} {arv : Value} {ar : List Int} (har : IntsF F arv ar) {rsv : Value} {rs : List (List Int × List Int)} (hrs : PairsF F rsv rs) {av : Value} {a : List Int} (ha : IntsF F av a) {bv : Value} {b : List Int} (hb : IntsF F bv b) {n : Nat} (hsys : sysOk ar rs = true) (hoa : termOk ar a = true) (hob : termOk ar b = true) (hn : n ≤ 60) :
    Does Try.prog 59 [.agg #[arv, rsv], av, bv, .int .i64 (((n : Nat) : Int))] F (L) (fun v F' L' => (.int .i64 (eqN ar rs a b n) : Value) = v ∧ F = F' ∧ L = L') := by
  refine Does.of_X Try.func59 rfl rfl rfl ?_
  have hwa := walkGo_ok (ar := ar) (rs := rs) (st := 1) n a (right_iff.2 ⟨hsys, hoa⟩)
  have hwb := walkGo_ok (ar := ar) (rs := rs) (st := 1) n b (right_iff.2 ⟨hsys, hob⟩)
  have hla := termOk_len (right_iff.1 hwa.2.1).2
  have hlb := termOk_len (right_iff.1 hwb.2.1).2
  refine X.seq ?_
  refine X.region ?_
  refine XL.cons (XOp.box [arv, rsv] rfl rfl ?_)
  intro b1
  refine XL.cons (XOp.box [.int .i64 (((n : Nat) : Int))] rfl rfl ?_)
  intro b2
  refine XL.cons (XOp.assign (.int .i64 (0)) rfl ?_)
  refine XL.nil ?_
  refine X.seq ?_
  refine X.region ?_
  refine XL.cons (XOp.move (av) rfl ?_)
  refine XL.cons (XOp.move (bv) rfl ?_)
  refine XL.cons (XOp.makeFuncL [] [ptr b1 0, ptr b2 0] rfl rfl ?_)
  refine XL.freeze [_] _ _ rfl (fun F1 le1 hz1 => ?_)
  replace har := har.mono le1
  replace hrs := hrs.mono le1
  replace ha := ha.mono le1
  replace hb := hb.mono le1
  have hf1 : FzC F1 b1 [arv, rsv] := Fz.cells hz1
  refine XL.freeze [] _ _ rfl (fun F2 le2 hz2 => ?_)
  replace har := har.mono le2
  replace hrs := hrs.mono le2
  replace ha := ha.mono le2
  replace hb := hb.mono le2
  replace hf1 := hf1.mono le2
  have hf2 : FzC F2 b2 [.int .i64 (((n : Nat) : Int))] := Fz.cells hz2
  refine XL.cons (XOp.call (args := [av, bv, .func (.func 101) #[] #[ptr b1 0, ptr b2 0]]) Try.call100 rfl (both_spec ha hb har hrs hf1 hf2 (hsys := (by first | assumption | rfl | omega | (left; simp; done) | (right; simp; done))) (hox := (by first | assumption | rfl | omega | (left; simp; done) | (right; simp; done))) (hoy := (by first | assumption | rfl | omega | (left; simp; done) | (right; simp; done))) (hn := (by first | assumption | rfl | omega | (left; simp; done) | (right; simp; done)))) ?_)
  rintro _ F3 _ le3 ⟨x1, x2, rfl, hr1, hr2, rfl⟩
  replace har := har.mono le3
  replace hrs := hrs.mono le3
  replace ha := ha.mono le3
  replace hb := hb.mono le3
  replace hf1 := hf1.mono le3
  replace hf2 := hf2.mono le3
  refine XL.cons (XOp.move (.tuple #[x1, x2, .bool (((walkGo ar rs 1 n a).2 && (walkGo ar rs 1 n b).2))]) rfl ?_)
  refine XL.cons (XOp.extract (x1) rfl rfl ?_)
  refine XL.cons (XOp.extract (x2) rfl rfl ?_)
  refine XL.cons (XOp.extract (.bool (((walkGo ar rs 1 n a).2 && (walkGo ar rs 1 n b).2))) rfl rfl ?_)
  refine XL.cons (XOp.assign (x1) rfl ?_)
  refine XL.cons (XOp.assign (x2) rfl ?_)
  refine XL.cons (XOp.assign (.bool (((walkGo ar rs 1 n a).2 && (walkGo ar rs 1 n b).2))) rfl ?_)
  refine XL.nil ?_
  refine X.seq ?_
  refine X.block ?_
  refine X.seq ?_
  refine X.region ?_
  refine XL.cons (XOp.move (.bool (((walkGo ar rs 1 n a).2 && (walkGo ar rs 1 n b).2))) rfl ?_)
  refine XL.cons (XOp.notB (b := ((walkGo ar rs 1 n a).2 && (walkGo ar rs 1 n b).2)) rfl ?_)
  refine XL.cons (XOp.assign (.bool (!(((walkGo ar rs 1 n a).2 && (walkGo ar rs 1 n b).2)))) rfl ?_)
  refine XL.nil ?_
  refine X.cond (t := !(((walkGo ar rs 1 n a).2 && (walkGo ar rs 1 n b).2))) rfl (fun h1 => ?_) (fun h1 => ?_)
  · refine X.seq ?_
    refine X.region ?_
    refine XL.cons (XOp.assign (.int .i64 (-1)) rfl ?_)
    refine XL.nil ?_
    refine X.ret (blockQ_ret (thenQ_ret (retEnd (L' := L) [.int .i64 (-1)] (.int .i64 (-1)) (.tmp rfl .nil) rfl (FLe.refl _) (FLe.trans (FLe.trans le1 le2) le3) (Sub.refl _) ?_)))
    exact ⟨(congrArg (Value.int .i64) (by rw [eqN, if_neg (fun h => by simp_all)])), rfl, rfl⟩
  · refine X.seq ?_
    refine X.region ?_
    refine XL.cons (XOp.move (x1) rfl ?_)
    refine XL.cons (XOp.move (x2) rfl ?_)
    refine XL.cons (XOp.call (args := [x1, x2]) Try.call70 rfl (Equal_spec hr1 hr2 (hbd := (by first | assumption | rfl | omega | (left; simp; done) | (right; simp; done)))) ?_)
    rintro _ _ _ _ ⟨rfl, rfl, rfl⟩
    refine XL.cons (XOp.assign (.bool (decide ((endL a (walkGo ar rs 1 n a).1) = (endL b (walkGo ar rs 1 n b).1)))) rfl ?_)
    refine XL.nil ?_
    refine X.condD (p := (endL a (walkGo ar rs 1 n a).1) = (endL b (walkGo ar rs 1 n b).1)) rfl (fun h2 => ?_) (fun h2 => ?_)
    · refine X.seq ?_
      refine X.region ?_
      refine XL.cons (XOp.assign (.int .i64 (1)) rfl ?_)
      refine XL.nil ?_
      refine X.ret (blockQ_ret (thenQ_ret (retEnd (L' := L) [.int .i64 (1)] (.int .i64 (1)) (.tmp rfl .nil) rfl (FLe.refl _) (FLe.trans (FLe.trans le1 le2) le3) (Sub.refl _) ?_)))
      exact ⟨(congrArg (Value.int .i64) (by rw [eqN, if_pos (by simp_all), if_pos (by assumption)])), rfl, rfl⟩
    · refine X.skip ?_
      refine X.seq ?_
      refine X.region ?_
      refine XL.cons (XOp.assign (.int .i64 (0)) rfl ?_)
      refine XL.nil ?_
      refine X.ret (retEnd (L' := L) [.int .i64 (0)] (.int .i64 (0)) (.tmp rfl .nil) rfl (FLe.refl _) (FLe.trans (FLe.trans le1 le2) le3) (Sub.refl _) ?_)
      exact ⟨(congrArg (Value.int .i64) (by rw [eqN, if_pos (by simp_all), if_neg (by assumption)])), rfl, rfl⟩

/- impl.EqualBy -/
theorem EqualBy_spec {F : FH} {L : List HP} {arv : Value} {ar : List Int} (har : IntsF F arv ar) {rsv : Value} {rs : List (List Int × List Int)} (hrs : PairsF F rsv rs) {av : Value} {a : List Int} (ha : IntsF F av a) {bv : Value} {b : List Int} (hb : IntsF F bv b) {n : Int} :
    Does Try.prog 21 [.agg #[arv, rsv], av, bv, .int .i64 (n)] F (L) (fun v F' L' => (.int .i64 (eqB ar rs a b n) : Value) = v ∧ F = F' ∧ L = L') := by
  refine Does.of_X Try.func21 rfl rfl rfl ?_
  refine X.seq ?_
  refine X.region ?_
  refine XL.cons (XOp.box [arv, rsv] rfl rfl ?_)
  intro b1
  refine XL.cons (XOp.assign (.int .i64 (0)) rfl ?_)
  refine XL.nil ?_
  refine X.seq ?_
  refine X.seq ?_
  refine X.region ?_
  refine XL.cons (XOp.loadN [arv, rsv] Try.isAgg37 Try.sizeOf37 rfl rfl (Rd.ownN [] rfl rfl) ?_)
  refine XL.cons (XOp.move (.int .i64 (n)) rfl ?_)
  refine XL.cons (XOp.move (av) rfl ?_)
  refine XL.cons (XOp.move (bv) rfl ?_)
  refine XL.cons (XOp.buildSlice (s := 1) [av, bv] [(.slice none 0 0)] [(0, [av]), (1, [bv])] Try.runUnderlying52 Try.sizeOf22 Try.zeroValue22 rfl (by decide) rfl (.cons (cells_one (IntsF.isSl ha)) (.cons (cells_one (IntsF.isSl hb)) CellsAre.nil)) rfl ?_)
  intro v1 hv1
  have hc1 : RowsC F [av, bv] ([a, b] : List (List Int)) := (RowsC.snoc (RowsC.snoc (CO.nil : RowsC F [] []) ha) hb)
  refine XL.freezeF [] _ _ rfl (fun F1 le1 hz1 => ?_)
  replace har := har.mono le1
  replace hrs := hrs.mono le1
  replace ha := ha.mono le1
  replace hb := hb.mono le1
  replace hc1 := hc1.mono le1
  have hf1 : RowsF F1 v1 (([a, b] : List (List Int))) := CO.fz hc1 (by first | rfl | simp | omega) hz1.fz
  refine XL.cons (XOp.call (args := [.agg #[arv, rsv], .int .i64 (n), v1]) Try.call58 rfl (wordOk_spec (n := n) har hrs hf1 (hlt := (by first | assumption | rfl | omega | (left; simp; done) | (right; simp; done)))) ?_)
  rintro _ _ _ _ ⟨rfl, rfl, rfl⟩
  refine XL.cons (XOp.notB (b := wordOkL ar rs n (([a, b] : List (List Int)))) rfl ?_)
  refine XL.nil ?_
  refine X.cond (t := !(wordOkL ar rs n (([a, b] : List (List Int))))) rfl (fun h1 => ?_) (fun h1 => ?_)
  · refine X.seq ?_
    refine X.region ?_
    refine XL.cons (XOp.assign (.int .i64 (-1)) rfl ?_)
    refine XL.nil ?_
    refine X.ret (thenQ_ret (retEnd (L' := L) [.int .i64 (-1)] (.int .i64 (-1)) (.tmp rfl .nil) rfl (FLe.refl _) le1 (Sub.drop (Sub.refl _)) ?_))
    exact ⟨(congrArg (Value.int .i64) (by rw [eqB, if_neg]; intro h; have h1 := right_iff.1 h.1.1; have h2 := right_iff.1 h.1.2; simp_all [wordOkL] <;> omega)), rfl, rfl⟩
  · have hwo : wordOkL ar rs n [a, b] = true := by simpa using h1
    unfold wordOkL at hwo
    simp only [Bool.and_eq_true, decide_eq_true_eq, List.all_cons, List.all_nil] at hwo
    obtain ⟨⟨hsys, hn0⟩, hoa, hob, _⟩ := hwo
    refine X.skip ?_
    refine X.seq ?_
    refine X.region ?_
    refine XL.cons (XOp.loadN [arv, rsv] Try.isAgg37 Try.sizeOf37 rfl rfl (Rd.ownN [] rfl rfl) ?_)
    refine XL.cons (XOp.move (av) rfl ?_)
    refine XL.cons (XOp.move (bv) rfl ?_)
    refine XL.cons (XOp.move (.int .i64 (n)) rfl ?_)
    refine XL.cons (XOp.call (args := [.agg #[arv, rsv], av, bv, .int .i64 (((n).toNat : Nat) : Int)]) Try.call59 (by rw [show (((n).toNat : Nat) : Int) = n from by omega]; rfl) (equalBy_spec (n := (n).toNat) har hrs ha hb (hsys := (by first | assumption | rfl | omega | (left; simp; done) | (right; simp; done))) (hoa := (by first | assumption | rfl | omega | (left; simp; done) | (right; simp; done))) (hob := (by first | assumption | rfl | omega | (left; simp; done) | (right; simp; done))) (hn := (by first | assumption | rfl | omega | (left; simp; done) | (right; simp; done)))) ?_)
    rintro _ _ _ _ ⟨rfl, rfl, rfl⟩
    refine XL.cons (XOp.assign (.int .i64 (eqN ar rs a b ((n).toNat))) rfl ?_)
    refine XL.nil ?_
    refine X.ret (retEnd (L' := L) [.int .i64 (eqN ar rs a b ((n).toNat))] (.int .i64 (eqN ar rs a b ((n).toNat))) (.tmp rfl .nil) rfl (FLe.refl _) le1 (Sub.drop (Sub.refl _)) ?_)
    exact ⟨(congrArg (Value.int .i64) (by rw [eqB, if_pos ⟨⟨right_iff.2 ⟨hsys, hoa⟩, right_iff.2 ⟨hsys, hob⟩⟩, hn0⟩])), rfl, rfl⟩

/- spec.l22Right -/
theorem l22Right_spec {F : FH} {L : List HP} {arv : Value} {ar : List Int} (har : IntsF F arv ar) {rsv : Value} {rs : List (List Int × List Int)} (hrs : PairsF F rsv rs) {tv : Value} {t : List Int} (ht : IntsF F tv t) {n : Int} (hla : ar.length ≤ 4000000) (hlr : rs.length ≤ 4000000) (hrb : ∀ i, i < rs.length → (rs.getD i ([], [])).1.length ≤ 4000000 ∧ (rs.getD i ([], [])).2.length ≤ 4000000) (hlt : t.length ≤ 4000000) :
    Does Try.prog 54 [.agg #[arv, rsv], tv, .int .i64 (n)] F (L) (fun v F' L' => (.bool ((rightB ar rs t && decide (0 ≤ n ∧ n ≤ 60))) : Value) = v ∧ F = F' ∧ L = L') := by
  refine Does.of_X Try.func54 rfl rfl rfl ?_
  refine X.seq ?_
  refine X.region ?_
  refine XL.cons (XOp.box [arv, rsv] rfl rfl ?_)
  intro b1
  refine XL.cons (XOp.assign (.bool (false)) rfl ?_)
  refine XL.nil ?_
  refine X.seq ?_
  refine X.region ?_
  refine XL.cons (XOp.loadN [arv, rsv] Try.isAgg37 Try.sizeOf37 rfl rfl (Rd.ownN [] rfl rfl) ?_)
  refine XL.cons (XOp.move (tv) rfl ?_)
  refine XL.cons (XOp.call (args := [.agg #[arv, rsv], tv]) Try.call38 rfl (l7Right_spec har hrs ht (hla := (by first | assumption | rfl | omega | (left; simp; done) | (right; simp; done))) (hlr := (by first | assumption | rfl | omega | (left; simp; done) | (right; simp; done))) (hrb := (by first | assumption | rfl | omega | (left; simp; done) | (right; simp; done))) (hlt := (by first | assumption | rfl | omega | (left; simp; done) | (right; simp; done)))) ?_)
  rintro _ _ _ _ ⟨rfl, rfl, rfl⟩
  refine XL.cons (XOp.move (.bool (rightB ar rs t)) rfl ?_)
  by_cases h1 : (rightB ar rs t) = true
  · refine XL.yes (t := 10) rfl (congrArg Value.bool h1) (XOp.move (.int .i64 (n)) rfl ?_)
    refine XL.yes (t := 10) rfl (congrArg Value.bool h1) (XOp.call (args := [.int .i64 (n), .int .i64 (0), .int .i64 (60)]) Try.call64 rfl (l1In_spec (n := n) (a := 0) (b := 60)) ?_)
    rintro _ _ _ _ ⟨rfl, rfl, rfl⟩
    refine XL.cons (XOp.pickT (.bool (decide (0 ≤ n ∧ n ≤ 60))) (congrArg Value.bool h1) rfl ?_)
    refine XL.cons (XOp.assign (.bool (decide (0 ≤ n ∧ n ≤ 60))) rfl ?_)
    refine XL.nil ?_
    refine X.ret (retEnd (L' := L) [.bool (decide (0 ≤ n ∧ n ≤ 60))] (.bool (decide (0 ≤ n ∧ n ≤ 60))) (.tmp rfl .nil) rfl (FLe.refl _) (FLe.refl _) (Sub.drop (Sub.refl _)) ?_)
    exact ⟨(congrArg Value.bool (by simp_all)), rfl, rfl⟩
  · rw [Bool.not_eq_true] at h1
    refine XL.no (t := 10) rfl (congrArg Value.bool h1) ?_
    refine XL.no (t := 10) rfl (congrArg Value.bool h1) ?_
    refine XL.cons (XOp.pickF (.bool (false)) (congrArg Value.bool h1) rfl ?_)
    refine XL.cons (XOp.assign (.bool (false)) rfl ?_)
    refine XL.nil ?_
    refine X.ret (retEnd (L' := L) [.bool (false)] (.bool (false)) (.tmp rfl .nil) rfl (FLe.refl _) (FLe.refl _) (Sub.drop (Sub.refl _)) ?_)
    exact ⟨(congrArg Value.bool (by simp_all)), rfl, rfl⟩

/- spec.l1Flag -/
theorem l1Flag_spec {F : FH} {L : List HP} {q : Bool} :
    Does Try.prog 56 [.bool (q)] F (L) (fun v F' L' => (.int .i64 (if q = true then 1 else 0) : Value) = v ∧ F = F' ∧ L = L') := by
  refine Does.of_X Try.func56 rfl rfl rfl ?_
  refine X.seq ?_
  refine X.region ?_
  refine XL.cons (XOp.assign (.int .i64 (0)) rfl ?_)
  refine XL.nil ?_
  refine X.seq ?_
  refine X.seq ?_
  refine X.region ?_
  refine XL.cons (XOp.move (.bool (q)) rfl ?_)
  refine XL.nil ?_
  refine X.cond (t := q) rfl (fun h1 => ?_) (fun h1 => ?_)
  · refine X.seq ?_
    refine X.region ?_
    refine XL.cons (XOp.assign (.int .i64 (1)) rfl ?_)
    refine XL.nil ?_
    refine X.ret (thenQ_ret (retEnd (L' := L) [.int .i64 (1)] (.int .i64 (1)) (.tmp rfl .nil) rfl (FLe.refl _) (FLe.refl _) (Sub.refl _) ?_))
    exact ⟨(congrArg (Value.int .i64) (by rw [if_pos (by assumption)])), rfl, rfl⟩
  · refine X.skip ?_
    refine X.seq ?_
    refine X.region ?_
    refine XL.cons (XOp.assign (.int .i64 (0)) rfl ?_)
    refine XL.nil ?_
    refine X.ret (retEnd (L' := L) [.int .i64 (0)] (.int .i64 (0)) (.tmp rfl .nil) rfl (FLe.refl _) (FLe.refl _) (Sub.refl _) ?_)
    exact ⟨(congrArg (Value.int .i64) (by rw [if_neg (by simp_all)])), rfl, rfl⟩

/- spec.EqualBy -/
theorem sEqualBy_spec {F : FH} {L : List HP} {arv : Value} {ar : List Int} (har : IntsF F arv ar) {rsv : Value} {rs : List (List Int × List Int)} (hrs : PairsF F rsv rs) {av : Value} {a : List Int} (ha : IntsF F av a) {bv : Value} {b : List Int} (hb : IntsF F bv b) {n : Int} (hla : ar.length ≤ 4000000) (hlr : rs.length ≤ 4000000) (hrb : ∀ i, i < rs.length → (rs.getD i ([], [])).1.length ≤ 4000000 ∧ (rs.getD i ([], [])).2.length ≤ 4000000) (hlta : a.length ≤ 4000000) (hltb : b.length ≤ 4000000) :
    Does Try.prog 20 [.agg #[arv, rsv], av, bv, .int .i64 (n)] F (L) (fun v F' L' => (.int .i64 (eqB ar rs a b n) : Value) = v ∧ F = F' ∧ L = L') := by
  refine Does.of_X Try.func20 rfl rfl rfl ?_
  refine X.seq ?_
  refine X.region ?_
  refine XL.cons (XOp.box [arv, rsv] rfl rfl ?_)
  intro b1
  refine XL.cons (XOp.assign (.int .i64 (0)) rfl ?_)
  refine XL.nil ?_
  refine X.seq ?_
  refine X.seq ?_
  refine X.region ?_
  refine XL.cons (XOp.loadN [arv, rsv] Try.isAgg37 Try.sizeOf37 rfl rfl (Rd.ownN [] rfl rfl) ?_)
  refine XL.cons (XOp.move (av) rfl ?_)
  refine XL.cons (XOp.move (.int .i64 (n)) rfl ?_)
  refine XL.cons (XOp.call (args := [.agg #[arv, rsv], av, .int .i64 (n)]) Try.call54 rfl (l22Right_spec (n := n) har hrs ha (hla := (by first | assumption | rfl | omega | (left; simp; done) | (right; simp; done))) (hlr := (by first | assumption | rfl | omega | (left; simp; done) | (right; simp; done))) (hrb := (by first | assumption | rfl | omega | (left; simp; done) | (right; simp; done))) (hlt := (by first | assumption | rfl | omega | (left; simp; done) | (right; simp; done)))) ?_)
  rintro _ _ _ _ ⟨rfl, rfl, rfl⟩
  refine XL.cons (XOp.notB (b := (rightB ar rs a && decide (0 ≤ n ∧ n ≤ 60))) rfl ?_)
  refine XL.cons (XOp.move (.bool (!((rightB ar rs a && decide (0 ≤ n ∧ n ≤ 60))))) rfl ?_)
  by_cases h1 : (!((rightB ar rs a && decide (0 ≤ n ∧ n ≤ 60)))) = true
  · refine XL.no (t := 18) rfl (congrArg Value.bool h1) ?_
    refine XL.no (t := 18) rfl (congrArg Value.bool h1) ?_
    refine XL.no (t := 18) rfl (congrArg Value.bool h1) ?_
    refine XL.no (t := 18) rfl (congrArg Value.bool h1) ?_
    refine XL.no (t := 18) rfl (congrArg Value.bool h1) ?_
    refine XL.cons (XOp.pickT (.bool (true)) (congrArg Value.bool h1) rfl ?_)
    refine XL.nil ?_
    refine X.condT rfl ?_
    refine X.seq ?_
    refine X.region ?_
    refine XL.cons (XOp.assign (.int .i64 (-1)) rfl ?_)
    refine XL.nil ?_
    refine X.ret (thenQ_ret (retEnd (L' := L) [.int .i64 (-1)] (.int .i64 (-1)) (.tmp rfl .nil) rfl (FLe.refl _) (FLe.refl _) (Sub.drop (Sub.refl _)) ?_))
    exact ⟨(congrArg (Value.int .i64) (by rw [eqB, if_neg]; intro h; simp_all <;> omega)), rfl, rfl⟩
  · rw [Bool.not_eq_true] at h1
    refine XL.yes (t := 18) rfl (congrArg Value.bool h1) (XOp.loadN [arv, rsv] Try.isAgg37 Try.sizeOf37 rfl rfl (Rd.ownN [] rfl rfl) ?_)
    refine XL.yes (t := 18) rfl (congrArg Value.bool h1) (XOp.move (bv) rfl ?_)
    refine XL.yes (t := 18) rfl (congrArg Value.bool h1) (XOp.move (.int .i64 (n)) rfl ?_)
    refine XL.yes (t := 18) rfl (congrArg Value.bool h1) (XOp.call (args := [.agg #[arv, rsv], bv, .int .i64 (n)]) Try.call54 rfl (l22Right_spec (n := n) har hrs hb (hla := (by first | assumption | rfl | omega | (left; simp; done) | (right; simp; done))) (hlr := (by first | assumption | rfl | omega | (left; simp; done) | (right; simp; done))) (hrb := (by first | assumption | rfl | omega | (left; simp; done) | (right; simp; done))) (hlt := (by first | assumption | rfl | omega | (left; simp; done) | (right; simp; done)))) ?_)
    rintro _ _ _ _ ⟨rfl, rfl, rfl⟩
    refine XL.yes (t := 18) rfl (congrArg Value.bool h1) (XOp.notB (b := (rightB ar rs b && decide (0 ≤ n ∧ n ≤ 60))) rfl ?_)
    refine XL.cons (XOp.pickF (.bool (!((rightB ar rs b && decide (0 ≤ n ∧ n ≤ 60))))) (congrArg Value.bool h1) rfl ?_)
    refine XL.nil ?_
    refine X.cond (t := !((rightB ar rs b && decide (0 ≤ n ∧ n ≤ 60)))) rfl (fun h2 => ?_) (fun h2 => ?_)
    · refine X.seq ?_
      refine X.region ?_
      refine XL.cons (XOp.assign (.int .i64 (-1)) rfl ?_)
      refine XL.nil ?_
      refine X.ret (thenQ_ret (retEnd (L' := L) [.int .i64 (-1)] (.int .i64 (-1)) (.tmp rfl .nil) rfl (FLe.refl _) (FLe.refl _) (Sub.drop (Sub.refl _)) ?_))
      exact ⟨(congrArg (Value.int .i64) (by rw [eqB, if_neg]; intro h; simp_all <;> omega)), rfl, rfl⟩
    · refine X.skip ?_
      refine X.seq ?_
      refine X.region ?_
      have hra : rightB ar rs a = true := by simp_all
      have hrb2 : rightB ar rs b = true := by simp_all
      have hn0 : 0 ≤ n ∧ n ≤ 60 := by simp_all
      have hea := normB_right (a := a) hra hn0
      have heb := normB_right (a := b) hrb2 hn0
      have hna := normB_len (ar := ar) (rs := rs) (t := a) (st := 1) (n := n)
      have hnb := normB_len (ar := ar) (rs := rs) (t := b) (st := 1) (n := n)
      refine XL.cons (XOp.loadN [arv, rsv] Try.isAgg37 Try.sizeOf37 rfl rfl (Rd.ownN [] rfl rfl) ?_)
      refine XL.cons (XOp.move (av) rfl ?_)
      refine XL.cons (XOp.move (.int .i64 (n)) rfl ?_)
      refine XL.cons (XOp.call (args := [.agg #[arv, rsv], av, .int .i64 (1), .int .i64 (n)]) Try.call55 rfl (sNormalBy_spec (st := 1) (n := n) har hrs ha (hla := (by first | assumption | rfl | omega | (left; simp; done) | (right; simp; done))) (hlr := (by first | assumption | rfl | omega | (left; simp; done) | (right; simp; done))) (hrb := (by first | assumption | rfl | omega | (left; simp; done) | (right; simp; done))) (hlt := (by first | assumption | rfl | omega | (left; simp; done) | (right; simp; done)))) ?_)
      rintro _ F1 _ le1 ⟨x1, rfl, hr1, rfl⟩
      replace har := har.mono le1
      replace hrs := hrs.mono le1
      replace ha := ha.mono le1
      replace hb := hb.mono le1
      refine XL.cons (XOp.move (.tuple #[x1, .bool ((normB ar rs a 1 n).2)]) rfl ?_)
      refine XL.cons (XOp.extract (x1) rfl rfl ?_)
      refine XL.cons (XOp.extract (.bool ((normB ar rs a 1 n).2)) rfl rfl ?_)
      refine XL.cons (XOp.assign (x1) rfl ?_)
      refine XL.cons (XOp.assign (.bool ((normB ar rs a 1 n).2)) rfl ?_)
      refine XL.nil ?_
      refine X.seq ?_
      refine X.region ?_
      refine XL.cons (XOp.loadN [arv, rsv] Try.isAgg37 Try.sizeOf37 rfl rfl (Rd.ownN [] rfl rfl) ?_)
      refine XL.cons (XOp.move (bv) rfl ?_)
      refine XL.cons (XOp.move (.int .i64 (n)) rfl ?_)
      refine XL.cons (XOp.call (args := [.agg #[arv, rsv], bv, .int .i64 (1), .int .i64 (n)]) Try.call55 rfl (sNormalBy_spec (st := 1) (n := n) har hrs hb (hla := (by first | assumption | rfl | omega | (left; simp; done) | (right; simp; done))) (hlr := (by first | assumption | rfl | omega | (left; simp; done) | (right; simp; done))) (hrb := (by first | assumption | rfl | omega | (left; simp; done) | (right; simp; done))) (hlt := (by first | assumption | rfl | omega | (left; simp; done) | (right; simp; done)))) ?_)
      rintro _ F2 _ le2 ⟨x2, rfl, hr2, rfl⟩
      replace har := har.mono le2
      replace hrs := hrs.mono le2
      replace ha := ha.mono le2
      replace hb := hb.mono le2
      replace hr1 := hr1.mono le2
      refine XL.cons (XOp.move (.tuple #[x2, .bool ((normB ar rs b 1 n).2)]) rfl ?_)
      refine XL.cons (XOp.extract (x2) rfl rfl ?_)
      refine XL.cons (XOp.extract (.bool ((normB ar rs b 1 n).2)) rfl rfl ?_)
      refine XL.cons (XOp.assign (x2) rfl ?_)
      refine XL.cons (XOp.assign (.bool ((normB ar rs b 1 n).2)) rfl ?_)
      refine XL.nil ?_
      refine X.seq ?_
      refine X.seq ?_
      refine X.region ?_
      refine XL.cons (XOp.move (.bool ((normB ar rs a 1 n).2)) rfl ?_)
      refine XL.cons (XOp.notB (b := (normB ar rs a 1 n).2) rfl ?_)
      refine XL.cons (XOp.move (.bool (!((normB ar rs a 1 n).2))) rfl ?_)
      by_cases h3 : (!((normB ar rs a 1 n).2)) = true
      · refine XL.no (t := 41) rfl (congrArg Value.bool h3) ?_
        refine XL.no (t := 41) rfl (congrArg Value.bool h3) ?_
        refine XL.cons (XOp.pickT (.bool (true)) (congrArg Value.bool h3) rfl ?_)
        refine XL.nil ?_
        refine X.condT rfl ?_
        refine X.seq ?_
        refine X.region ?_
        refine XL.cons (XOp.assign (.int .i64 (-1)) rfl ?_)
        refine XL.nil ?_
        refine X.ret (thenQ_ret (retEnd (L' := L) [.int .i64 (-1)] (.int .i64 (-1)) (.tmp rfl .nil) rfl (FLe.refl _) (FLe.trans le1 le2) (Sub.drop (Sub.refl _)) ?_))
        exact ⟨(congrArg (Value.int .i64) (by rw [eqB, if_pos ⟨⟨hra, hrb2⟩, hn0⟩, eqN, if_neg]; intro h; rw [hea, heb, if_pos h.1, if_pos h.2] at *; simp_all)), rfl, rfl⟩
      · rw [Bool.not_eq_true] at h3
        refine XL.yes (t := 41) rfl (congrArg Value.bool h3) (XOp.move (.bool ((normB ar rs b 1 n).2)) rfl ?_)
        refine XL.yes (t := 41) rfl (congrArg Value.bool h3) (XOp.notB (b := (normB ar rs b 1 n).2) rfl ?_)
        refine XL.cons (XOp.pickF (.bool (!((normB ar rs b 1 n).2))) (congrArg Value.bool h3) rfl ?_)
        refine XL.nil ?_
        refine X.cond (t := !((normB ar rs b 1 n).2)) rfl (fun h4 => ?_) (fun h4 => ?_)
        · refine X.seq ?_
          refine X.region ?_
          refine XL.cons (XOp.assign (.int .i64 (-1)) rfl ?_)
          refine XL.nil ?_
          refine X.ret (thenQ_ret (retEnd (L' := L) [.int .i64 (-1)] (.int .i64 (-1)) (.tmp rfl .nil) rfl (FLe.refl _) (FLe.trans le1 le2) (Sub.drop (Sub.refl _)) ?_))
          exact ⟨(congrArg (Value.int .i64) (by rw [eqB, if_pos ⟨⟨hra, hrb2⟩, hn0⟩, eqN, if_neg]; intro h; rw [hea, heb, if_pos h.1, if_pos h.2] at *; simp_all)), rfl, rfl⟩
        · refine X.skip ?_
          refine X.seq ?_
          refine X.region ?_
          refine XL.cons (XOp.move (x1) rfl ?_)
          refine XL.cons (XOp.move (x2) rfl ?_)
          refine XL.cons (XOp.call (args := [x1, x2]) Try.call57 rfl (SameTerm_spec hr1 hr2 (hbd := (by first | assumption | rfl | omega | (left; simp; done) | (right; simp; done)))) ?_)
          rintro _ _ _ _ ⟨rfl, rfl, rfl⟩
          refine XL.cons (XOp.call (args := [.bool (decide (((normB ar rs a 1 n).1) = ((normB ar rs b 1 n).1)))]) Try.call56 rfl (l1Flag_spec (q := decide (((normB ar rs a 1 n).1) = ((normB ar rs b 1 n).1)))) ?_)
          rintro _ _ _ _ ⟨rfl, rfl, rfl⟩
          refine XL.cons (XOp.assign (.int .i64 (if (decide (((normB ar rs a 1 n).1) = ((normB ar rs b 1 n).1))) = true then 1 else 0)) rfl ?_)
          refine XL.nil ?_
          refine X.ret (retEnd (L' := L) [.int .i64 (if (decide (((normB ar rs a 1 n).1) = ((normB ar rs b 1 n).1))) = true then 1 else 0)] (.int .i64 (if (decide (((normB ar rs a 1 n).1) = ((normB ar rs b 1 n).1))) = true then 1 else 0)) (.tmp rfl .nil) rfl (FLe.refl _) (FLe.trans le1 le2) (Sub.drop (Sub.refl _)) ?_)
          exact ⟨(congrArg (Value.int .i64) (eqFin hra hrb2 hn0 (by simp_all) (by simp_all))), rfl, rfl⟩

/- laws.FnExactEqualBy -/
set_option maxRecDepth 20000 in
theorem FnExactEqualBy_does {F : FH} {L : List HP} {arv : Value} {ar : List Int} (har : IntsF F arv ar) {rsv : Value} {rs : List (List Int × List Int)} (hrs : PairsF F rsv rs) {av : Value} {a : List Int} (ha : IntsF F av a) {bv : Value} {b : List Int} (hb : IntsF F bv b) {n : Int} (hlar : ar.length ≤ 9223372036854775807) (hlrs : rs.length ≤ 9223372036854775807) (hbrs : ∀ i, i < rs.length → (rs.getD i ([], [])).1.length ≤ 9223372036854775807 ∧ (rs.getD i ([], [])).2.length ≤ 9223372036854775807) (hla : a.length ≤ 9223372036854775807) (hlb : b.length ≤ 9223372036854775807) :
    Does Try.prog 4 [.agg #[arv, rsv], av, bv, .int .i64 (n)] F (L) (fun v F' L' => (.bool (true) : Value) = v ∧ F = F' ∧ L = L') := by
  refine Does.of_X Try.func4 rfl rfl rfl ?_
  refine X.seq ?_
  refine X.region ?_
  refine XL.cons (XOp.box [arv, rsv] rfl rfl ?_)
  intro b1
  refine XL.cons (XOp.assign (.bool (false)) rfl ?_)
  refine XL.nil ?_
  refine X.seq ?_
  refine X.seq ?_
  refine X.region ?_
  refine XL.cons (XOp.move (av) rfl ?_)
  refine XL.cons (XOp.lenS (v := av) (n := (a).length) Try.runUnderlying22 rfl ha.slv ?_)
  refine XL.cons (XOp.gtr (a := (((a).length : Nat) : Int)) (b := 1048576) rfl rfl ?_)
  refine XL.nil ?_
  refine X.condD (p := ((((a).length : Nat) : Int) : Int) > 1048576) rfl (fun h1 => ?_) (fun h1 => ?_)
  · refine X.seq ?_
    refine X.region ?_
    refine XL.cons (XOp.assign (.bool (true)) rfl ?_)
    refine XL.nil ?_
    refine X.ret (thenQ_ret (retEnd (L' := L) [.bool (true)] (.bool (true)) (.tmp rfl .nil) rfl (FLe.refl _) (FLe.refl _) (Sub.drop (Sub.refl _)) ?_))
    exact ⟨rfl, rfl, rfl⟩
  · refine X.skip ?_
    refine X.seq ?_
    refine X.seq ?_
    refine X.region ?_
    refine XL.cons (XOp.move (bv) rfl ?_)
    refine XL.cons (XOp.lenS (v := bv) (n := (b).length) Try.runUnderlying22 rfl hb.slv ?_)
    refine XL.cons (XOp.gtr (a := (((b).length : Nat) : Int)) (b := 1048576) rfl rfl ?_)
    refine XL.nil ?_
    refine X.condD (p := ((((b).length : Nat) : Int) : Int) > 1048576) rfl (fun h2 => ?_) (fun h2 => ?_)
    · refine X.seq ?_
      refine X.region ?_
      refine XL.cons (XOp.assign (.bool (true)) rfl ?_)
      refine XL.nil ?_
      refine X.ret (thenQ_ret (retEnd (L' := L) [.bool (true)] (.bool (true)) (.tmp rfl .nil) rfl (FLe.refl _) (FLe.refl _) (Sub.drop (Sub.refl _)) ?_))
      exact ⟨rfl, rfl, rfl⟩
    · refine X.skip ?_
      refine X.seq ?_
      refine X.region ?_
      refine XL.cons (XOp.assign (.int .i64 (1048576)) rfl ?_)
      refine XL.nil ?_
      refine X.seq ?_
      refine X.region ?_
      refine XL.cons (XOp.loadN [arv, rsv] Try.isAgg27 Try.sizeOf27 rfl rfl (Rd.ownN [] rfl rfl) ?_)
      refine XL.cons (XOp.move (.int .i64 (1048576)) rfl ?_)
      refine XL.cons (XOp.call (args := [.agg #[arv, rsv], .int .i64 (1048576)]) Try.call8 rfl (szSystem_spec (z := 1048576) har hrs (hz := (by first | assumption | rfl | omega | (left; simp; done) | (right; simp; done))) (hal := (by first | assumption | rfl | omega | (left; simp; done) | (right; simp; done))) (hrl := (by first | assumption | rfl | omega | (left; simp; done) | (right; simp; done))) (hrb := (by first | assumption | rfl | omega | (left; simp; done) | (right; simp; done)))) ?_)
      rintro _ _ _ _ ⟨rfl, rfl, rfl⟩
      refine XL.cons (XOp.assign (.int .i64 (dec 1048576 (ar.length + szR rs))) rfl ?_)
      refine XL.nil ?_
      refine X.seq ?_
      refine X.seq ?_
      refine X.region ?_
      refine XL.cons (XOp.move (.int .i64 (dec 1048576 (ar.length + szR rs))) rfl ?_)
      refine XL.cons (XOp.lss (a := dec 1048576 (ar.length + szR rs)) (b := 0) rfl rfl ?_)
      refine XL.nil ?_
      refine X.condD (p := (dec 1048576 (ar.length + szR rs) : Int) < 0) rfl (fun h3 => ?_) (fun h3 => ?_)
      · refine X.seq ?_
        refine X.region ?_
        refine XL.cons (XOp.assign (.bool (true)) rfl ?_)
        refine XL.nil ?_
        refine X.ret (thenQ_ret (retEnd (L' := L) [.bool (true)] (.bool (true)) (.tmp rfl .nil) rfl (FLe.refl _) (FLe.refl _) (Sub.drop (Sub.refl _)) ?_))
        exact ⟨rfl, rfl, rfl⟩
      · have hd1 := dec_le2 h3 (by omega)
        have hzrs := szR_le (rs := rs)
        have hirs := hzrs.2
        have hcrs : ∀ i, i < rs.length → (rs.getD i ([], [])).1.length ≤ 4000000 ∧ (rs.getD i ([], [])).2.length ≤ 4000000 := fun i hi => by have := hirs i hi; omega
        have hfrs := flatPair_len rs
        refine X.skip ?_
        refine X.seq ?_
        refine X.region ?_
        refine XL.cons (XOp.loadN [arv, rsv] Try.isAgg27 Try.sizeOf27 rfl rfl (Rd.ownN [] rfl rfl) ?_)
        refine XL.cons (XOp.thawL ?_)
        refine id (XOp.call (args := [.agg #[arv, rsv]]) Try.call10 rfl (toSystem_spec har hrs (hla := (by first | assumption | rfl | omega | (left; simp; done) | (right; simp; done))) (hrl := (by first | assumption | rfl | omega | (left; simp; done) | (right; simp; done))) (hrb := (by first | assumption | rfl | omega | (left; simp; done) | (right; simp; done)))) ?_)
        rintro _ F1 _ le1 ⟨x1, x2, rfl, hr1, hr2, hr3, rfl⟩
        refine ⟨[intsH 2 x1 ar, pairsD 2 115 x2 rs], hr3, ?_⟩
        show XL _ _ _ _ _ _ _ (intsH 2 x1 ar :: pairsD 2 115 x2 rs :: cellsH b1 [arv, rsv] 27 :: L)
        refine XL.cons (XOp.move (av) rfl ?_)
        refine XL.cons (XOp.call (args := [av]) Try.call11 rfl (toInt64S_spec ha (hlx := (by first | assumption | rfl | omega | (left; simp; done) | (right; simp; done)))) ?_)
        rintro v1 _ _ _ ⟨rfl, hs1, rfl⟩
        refine XL.cons (XOp.move (bv) rfl ?_)
        refine XL.cons (XOp.call (args := [bv]) Try.call11 rfl (toInt64S_spec hb (hlx := (by first | assumption | rfl | omega | (left; simp; done) | (right; simp; done)))) ?_)
        rintro v2 _ _ _ ⟨rfl, hs2, rfl⟩
        refine XL.cons (XOp.move (.int .i64 (n)) rfl ?_)
        refine XL.cons (XOp.lend [_, _] _ _ rfl (fun F2 le2 hz1 => ?_))
        refine id (XOp.lend [_, _] _ _ rfl (fun F3 le3 hz2 => ?_))
        refine id (XOp.lend [_] _ _ rfl (fun F4 le4 hz3 => ?_))
        refine id (XOp.lend [] _ _ rfl (fun F5 le5 hz4 => ?_))
        have hf1 : IntsF _ x1 ar := (intsH.fz (xs := ar) hz1).mono (FLe.trans (FLe.trans le3 le4) le5)
        have hf2 : PairsF _ x2 rs := (pairsD.fz hz2).mono (FLe.trans le4 le5)
        have hf3 : IntsF _ v1 ((a)) := (intsH.fz (xs := (a)) hz3).mono le5
        have hf4 : IntsF _ v2 ((b)) := intsH.fz (xs := (b)) hz4
        refine id (XOp.call (args := [.agg #[x1, x2], v1, v2, .int .i64 (n)]) Try.call20 rfl (sEqualBy_spec (n := n) hf1 hf2 hf3 hf4 (hla := (by first | assumption | rfl | omega | (left; simp; done) | (right; simp; done))) (hlr := (by first | assumption | rfl | omega | (left; simp; done) | (right; simp; done))) (hrb := (by first | assumption | rfl | omega | (left; simp; done) | (right; simp; done))) (hlta := (by first | assumption | rfl | omega | (left; simp; done) | (right; simp; done))) (hltb := (by first | assumption | rfl | omega | (left; simp; done) | (right; simp; done)))) ?_)
        rintro _ _ _ _ ⟨rfl, rfl, rfl⟩
        show XL _ _ _ _ _ _ _ (intsH 2 x1 ar :: pairsD 2 115 x2 rs :: intsH 2 v1 ((a)) :: intsH 2 v2 ((b)) :: cellsH b1 [arv, rsv] 27 :: L)
        refine XL.cons (XOp.assign (.int .i64 (eqB ar rs ((a)) ((b)) n)) rfl ?_)
        refine XL.nil ?_
        refine X.seq ?_
        refine X.region ?_
        refine XL.cons (XOp.loadN [arv, rsv] Try.isAgg27 Try.sizeOf27 rfl rfl (Rd.ownN [_, _, _, _] rfl rfl) ?_)
        refine XL.cons (XOp.thawL ?_)
        refine id (XOp.call (args := [.agg #[arv, rsv]]) Try.call10 rfl (toSystem_spec har hrs (hla := (by first | assumption | rfl | omega | (left; simp; done) | (right; simp; done))) (hrl := (by first | assumption | rfl | omega | (left; simp; done) | (right; simp; done))) (hrb := (by first | assumption | rfl | omega | (left; simp; done) | (right; simp; done)))) ?_)
        rintro _ F6 _ le6 ⟨x3, x4, rfl, hr4, hr5, hr6, rfl⟩
        refine ⟨[intsH 2 x3 ar, pairsD 2 115 x4 rs], hr6, ?_⟩
        show XL _ _ _ _ _ _ _ (intsH 2 x3 ar :: pairsD 2 115 x4 rs :: intsH 2 x1 ar :: pairsD 2 115 x2 rs :: intsH 2 v1 ((a)) :: intsH 2 v2 ((b)) :: cellsH b1 [arv, rsv] 27 :: L)
        refine XL.cons (XOp.alloc [(.slice none 0 0), (.slice none 0 0)] Try.zeroValue37 rfl ?_)
        intro b2
        refine XL.cons (XOp.storeN (vs := [x3, x4]) [] _ [x3, x4] Try.sizeOf37 rfl rfl rfl (ones_cons (one_sl (IntsF.isSl hr4)) (ones_cons (one_sl (PairsF.isSl hr5)) ones_nil)) rfl rfl rfl ?_)
        refine XL.nil ?_
        refine X.seq ?_
        refine X.region ?_
        refine XL.cons (XOp.move (av) rfl ?_)
        refine XL.cons (XOp.call (args := [av]) Try.call11 rfl (toInt64S_spec ha (hlx := (by first | assumption | rfl | omega | (left; simp; done) | (right; simp; done)))) ?_)
        rintro v3 _ _ _ ⟨rfl, hs3, rfl⟩
        refine XL.cons (XOp.assign (v3) rfl ?_)
        refine XL.nil ?_
        refine X.seq ?_
        refine X.region ?_
        refine XL.cons (XOp.move (bv) rfl ?_)
        refine XL.cons (XOp.call (args := [bv]) Try.call11 rfl (toInt64S_spec hb (hlx := (by first | assumption | rfl | omega | (left; simp; done) | (right; simp; done)))) ?_)
        rintro v4 _ _ _ ⟨rfl, hs4, rfl⟩
        refine XL.cons (XOp.assign (v4) rfl ?_)
        refine XL.nil ?_
        refine X.seq ?_
        refine X.region ?_
        refine XL.cons (XOp.loadN [x3, x4] Try.isAgg37 Try.sizeOf37 rfl rfl (Rd.ownN [_, _] rfl rfl) ?_)
        refine XL.cons (XOp.move (v3) rfl ?_)
        refine XL.cons (XOp.move (v4) rfl ?_)
        refine XL.cons (XOp.move (.int .i64 (n)) rfl ?_)
        refine XL.cons (XOp.lend [_, _, _] _ _ rfl (fun F7 le7 hz5 => ?_))
        refine id (XOp.lend [_, _, _] _ _ rfl (fun F8 le8 hz6 => ?_))
        refine id (XOp.lend [_] _ _ rfl (fun F9 le9 hz7 => ?_))
        refine id (XOp.lend [] _ _ rfl (fun F10 le10 hz8 => ?_))
        have hf5 : IntsF _ x3 ar := (intsH.fz (xs := ar) hz5).mono (FLe.trans (FLe.trans le8 le9) le10)
        have hf6 : PairsF _ x4 rs := (pairsD.fz hz6).mono (FLe.trans le9 le10)
        have hf7 : IntsF _ v3 ((a)) := (intsH.fz (xs := (a)) hz7).mono le10
        have hf8 : IntsF _ v4 ((b)) := intsH.fz (xs := (b)) hz8
        refine id (XOp.call (args := [.agg #[x3, x4], v3, v4, .int .i64 (n)]) Try.call21 rfl (EqualBy_spec (n := n) hf5 hf6 hf7 hf8) ?_)
        rintro _ _ _ _ ⟨rfl, rfl, rfl⟩
        show XL _ _ _ _ _ _ _ (intsH 2 x3 ar :: pairsD 2 115 x4 rs :: intsH 2 v3 ((a)) :: intsH 2 v4 ((b)) :: cellsH b2 [x3, x4] 37 :: intsH 2 x1 ar :: pairsD 2 115 x2 rs :: intsH 2 v1 ((a)) :: intsH 2 v2 ((b)) :: cellsH b1 [arv, rsv] 27 :: L)
        refine XL.cons (XOp.assign (.int .i64 (eqB ar rs ((a)) ((b)) n)) rfl ?_)
        refine XL.nil ?_
        refine X.seq ?_
        refine X.seq ?_
        refine X.region ?_
        refine XL.cons (XOp.move (.int .i64 (eqB ar rs ((a)) ((b)) n)) rfl ?_)
        refine XL.cons (XOp.move (.int .i64 (eqB ar rs ((a)) ((b)) n)) rfl ?_)
        refine XL.cons (XOp.neq (a := eqB ar rs ((a)) ((b)) n) (b := eqB ar rs ((a)) ((b)) n) rfl rfl ?_)
        refine XL.nil ?_
        refine X.condD (p := (eqB ar rs ((a)) ((b)) n : Int) ≠ eqB ar rs ((a)) ((b)) n) rfl (fun h4 => ?_) (fun h4 => ?_)
        · exact absurd rfl h4
        · refine X.skip ?_
          refine X.seq ?_
          refine X.seq ?_
          refine X.drawG [intsH 2 x3 ar, pairsD 2 115 x4 rs, intsH 2 v3 ((a)), intsH 2 v4 ((b)), cellsH b2 [x3, x4] 37, intsH 2 x1 ar, pairsD 2 115 x2 rs, intsH 2 v1 ((a)), intsH 2 v2 ((b)), cellsH b1 [arv, rsv] 27] L 3 [[], [], []] [[], [], [1]] [[], [], []] (phiG [fun FF us v => v = (.agg #[x3, x4] : Value), fun FF us v => v = (.agg #[arv, rsv] : Value), fun FF us v => (.agg #[((aggAt v 0)), ((aggAt v 1))] : Value) = v ∧ (IntsF FF ((aggAt v 0)) ar) ∧ (PairsF FF ((aggAt v 1)) rs)]) (ownL [fun us v => [], fun us v => [], fun us v => []]) mixed rfl rfl (by kernel_rfl) (by kernel_rfl) (MonoG.get (MonoG.cons (fun le h => h) (MonoG.cons (fun le h => h) (MonoG.cons (fun le h => ⟨h.1, h.2.1.mono le, h.2.2.mono le⟩) MonoG.nil)))) ?_ ?_
          · refine stepsG.cons (fun vals Fs R leFs hpZ => ?_) ?_
            · replace har := har.mono leFs
              replace hrs := hrs.mono leFs
              replace ha := ha.mono leFs
              replace hb := hb.mono leFs
              refine XG.op (XOp.loadN [x3, x4] Try.isAgg37 Try.sizeOf37 rfl rfl (Rd.ownN [_, _, _, _] rfl rfl) ?_)
              exact ⟨rfl, rfl⟩
            refine stepsG.cons (fun vals Fs R leFs hpZ => ?_) ?_
            · replace har := har.mono leFs
              replace hrs := hrs.mono leFs
              replace ha := ha.mono leFs
              replace hb := hb.mono leFs
              refine XG.op (XOp.loadN [arv, rsv] Try.isAgg27 Try.sizeOf27 rfl rfl (Rd.ownN [_, _, _, _, _, _, _, _, _] rfl rfl) ?_)
              exact ⟨rfl, rfl⟩
            refine stepsG.cons (fun vals Fs R leFs hpZ => ?_) ?_
            · have e1 : vals 1 = (.agg #[arv, rsv] : Value) := hpZ 1 (by decide)
              replace har := har.mono leFs
              replace hrs := hrs.mono leFs
              replace ha := ha.mono leFs
              replace hb := hb.mono leFs
              rw [(envs_of_sat (l := [(1, (.agg #[arv, rsv] : Value))]) ⟨e1, trivial⟩).symm]
              refine XG.op (XOp.call (args := [.agg #[arv, rsv]]) Try.call10 rfl (toSystem_spec har hrs (hla := (by first | assumption | rfl | omega | (left; simp; done) | (right; simp; done))) (hrl := (by first | assumption | rfl | omega | (left; simp; done) | (right; simp; done))) (hrb := (by first | assumption | rfl | omega | (left; simp; done) | (right; simp; done)))) ?_)
              rintro _ F12 _ le12 ⟨x7, x8, rfl, hr10, hr11, hr12, rfl⟩
              replace har := har.mono le12
              replace hrs := hrs.mono le12
              replace ha := ha.mono le12
              replace hb := hb.mono le12
              exact ⟨⟨rfl, hr10, hr11⟩, rfl⟩
            exact stepsG.nil
          · intro vals F13 le13 hphi
            have e0 : vals 0 = (.agg #[x3, x4] : Value) := hphi 0 (by decide)
            have e1 : vals 1 = (.agg #[arv, rsv] : Value) := hphi 1 (by decide)
            obtain ⟨e2, f2_1hr1, f2_1hr2⟩ := hphi 2 (by decide)
            generalize hu1 : ((aggAt (vals 2) 0)) = u1 at e0 e1 e2 f2_1hr1 f2_1hr2
            generalize hu2 : ((aggAt (vals 2) 1)) = u2 at e0 e1 e2 f2_1hr1 f2_1hr2
            rw [(envs_of_sat (l := [(0, (.agg #[x3, x4] : Value)), (1, (.agg #[arv, rsv] : Value)), (2, (.agg #[u1, u2] : Value))]) ⟨e0, e1, (e2).symm, trivial⟩).symm]
            replace har := har.mono le13
            replace hrs := hrs.mono le13
            replace ha := ha.mono le13
            replace hb := hb.mono le13
            show XL _ _ _ _ _ _ _ (intsH 2 x3 ar :: pairsD 2 115 x4 rs :: intsH 2 v3 ((a)) :: intsH 2 v4 ((b)) :: cellsH b2 [x3, x4] 37 :: intsH 2 x1 ar :: pairsD 2 115 x2 rs :: intsH 2 v1 ((a)) :: intsH 2 v2 ((b)) :: cellsH b1 [arv, rsv] 27 :: L)
            refine XL.cons (XOp.lend [] _ _ rfl (fun F14 le14 hz9 => ?_))
            refine id (XOp.lend [] _ _ rfl (fun F15 le15 hz10 => ?_))
            have hf9 : IntsF _ x3 ar := (intsH.fz (xs := ar) hz9).mono le15
            have hf10 : PairsF _ x4 rs := pairsD.fz hz10
            refine id (XOp.call (args := [.agg #[x3, x4], .agg #[u1, u2]]) Try.call14 rfl (eqSystem_spec hf9 hf10 ((f2_1hr1.mono (FLe.trans le14 le15))) ((f2_1hr2.mono (FLe.trans le14 le15))) (hcl := (by first | assumption | rfl | omega | (left; simp; done) | (right; simp; done))) (hal := (by first | assumption | rfl | omega | (left; simp; done) | (right; simp; done))) (hbd := (by first | assumption | rfl | omega | (left; simp; done) | (right; simp; done)))) ?_)
            rintro _ _ _ _ ⟨rfl, rfl, rfl⟩
            show XL _ _ _ _ _ _ _ (intsH 2 x3 ar :: pairsD 2 115 x4 rs :: intsH 2 v3 ((a)) :: intsH 2 v4 ((b)) :: cellsH b2 [x3, x4] 37 :: intsH 2 x1 ar :: pairsD 2 115 x2 rs :: intsH 2 v1 ((a)) :: intsH 2 v2 ((b)) :: cellsH b1 [arv, rsv] 27 :: L)
            refine XL.cons (XOp.notD (p := ar = ar ∧ rs = rs) rfl ?_)
            refine XL.nil ?_
            refine X.condD (p := ¬(ar = ar ∧ rs = rs)) rfl (fun h5 => ?_) (fun h5 => ?_)
            · exact absurd (by first | rfl | exact ⟨rfl, rfl⟩ | exact ⟨⟨rfl, rfl⟩, rfl, rfl⟩ | simp) h5
            · refine X.skip ?_
              refine X.seq ?_
              refine X.seq ?_
              refine X.region ?_
              refine XL.cons (XOp.move (v3) rfl ?_)
              refine XL.cons (XOp.move (av) rfl ?_)
              refine XL.cons (XOp.call (args := [av]) Try.call11 rfl (toInt64S_spec ha (hlx := (by first | assumption | rfl | omega | (left; simp; done) | (right; simp; done)))) ?_)
              rintro v5 _ _ _ ⟨rfl, hs5, rfl⟩
              refine XL.cons (XOp.lend [_, _, _] _ _ rfl (fun F16 le16 hz11 => ?_))
              refine id (XOp.lend [] _ _ rfl (fun F17 le17 hz12 => ?_))
              have hf11 : IntsF _ v3 ((a)) := (intsH.fz (xs := (a)) hz11).mono le17
              have hf12 : IntsF _ v5 ((a)) := intsH.fz (xs := (a)) hz12
              refine id (XOp.call (args := [v3, v5]) Try.call15 rfl (eqInt64S_spec hf11 hf12 (hbd := (by first | assumption | rfl | omega | (left; simp; done) | (right; simp; done)))) ?_)
              rintro _ _ _ _ ⟨rfl, rfl, rfl⟩
              show XL _ _ _ _ _ _ _ (intsH 2 v3 ((a)) :: intsH 2 v5 ((a)) :: intsH 2 x3 ar :: pairsD 2 115 x4 rs :: intsH 2 v4 ((b)) :: cellsH b2 [x3, x4] 37 :: intsH 2 x1 ar :: pairsD 2 115 x2 rs :: intsH 2 v1 ((a)) :: intsH 2 v2 ((b)) :: cellsH b1 [arv, rsv] 27 :: L)
              refine XL.cons (XOp.notD (p := ((a)) = ((a))) rfl ?_)
              refine XL.nil ?_
              refine X.condD (p := ¬(((a)) = ((a)))) rfl (fun h6 => ?_) (fun h6 => ?_)
              · exact absurd (by first | rfl | exact ⟨rfl, rfl⟩ | exact ⟨⟨rfl, rfl⟩, rfl, rfl⟩ | simp) h6
              · refine X.skip ?_
                refine X.seq ?_
                refine X.seq ?_
                refine X.region ?_
                refine XL.cons (XOp.move (v4) rfl ?_)
                refine XL.cons (XOp.move (bv) rfl ?_)
                refine XL.cons (XOp.call (args := [bv]) Try.call11 rfl (toInt64S_spec hb (hlx := (by first | assumption | rfl | omega | (left; simp; done) | (right; simp; done)))) ?_)
                rintro v6 _ _ _ ⟨rfl, hs6, rfl⟩
                refine XL.cons (XOp.lend [_, _, _, _, _] _ _ rfl (fun F18 le18 hz13 => ?_))
                refine id (XOp.lend [] _ _ rfl (fun F19 le19 hz14 => ?_))
                have hf13 : IntsF _ v4 ((b)) := (intsH.fz (xs := (b)) hz13).mono le19
                have hf14 : IntsF _ v6 ((b)) := intsH.fz (xs := (b)) hz14
                refine id (XOp.call (args := [v4, v6]) Try.call15 rfl (eqInt64S_spec hf13 hf14 (hbd := (by first | assumption | rfl | omega | (left; simp; done) | (right; simp; done)))) ?_)
                rintro _ _ _ _ ⟨rfl, rfl, rfl⟩
                show XL _ _ _ _ _ _ _ (intsH 2 v4 ((b)) :: intsH 2 v6 ((b)) :: intsH 2 v3 ((a)) :: intsH 2 v5 ((a)) :: intsH 2 x3 ar :: pairsD 2 115 x4 rs :: cellsH b2 [x3, x4] 37 :: intsH 2 x1 ar :: pairsD 2 115 x2 rs :: intsH 2 v1 ((a)) :: intsH 2 v2 ((b)) :: cellsH b1 [arv, rsv] 27 :: L)
                refine XL.cons (XOp.notD (p := ((b)) = ((b))) rfl ?_)
                refine XL.nil ?_
                refine X.condD (p := ¬(((b)) = ((b)))) rfl (fun h7 => ?_) (fun h7 => ?_)
                · exact absurd (by first | rfl | exact ⟨rfl, rfl⟩ | exact ⟨⟨rfl, rfl⟩, rfl, rfl⟩ | simp) h7
                · refine X.skip ?_
                  refine X.seq ?_
                  refine X.region ?_
                  refine XL.cons (XOp.assign (.bool (true)) rfl ?_)
                  refine XL.nil ?_
                  refine X.ret (retEnd (L' := L) [.bool (true)] (.bool (true)) (.tmp rfl .nil) rfl (FLe.refl _) le13 (Sub.drop (Sub.drop (Sub.drop (Sub.drop (Sub.drop (Sub.drop (Sub.drop (Sub.drop (Sub.drop (Sub.drop (Sub.drop (Sub.drop (Sub.refl _))))))))))))) ?_)
                  exact ⟨rfl, rfl, rfl⟩
end Go.Proofs.Ytbooflphoaaoeaa
