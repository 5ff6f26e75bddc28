/-
  Walks: equations that hold; the statements KeepsEqs, HoldAll.
-/
import Derived.Test.YtbooflphoaaoeaaGreatQgFy
import Derived.Test.YtbooflphoaaoeaaGreatP13
set_option linter.unusedSimpArgs false
set_option linter.unusedVariables false
namespace Go.Proofs.YtbooflphoaaoeaaGreat
open Go X M

/- impl.EqOk -/
theorem EqOk_spec {F : FH} {L : List HP} {arv : Value} {ar : List Int} (har : IntsF F arv ar) {lv : Value} {l : List Int} (hl : IntsF F lv l) {rv : Value} {r : List Int} (hr : IntsF F rv r) :
    Does Tryz.prog 127 [.agg #[arv], .agg #[lv, rv]] F (L) (fun v F' L' => (.bool (eqOkL ar (l, r)) : Value) = v ∧ F = F' ∧ L = L') := by
  refine Does.of_X Tryz.func127 rfl rfl rfl ?_
  refine X.seq ?_
  refine X.region ?_
  refine XL.cons (XOp.box [arv] rfl rfl ?_)
  intro b1
  refine XL.cons (XOp.box [lv, rv] rfl rfl ?_)
  intro b2
  refine XL.cons (XOp.assign (.bool (false)) rfl ?_)
  refine XL.nil ?_
  refine X.seq ?_
  refine X.region ?_
  refine XL.cons (XOp.loadN [arv] Tryz.isAgg34 Tryz.sizeOf34 rfl rfl (Rd.ownN [_] rfl rfl) ?_)
  refine XL.cons (XOp.fieldP (b := b2) (0) Tryz.runUnderlying104 rfl Tryz.sizeOf22 (by decide) rfl rfl ?_)
  refine XL.cons (XOp.load1 (v := lv) Tryz.isAgg22 rfl (Rd.own [] rfl rfl) ?_)
  refine XL.cons (XOp.call (args := [.agg #[arv], lv]) Tryz.call133 rfl (TermOk_spec har hl) ?_)
  rintro _ _ _ _ ⟨rfl, rfl, rfl⟩
  refine XL.cons (XOp.move (.bool (termOk ar l)) rfl ?_)
  by_cases h1 : (termOk ar l) = true
  · refine XL.yes (t := 9) rfl (congrArg Value.bool h1) (XOp.loadN [arv] Tryz.isAgg34 Tryz.sizeOf34 rfl rfl (Rd.ownN [_] rfl rfl) ?_)
    refine XL.yes (t := 9) rfl (congrArg Value.bool h1) (XOp.fieldP (b := b2) (1) Tryz.runUnderlying104 rfl Tryz.sizeOf22 (by decide) rfl rfl ?_)
    refine XL.yes (t := 9) rfl (congrArg Value.bool h1) (XOp.load1 (v := rv) Tryz.isAgg22 rfl (Rd.own [] rfl rfl) ?_)
    refine XL.yes (t := 9) rfl (congrArg Value.bool h1) (XOp.call (args := [.agg #[arv], rv]) Tryz.call133 rfl (TermOk_spec har hr) ?_)
    rintro _ _ _ _ ⟨rfl, rfl, rfl⟩
    refine XL.cons (XOp.pickT (.bool (termOk ar r)) (congrArg Value.bool h1) rfl ?_)
    refine XL.cons (XOp.assign (.bool (termOk ar r)) rfl ?_)
    refine XL.nil ?_
    refine X.ret (retEnd (L' := L) [.bool (termOk ar r)] (.bool (termOk ar r)) (.tmp rfl .nil) rfl (FLe.refl _) (FLe.refl _) (Sub.drop (Sub.drop (Sub.refl _))) ?_)
    exact ⟨(congrArg Value.bool (by unfold eqOkL; simp_all)), rfl, rfl⟩
  · rw [Bool.not_eq_true] at h1
    refine XL.no (t := 9) rfl (congrArg Value.bool h1) ?_
    refine XL.no (t := 9) rfl (congrArg Value.bool h1) ?_
    refine XL.no (t := 9) rfl (congrArg Value.bool h1) ?_
    refine XL.no (t := 9) rfl (congrArg Value.bool h1) ?_
    refine XL.cons (XOp.pickF (.bool (false)) (congrArg Value.bool h1) rfl ?_)
    refine XL.cons (XOp.assign (.bool (false)) rfl ?_)
    refine XL.nil ?_
    refine X.ret (retEnd (L' := L) [.bool (false)] (.bool (false)) (.tmp rfl .nil) rfl (FLe.refl _) (FLe.refl _) (Sub.drop (Sub.drop (Sub.refl _))) ?_)
    exact ⟨(congrArg Value.bool (by unfold eqOkL; simp_all)), rfl, rfl⟩

/- impl.EqsOk$1 -/
theorem EqsOk1_spec {F : FH} {L : List HP} {lv : Value} {l : List Int} (hl : IntsF F lv l) {rv : Value} {r : List Int} (hr : IntsF F rv r) {arv : Value} {ar : List Int} (har : IntsF F arv ar) {b : Nat} (hzb : FzC F b [arv]) :
    Does Tryz.prog 126 [.agg #[lv, rv], ptr b 0] F (L) (fun v F' L' => (.bool (!(eqOkL ar (l, r))) : Value) = v ∧ F = F' ∧ L = L') := by
  refine Does.of_X Tryz.func126 rfl rfl rfl ?_
  refine X.seq ?_
  refine X.region ?_
  refine XL.cons (XOp.box [lv, rv] rfl rfl ?_)
  intro b1
  refine XL.cons (XOp.assign (.bool (false)) rfl ?_)
  refine XL.nil ?_
  refine X.seq ?_
  refine X.region ?_
  refine XL.cons (XOp.loadN [arv] Tryz.isAgg34 Tryz.sizeOf34 rfl rfl (FzC.rd hzb rfl) ?_)
  refine XL.cons (XOp.loadN [lv, rv] Tryz.isAgg104 Tryz.sizeOf104 rfl rfl (Rd.ownN [] rfl rfl) ?_)
  refine XL.cons (XOp.call (args := [.agg #[arv], .agg #[lv, rv]]) Tryz.call127 rfl (EqOk_spec har hl hr) ?_)
  rintro _ _ _ _ ⟨rfl, rfl, rfl⟩
  refine XL.cons (XOp.notB (b := eqOkL ar (l, r)) rfl ?_)
  refine XL.cons (XOp.assign (.bool (!(eqOkL ar (l, r)))) rfl ?_)
  refine XL.nil ?_
  refine X.ret (retEnd (L' := L) [.bool (!(eqOkL ar (l, r)))] (.bool (!(eqOkL ar (l, r)))) (.tmp rfl .nil) rfl (FLe.refl _) (FLe.refl _) (Sub.drop (Sub.refl _)) ?_)
  exact ⟨rfl, rfl, rfl⟩

/- slices.IndexFunc[[]impl.Eq,impl.Eq] -/
theorem IndexFuncEq_spec {F : FH} {L : List HP} {esv : Value} {es : List (List Int × List Int)} (hes : PairsF F esv es) {arv : Value} {ar : List Int} (har : IntsF F arv ar) {b : Nat} (hzb : FzC F b [arv]) (hlt : es.length ≤ 4000000) :
    Does Tryz.prog 163 [esv, .func (.func 126) #[] #[ptr b 0]] F (L) (fun v F' L' => (.int .i64 (badG (eqOkL ar) es) : Value) = v ∧ F = F' ∧ L = L') := by
  refine Does.of_X Tryz.func163 rfl rfl rfl ?_
  refine X.seq ?_
  refine X.region ?_
  refine XL.cons (XOp.assign (.int .i64 (0)) rfl ?_)
  refine XL.nil ?_
  refine X.seq ?_
  refine X.seq ?_
  refine X.region ?_
  refine XL.cons (XOp.move (esv) rfl ?_)
  refine XL.cons (XOp.lenS (v := esv) (n := (es).length) Tryz.runUnderlying50 rfl hes.slv ?_)
  refine XL.cons (XOp.move (.int .i64 (0)) rfl ?_)
  refine XL.nil ?_
  refine X.block ?_
  refine X.loop (α := Nat) (fun k => [(0, esv), (1, .func (.func 126) #[] #[ptr b 0]), (7, .int .i64 ((((es).length : Nat) : Int))), (8, .int .i64 (((k : Nat) : Int)))]) (fun k => L) (fun k F' => F = F' ∧ (k ≤ es.length) ∧ (∀ i, i < k → eqOkL ar (es.getD i ([], [])) = true)) (fun k => es.length - k) 0 ⟨rfl, rfl, rfl, rfl, trivial⟩ (Sub.refl _) ⟨rfl, (by (try dsimp only) <;> omega), (fun i hi => absurd hi (by omega))⟩ ?_
  rintro k rE _ _ ⟨rfl, hk, hall⟩
  show X _ _ _ _ (envs [(0, esv), (1, .func (.func 126) #[] #[ptr b 0]), (7, .int .i64 ((((es).length : Nat) : Int))), (8, .int .i64 (((k : Nat) : Int)))] rE) _ (L)
  refine X.seq ?_
  refine X.region ?_
  refine XL.cons (XOp.lss (a := ((k : Nat) : Int)) (b := (((es).length : Nat) : Int)) rfl rfl ?_)
  refine XL.nil ?_
  refine X.seq ?_
  refine X.condD (p := (((k : Nat) : Int) : Int) < (((es).length : Nat) : Int)) rfl (fun h1 => ?_) (fun h1 => ?_)
  · refine X.skip ?_
    refine X.seq ?_
    refine X.block ?_
    refine X.seq ?_
    refine X.region ?_
    refine XL.cons (XOp.move (.int .i64 (((k : Nat) : Int))) rfl ?_)
    refine XL.cons (XOp.assign (.int .i64 (((k : Nat) : Int))) rfl ?_)
    refine XL.nil ?_
    refine X.seq ?_
    refine X.region ?_
    refine XL.cons (XOp.move (.func (.func 126) #[] #[ptr b 0]) rfl ?_)
    refine XL.cons (XOp.move (esv) rfl ?_)
    refine XL.cons (XOp.move (.int .i64 (((k : Nat) : Int))) rfl ?_)
    refine XL.cons (XOp.indexS (v := esv) (i := ((k : Nat) : Int)) (n := (es).length) k Tryz.runUnderlying50 Tryz.sizeOf104 rfl rfl rfl hes.slv (by omega) rfl ?_)
    obtain ⟨a1, a2, ha1, ha2, hr1, hr2⟩ := hes.rd (i := k) (by omega)
    refine XL.cons (XOp.loadN [a1, a2] Tryz.isAgg104 Tryz.sizeOf104 rfl rfl (Rd.two (hr1 _) (hr2 _)) ?_)
    refine XL.cons (XOp.callV (first := []) (captured := [ptr b 0]) (args := [.agg #[a1, a2], ptr b 0]) Tryz.call126 rfl rfl (EqsOk1_spec ha1 ha2 har hzb) ?_)
    rintro _ _ _ _ ⟨rfl, rfl, rfl⟩
    refine XL.nil ?_
    refine X.cond (t := !(eqOkL ar (((es.getD k ([], [])).1), ((es.getD k ([], [])).2)))) rfl (fun h2 => ?_) (fun h2 => ?_)
    · refine X.seq ?_
      refine X.region ?_
      refine XL.cons (XOp.move (.int .i64 (((k : Nat) : Int))) rfl ?_)
      refine XL.cons (XOp.assign (.int .i64 (((k : Nat) : Int))) rfl ?_)
      refine XL.nil ?_
      refine X.ret (blockQ_ret (thenQ_ret (thenQ_ret (blockQ_ret (thenQ_ret (retEnd (L' := L) [.int .i64 (((k : Nat) : Int))] (.int .i64 (((k : Nat) : Int))) (.tmp rfl .nil) rfl (FLe.refl _) (FLe.refl _) (Sub.refl _) ?_))))))
      exact ⟨(congrArg (Value.int .i64) (badG_at ([], []) (by omega) (by simp_all) hall)), rfl, rfl⟩
    · refine X.skip ?_
      refine X.region ?_
      refine XL.cons (XOp.addR (a := ((k : Nat) : Int)) (b := 1) (((k + 1 : Nat) : Int)) rfl rfl (by omega) (by omega) ?_)
      refine XL.cons (XOp.move (.int .i64 (((k + 1 : Nat) : Int))) rfl ?_)
      refine XL.nil ?_
      exact ⟨k + 1, _, FLe.refl _, (FLe.refl _), ⟨rfl, rfl, rfl, rfl, trivial⟩, (Sub.refl _), ⟨rfl, (by (try dsimp only) <;> omega), (fun i hi => (Nat.lt_or_ge i k).elim (fun h => hall i h) (fun h => by obtain rfl : i = k := (by omega); simp_all))⟩, (by omega)⟩
  · refine X.exit (thenQ_exit (thenQ_exit (blockQ_exit ?_)))
    refine X.seq ?_
    refine X.region ?_
    refine XL.cons (XOp.assign (.int .i64 (-1)) rfl ?_)
    refine XL.nil ?_
    refine X.ret (retEnd (L' := L) [.int .i64 (-1)] (.int .i64 (-1)) (.tmp rfl .nil) rfl (FLe.refl _) (FLe.refl _) (Sub.refl _) ?_)
    exact ⟨(congrArg (Value.int .i64) (badG_none ([], []) (fun i hi => hall i (by omega)))), rfl, rfl⟩

/- slices.ContainsFunc[[]impl.Eq,impl.Eq] -/
theorem ContainsFuncEq_spec {F : FH} {L : List HP} {esv : Value} {es : List (List Int × List Int)} (hes : PairsF F esv es) {arv : Value} {ar : List Int} (har : IntsF F arv ar) {b : Nat} (hzb : FzC F b [arv]) (hlt : es.length ≤ 4000000) :
    Does Tryz.prog 125 [esv, .func (.func 126) #[] #[ptr b 0]] F (L) (fun v F' L' => (.bool (decide (badG (eqOkL ar) es ≥ 0)) : Value) = v ∧ F = F' ∧ L = L') := by
  refine Does.of_X Tryz.func125 rfl rfl rfl ?_
  refine X.seq ?_
  refine X.region ?_
  refine XL.cons (XOp.assign (.bool (false)) rfl ?_)
  refine XL.nil ?_
  refine X.seq ?_
  refine X.region ?_
  refine XL.cons (XOp.move (esv) rfl ?_)
  refine XL.cons (XOp.move (.func (.func 126) #[] #[ptr b 0]) rfl ?_)
  refine XL.cons (XOp.call (args := [esv, .func (.func 126) #[] #[ptr b 0]]) Tryz.call163 rfl (IndexFuncEq_spec hes har hzb (hlt := (by first | assumption | rfl | omega | (left; simp; done) | (right; simp; done)))) ?_)
  rintro _ _ _ _ ⟨rfl, rfl, rfl⟩
  refine XL.cons (XOp.geq (a := badG (eqOkL ar) es) (b := 0) rfl rfl ?_)
  refine XL.cons (XOp.assign (.bool (decide ((badG (eqOkL ar) es : Int) ≥ 0))) rfl ?_)
  refine XL.nil ?_
  refine X.ret (retEnd (L' := L) [.bool (decide ((badG (eqOkL ar) es : Int) ≥ 0))] (.bool (decide ((badG (eqOkL ar) es : Int) ≥ 0))) (.tmp rfl .nil) rfl (FLe.refl _) (FLe.refl _) (Sub.refl _) ?_)
  exact ⟨rfl, rfl, rfl⟩

/- impl.EqsOk -/
theorem EqsOk_spec {F : FH} {L : List HP} {arv : Value} {ar : List Int} (har : IntsF F arv ar) {esv : Value} {es : List (List Int × List Int)} (hes : PairsF F esv es) :
    Does Tryz.prog 74 [.agg #[arv], esv] F (L) (fun v F' L' => (.bool (eqsOkL ar es) : Value) = v ∧ F = F' ∧ L = L') := by
  refine Does.of_X Tryz.func74 rfl rfl rfl ?_
  refine X.seq ?_
  refine X.region ?_
  refine XL.cons (XOp.box [arv] rfl rfl ?_)
  intro b1
  refine XL.cons (XOp.assign (.bool (false)) rfl ?_)
  refine XL.nil ?_
  refine X.seq ?_
  refine X.seq ?_
  refine X.region ?_
  refine XL.cons (XOp.loadN [arv] Tryz.isAgg34 Tryz.sizeOf34 rfl rfl (Rd.ownN [] rfl rfl) ?_)
  refine XL.cons (XOp.call (args := [.agg #[arv]]) Tryz.call123 rfl (SigOk_spec har) ?_)
  rintro _ _ _ _ ⟨rfl, rfl, rfl⟩
  refine XL.cons (XOp.notB (b := sigOk ar) rfl ?_)
  refine XL.cons (XOp.move (.bool (!(sigOk ar))) rfl ?_)
  by_cases h1 : (!(sigOk ar)) = true
  · refine XL.no (t := 8) rfl (congrArg Value.bool h1) ?_
    refine XL.no (t := 8) rfl (congrArg Value.bool h1) ?_
    refine XL.no (t := 8) rfl (congrArg Value.bool h1) ?_
    refine XL.cons (XOp.pickT (.bool (true)) (congrArg Value.bool h1) rfl ?_)
    refine XL.nil ?_
    refine X.condT rfl ?_
    refine X.seq ?_
    refine X.region ?_
    refine XL.cons (XOp.assign (.bool (false)) rfl ?_)
    refine XL.nil ?_
    refine X.ret (thenQ_ret (retEnd (L' := L) [.bool (false)] (.bool (false)) (.tmp rfl .nil) rfl (FLe.refl _) (FLe.refl _) (Sub.drop (Sub.refl _)) ?_))
    exact ⟨(congrArg Value.bool (by unfold eqsOkL; simp_all <;> omega)), rfl, rfl⟩
  · rw [Bool.not_eq_true] at h1
    refine XL.yes (t := 8) rfl (congrArg Value.bool h1) (XOp.move (esv) rfl ?_)
    refine XL.yes (t := 8) rfl (congrArg Value.bool h1) (XOp.lenS (v := esv) (n := (es).length) Tryz.runUnderlying50 rfl hes.slv ?_)
    refine XL.yes (t := 8) rfl (congrArg Value.bool h1) (XOp.gtr (a := (((es).length : Nat) : Int)) (b := 12) rfl rfl ?_)
    refine XL.cons (XOp.pickF (.bool (decide (((((es).length : Nat) : Int) : Int) > 12))) (congrArg Value.bool h1) rfl ?_)
    refine XL.nil ?_
    refine X.condD (p := ((((es).length : Nat) : Int) : Int) > 12) rfl (fun h2 => ?_) (fun h2 => ?_)
    · refine X.seq ?_
      refine X.region ?_
      refine XL.cons (XOp.assign (.bool (false)) rfl ?_)
      refine XL.nil ?_
      refine X.ret (thenQ_ret (retEnd (L' := L) [.bool (false)] (.bool (false)) (.tmp rfl .nil) rfl (FLe.refl _) (FLe.refl _) (Sub.drop (Sub.refl _)) ?_))
      exact ⟨(congrArg Value.bool (by unfold eqsOkL; simp_all <;> omega)), rfl, rfl⟩
    · refine X.skip ?_
      refine X.seq ?_
      refine X.region ?_
      refine XL.cons (XOp.move (esv) rfl ?_)
      refine XL.cons (XOp.makeFuncL [] [ptr b1 0] rfl rfl ?_)
      refine XL.freeze [] _ _ rfl (fun F1 le1 hz1 => ?_)
      replace har := har.mono le1
      replace hes := hes.mono le1
      have hf1 : FzC F1 b1 [arv] := Fz.cells hz1
      refine XL.cons (XOp.call (args := [esv, .func (.func 126) #[] #[ptr b1 0]]) Tryz.call125 rfl (ContainsFuncEq_spec hes har hf1 (hlt := (by first | assumption | rfl | omega | (left; simp; done) | (right; simp; done)))) ?_)
      rintro _ _ _ _ ⟨rfl, rfl, rfl⟩
      refine XL.cons (XOp.notD (p := badG (eqOkL ar) es ≥ 0) rfl ?_)
      refine XL.cons (XOp.assign (.bool (decide (¬(badG (eqOkL ar) es ≥ 0)))) rfl ?_)
      refine XL.nil ?_
      refine X.ret (retEnd (L' := L) [.bool (decide (¬(badG (eqOkL ar) es ≥ 0)))] (.bool (decide (¬(badG (eqOkL ar) es ≥ 0)))) (.tmp rfl .nil) rfl (FLe.refl _) le1 (Sub.refl _) ?_)
      exact ⟨(congrArg Value.bool (by unfold eqsOkL; have hb := badG_iff (q := eqOkL ar) (l := es); cases hA : es.all (eqOkL ar) <;> simp_all <;> omega)), rfl, rfl⟩

/- impl.HoldAll -/
theorem HoldAll_spec {F : FH} {L : List HP} {arv : Value} {ar : List Int} (har : IntsF F arv ar) {rsv : Value} {rs : List (List Int × List Int)} (hrs : PairsF F rsv rs) {esv : Value} {es : List (List Int × List Int)} (hes : PairsF F esv es) {n : Int} :
    Does Tryz.prog 35 [.agg #[arv, rsv], esv, .int .i64 (n)] F (L) (fun v F' L' => (.bool (holdL ar rs es n) : Value) = v ∧ F = F' ∧ L = L') := by
  refine Does.of_X Tryz.func35 rfl rfl rfl ?_
  refine X.seq ?_
  refine X.region ?_
  refine XL.cons (XOp.box [arv, rsv] rfl rfl ?_)
  intro b1
  refine XL.cons (XOp.assign (.bool (false)) rfl ?_)
  refine XL.nil ?_
  refine X.seq ?_
  refine X.seq ?_
  refine X.region ?_
  refine XL.cons (XOp.loadN [arv, rsv] Tryz.isAgg37 Tryz.sizeOf37 rfl rfl (Rd.ownN [] rfl rfl) ?_)
  refine XL.cons (XOp.move (.int .i64 (n)) rfl ?_)
  refine XL.cons (XOp.call (args := [.agg #[arv, rsv], .int .i64 (n), (.slice none 0 0)]) Tryz.call81 rfl (wordOk_spec (n := n) har hrs ((SlOf.nilV : RowsF _ _ _)) (hlt := (by first | assumption | rfl | omega | (left; simp; done) | (right; simp; done)))) ?_)
  rintro _ _ _ _ ⟨rfl, rfl, rfl⟩
  refine XL.cons (XOp.notB (b := wordOkL ar rs n ([])) rfl ?_)
  refine XL.cons (XOp.move (.bool (!(wordOkL ar rs n ([])))) rfl ?_)
  by_cases h1 : (!(wordOkL ar rs n ([]))) = true
  · refine XL.no (t := 13) rfl (congrArg Value.bool h1) ?_
    refine XL.no (t := 13) rfl (congrArg Value.bool h1) ?_
    refine XL.no (t := 13) rfl (congrArg Value.bool h1) ?_
    refine XL.no (t := 13) rfl (congrArg Value.bool h1) ?_
    refine XL.no (t := 13) rfl (congrArg Value.bool h1) ?_
    refine XL.cons (XOp.pickT (.bool (true)) (congrArg Value.bool h1) rfl ?_)
    refine XL.nil ?_
    refine X.condT rfl ?_
    refine X.seq ?_
    refine X.region ?_
    refine XL.cons (XOp.assign (.bool (false)) rfl ?_)
    refine XL.nil ?_
    refine X.ret (thenQ_ret (retEnd (L' := L) [.bool (false)] (.bool (false)) (.tmp rfl .nil) rfl (FLe.refl _) (FLe.refl _) (Sub.drop (Sub.refl _)) ?_))
    exact ⟨(congrArg Value.bool (by rw [holdL_word]; simp_all)), rfl, rfl⟩
  · rw [Bool.not_eq_true] at h1
    have hwo : wordOkL ar rs n [] = true := by simpa using h1
    unfold wordOkL at hwo
    simp only [Bool.and_eq_true, decide_eq_true_eq] at hwo
    obtain ⟨⟨hsys, hn0⟩, _⟩ := hwo
    refine XL.yes (t := 13) rfl (congrArg Value.bool h1) (XOp.fieldP (b := b1) (0) Tryz.runUnderlying37 rfl Tryz.sizeOf34 (by decide) rfl rfl ?_)
    refine XL.yes (t := 13) rfl (congrArg Value.bool h1) (XOp.loadN [arv] Tryz.isAgg34 Tryz.sizeOf34 rfl rfl (Rd.ownN [] rfl rfl) ?_)
    refine XL.yes (t := 13) rfl (congrArg Value.bool h1) (XOp.move (esv) rfl ?_)
    refine XL.yes (t := 13) rfl (congrArg Value.bool h1) (XOp.call (args := [.agg #[arv], esv]) Tryz.call74 rfl (EqsOk_spec har hes) ?_)
    rintro _ _ _ _ ⟨rfl, rfl, rfl⟩
    refine XL.yes (t := 13) rfl (congrArg Value.bool h1) (XOp.notB (b := eqsOkL ar es) rfl ?_)
    refine XL.cons (XOp.pickF (.bool (!(eqsOkL ar es))) (congrArg Value.bool h1) rfl ?_)
    refine XL.nil ?_
    refine X.cond (t := !(eqsOkL ar es)) rfl (fun h2 => ?_) (fun h2 => ?_)
    · refine X.seq ?_
      refine X.region ?_
      refine XL.cons (XOp.assign (.bool (false)) rfl ?_)
      refine XL.nil ?_
      refine X.ret (thenQ_ret (retEnd (L' := L) [.bool (false)] (.bool (false)) (.tmp rfl .nil) rfl (FLe.refl _) (FLe.refl _) (Sub.drop (Sub.refl _)) ?_))
      exact ⟨(congrArg Value.bool (by rw [holdL_word]; simp_all)), rfl, rfl⟩
    · have heo : eqsOkL ar es = true := by simpa using h2
      have hel := eqsOk_len heo
      refine X.skip ?_
      refine X.seq ?_
      refine X.seq ?_
      refine X.region ?_
      refine XL.cons (XOp.move (esv) rfl ?_)
      refine XL.cons (XOp.lenS (v := esv) (n := (es).length) Tryz.runUnderlying50 rfl hes.slv ?_)
      refine XL.cons (XOp.move (.int .i64 (0)) rfl ?_)
      refine XL.nil ?_
      refine X.block ?_
      refine X.loop (α := Nat) (fun k => [(2, .int .i64 (n)), (3, ptr b1 0), (20, esv), (21, .int .i64 ((((es).length : Nat) : Int))), (22, .int .i64 (((k : Nat) : Int)))]) (fun k => cellsH b1 [arv, rsv] 37 :: L) (fun k F' => F = F' ∧ (k ≤ es.length) ∧ (∀ i, i < k → eq1 ar rs n.toNat (es.getD i ([], [])) = true)) (fun k => es.length - k) 0 ⟨rfl, rfl, rfl, rfl, rfl, trivial⟩ (Sub.cons (Sub.refl _)) ⟨rfl, (by (try dsimp only) <;> omega), (fun i hi => absurd hi (by omega))⟩ ?_
      rintro k rE _ _ ⟨rfl, hk, hall⟩
      show X _ _ _ _ (envs [(2, .int .i64 (n)), (3, ptr b1 0), (20, esv), (21, .int .i64 ((((es).length : Nat) : Int))), (22, .int .i64 (((k : Nat) : Int)))] rE) _ (cellsH b1 [arv, rsv] 37 :: L)
      have hek := fun (h : k < es.length) => eqsOk_at heo h
      refine X.seq ?_
      refine X.region ?_
      refine XL.cons (XOp.lss (a := ((k : Nat) : Int)) (b := (((es).length : Nat) : Int)) rfl rfl ?_)
      refine XL.nil ?_
      refine X.seq ?_
      refine X.condD (p := (((k : Nat) : Int) : Int) < (((es).length : Nat) : Int)) rfl (fun h3 => ?_) (fun h3 => ?_)
      · refine X.skip ?_
        refine X.seq ?_
        refine X.block ?_
        refine X.seq ?_
        refine X.region ?_
        refine XL.cons (XOp.indexS (v := esv) (i := ((k : Nat) : Int)) (n := (es).length) k Tryz.runUnderlying50 Tryz.sizeOf104 rfl rfl rfl hes.slv (by omega) rfl ?_)
        obtain ⟨a1, a2, ha1, ha2, hr1, hr2⟩ := hes.rd (i := k) (by omega)
        refine XL.cons (XOp.loadN [a1, a2] Tryz.isAgg104 Tryz.sizeOf104 rfl rfl (Rd.two (hr1 _) (hr2 _)) ?_)
        refine XL.cons (XOp.alloc [(.slice none 0 0), (.slice none 0 0)] Tryz.zeroValue104 rfl ?_)
        intro b2
        refine XL.cons (XOp.storeN (vs := [a1, a2]) [] _ [a1, a2] Tryz.sizeOf104 rfl rfl rfl (ones_cons (one_sl (IntsF.isSl ha1)) (ones_cons (one_sl (IntsF.isSl ha2)) ones_nil)) rfl rfl rfl ?_)
        refine XL.nil ?_
        refine X.seq ?_
        refine X.region ?_
        refine XL.cons (XOp.loadN [arv, rsv] Tryz.isAgg37 Tryz.sizeOf37 rfl rfl (Rd.ownN [_] rfl rfl) ?_)
        refine XL.cons (XOp.fieldP (b := b2) (0) Tryz.runUnderlying104 rfl Tryz.sizeOf22 (by decide) rfl rfl ?_)
        refine XL.cons (XOp.load1 (v := a1) Tryz.isAgg22 rfl (Rd.own [] rfl rfl) ?_)
        refine XL.cons (XOp.fieldP (b := b2) (1) Tryz.runUnderlying104 rfl Tryz.sizeOf22 (by decide) rfl rfl ?_)
        refine XL.cons (XOp.load1 (v := a2) Tryz.isAgg22 rfl (Rd.own [] rfl rfl) ?_)
        refine XL.cons (XOp.move (.int .i64 (n)) rfl ?_)
        refine XL.cons (XOp.call (args := [.agg #[arv, rsv], a1, a2, .int .i64 (((n).toNat : Nat) : Int)]) Tryz.call75 (by rw [show (((n).toNat : Nat) : Int) = n from by omega]; rfl) (equalBy_spec (n := (n).toNat) har hrs ha1 ha2 (hsys := (by first | assumption | rfl | omega | (left; simp; done) | (right; simp; done))) (hoa := ((hek (by omega)).1)) (hob := ((hek (by omega)).2)) (hn := (by first | assumption | rfl | omega | (left; simp; done) | (right; simp; done)))) ?_)
        rintro _ _ _ _ ⟨rfl, rfl, rfl⟩
        refine XL.cons (XOp.neq (a := eqN ar rs ((es.getD k ([], [])).1) ((es.getD k ([], [])).2) ((n).toNat)) (b := 1) rfl rfl ?_)
        refine XL.nil ?_
        refine X.condD (p := (eqN ar rs ((es.getD k ([], [])).1) ((es.getD k ([], [])).2) ((n).toNat) : Int) ≠ 1) rfl (fun h4 => ?_) (fun h4 => ?_)
        · refine X.seq ?_
          refine X.region ?_
          refine XL.cons (XOp.assign (.bool (false)) rfl ?_)
          refine XL.nil ?_
          refine X.ret (blockQ_ret (thenQ_ret (thenQ_ret (blockQ_ret (thenQ_ret (retEnd (L' := L) [.bool (false)] (.bool (false)) (.tmp rfl .nil) rfl (FLe.refl _) (FLe.refl _) (Sub.drop (Sub.drop (Sub.refl _))) ?_))))))
          exact ⟨(congrArg Value.bool (by rw [holdL, all_fail ([], []) (k := k) (by omega) (decide_eq_false (by assumption)), Bool.and_false])), rfl, rfl⟩
        · refine X.skip ?_
          refine X.region ?_
          refine XL.cons (XOp.addR (a := ((k : Nat) : Int)) (b := 1) (((k + 1 : Nat) : Int)) rfl rfl (by omega) (by omega) ?_)
          refine XL.cons (XOp.move (.int .i64 (((k + 1 : Nat) : Int))) rfl ?_)
          refine XL.nil ?_
          exact ⟨k + 1, _, FLe.refl _, (FLe.refl _), ⟨rfl, rfl, rfl, rfl, rfl, trivial⟩, (Sub.drop (Sub.cons (Sub.refl _))), ⟨rfl, (by (try dsimp only) <;> omega), (fun i hi => (Nat.lt_or_ge i k).elim (fun h => hall i h) (fun h => by obtain rfl : i = k := (by omega); exact decide_eq_true (Classical.not_not.1 (by assumption))))⟩, (by omega)⟩
      · refine X.exit (thenQ_exit (thenQ_exit (blockQ_exit ?_)))
        refine X.seq ?_
        refine X.region ?_
        refine XL.cons (XOp.assign (.bool (true)) rfl ?_)
        refine XL.nil ?_
        refine X.ret (retEnd (L' := L) [.bool (true)] (.bool (true)) (.tmp rfl .nil) rfl (FLe.refl _) (FLe.refl _) (Sub.drop (Sub.refl _)) ?_)
        exact ⟨(congrArg Value.bool (by rw [holdL, (all_getD_iff ([], [])).2 (fun i hi => hall i (by omega)), hsys, heo, decide_eq_true hn0]; rfl)), rfl, rfl⟩

/- spec.EqOk -/
theorem sEqOk_spec {F : FH} {L : List HP} {arv : Value} {ar : List Int} (har : IntsF F arv ar) {lv : Value} {l : List Int} (hl : IntsF F lv l) {rv : Value} {r : List Int} (hr : IntsF F rv r) (hla : ar.length ≤ 4000000) (hll : l.length ≤ 4000000) (hlr : r.length ≤ 4000000) :
    Does Tryz.prog 122 [.agg #[arv], .agg #[lv, rv]] F (L) (fun v F' L' => (.bool (eqOkL ar (l, r)) : Value) = v ∧ F = F' ∧ L = L') := by
  refine Does.of_X Tryz.func122 rfl rfl rfl ?_
  refine X.seq ?_
  refine X.region ?_
  refine XL.cons (XOp.box [arv] rfl rfl ?_)
  intro b1
  refine XL.cons (XOp.box [lv, rv] rfl rfl ?_)
  intro b2
  refine XL.cons (XOp.assign (.bool (false)) rfl ?_)
  refine XL.nil ?_
  refine X.seq ?_
  refine X.region ?_
  refine XL.cons (XOp.loadN [arv] Tryz.isAgg34 Tryz.sizeOf34 rfl rfl (Rd.ownN [_] rfl rfl) ?_)
  refine XL.cons (XOp.fieldP (b := b2) (0) Tryz.runUnderlying104 rfl Tryz.sizeOf22 (by decide) rfl rfl ?_)
  refine XL.cons (XOp.load1 (v := lv) Tryz.isAgg22 rfl (Rd.own [] rfl rfl) ?_)
  refine XL.cons (XOp.call (args := [.agg #[arv], lv]) Tryz.call87 rfl (sTermOk_spec har hl (hla := (by first | assumption | rfl | omega | (left; simp; done) | (right; simp; done))) (hlt := (by first | assumption | rfl | omega | (left; simp; done) | (right; simp; done)))) ?_)
  rintro _ _ _ _ ⟨rfl, rfl, rfl⟩
  refine XL.cons (XOp.move (.bool (termOk ar l)) rfl ?_)
  by_cases h1 : (termOk ar l) = true
  · refine XL.yes (t := 9) rfl (congrArg Value.bool h1) (XOp.loadN [arv] Tryz.isAgg34 Tryz.sizeOf34 rfl rfl (Rd.ownN [_] rfl rfl) ?_)
    refine XL.yes (t := 9) rfl (congrArg Value.bool h1) (XOp.fieldP (b := b2) (1) Tryz.runUnderlying104 rfl Tryz.sizeOf22 (by decide) rfl rfl ?_)
    refine XL.yes (t := 9) rfl (congrArg Value.bool h1) (XOp.load1 (v := rv) Tryz.isAgg22 rfl (Rd.own [] rfl rfl) ?_)
    refine XL.yes (t := 9) rfl (congrArg Value.bool h1) (XOp.call (args := [.agg #[arv], rv]) Tryz.call87 rfl (sTermOk_spec har hr (hla := (by first | assumption | rfl | omega | (left; simp; done) | (right; simp; done))) (hlt := (by first | assumption | rfl | omega | (left; simp; done) | (right; simp; done)))) ?_)
    rintro _ _ _ _ ⟨rfl, rfl, rfl⟩
    refine XL.cons (XOp.pickT (.bool (termOk ar r)) (congrArg Value.bool h1) rfl ?_)
    refine XL.cons (XOp.assign (.bool (termOk ar r)) rfl ?_)
    refine XL.nil ?_
    refine X.ret (retEnd (L' := L) [.bool (termOk ar r)] (.bool (termOk ar r)) (.tmp rfl .nil) rfl (FLe.refl _) (FLe.refl _) (Sub.drop (Sub.drop (Sub.refl _))) ?_)
    exact ⟨(congrArg Value.bool (by unfold eqOkL; simp_all)), rfl, rfl⟩
  · rw [Bool.not_eq_true] at h1
    refine XL.no (t := 9) rfl (congrArg Value.bool h1) ?_
    refine XL.no (t := 9) rfl (congrArg Value.bool h1) ?_
    refine XL.no (t := 9) rfl (congrArg Value.bool h1) ?_
    refine XL.no (t := 9) rfl (congrArg Value.bool h1) ?_
    refine XL.cons (XOp.pickF (.bool (false)) (congrArg Value.bool h1) rfl ?_)
    refine XL.cons (XOp.assign (.bool (false)) rfl ?_)
    refine XL.nil ?_
    refine X.ret (retEnd (L' := L) [.bool (false)] (.bool (false)) (.tmp rfl .nil) rfl (FLe.refl _) (FLe.refl _) (Sub.drop (Sub.drop (Sub.refl _))) ?_)
    exact ⟨(congrArg Value.bool (by unfold eqOkL; simp_all)), rfl, rfl⟩

/- spec.EqsOk -/
theorem sEqsOk_spec {F : FH} {L : List HP} {arv : Value} {ar : List Int} (har : IntsF F arv ar) {esv : Value} {es : List (List Int × List Int)} (hes : PairsF F esv es) (hla : ar.length ≤ 4000000) (hel : es.length ≤ 4000000) (heb : ∀ i, i < es.length → (es.getD i ([], [])).1.length ≤ 4000000 ∧ (es.getD i ([], [])).2.length ≤ 4000000) :
    Does Tryz.prog 69 [.agg #[arv], esv] F (L) (fun v F' L' => (.bool (eqsOkL ar es) : Value) = v ∧ F = F' ∧ L = L') := by
  refine Does.of_X Tryz.func69 rfl rfl rfl ?_
  refine X.seq ?_
  refine X.region ?_
  refine XL.cons (XOp.box [arv] rfl rfl ?_)
  intro b1
  refine XL.cons (XOp.assign (.bool (false)) rfl ?_)
  refine XL.nil ?_
  refine X.seq ?_
  refine X.seq ?_
  refine X.region ?_
  refine XL.cons (XOp.loadN [arv] Tryz.isAgg34 Tryz.sizeOf34 rfl rfl (Rd.ownN [] rfl rfl) ?_)
  refine XL.cons (XOp.call (args := [.agg #[arv]]) Tryz.call120 rfl (sSigOk_spec har (hla := (by first | assumption | rfl | omega | (left; simp; done) | (right; simp; done)))) ?_)
  rintro _ _ _ _ ⟨rfl, rfl, rfl⟩
  refine XL.cons (XOp.notB (b := sigOk ar) rfl ?_)
  refine XL.cons (XOp.move (.bool (!(sigOk ar))) rfl ?_)
  by_cases h1 : (!(sigOk ar)) = true
  · refine XL.no (t := 9) rfl (congrArg Value.bool h1) ?_
    refine XL.no (t := 9) rfl (congrArg Value.bool h1) ?_
    refine XL.no (t := 9) rfl (congrArg Value.bool h1) ?_
    refine XL.cons (XOp.pickT (.bool (true)) (congrArg Value.bool h1) rfl ?_)
    refine XL.nil ?_
    refine X.condT rfl ?_
    refine X.seq ?_
    refine X.region ?_
    refine XL.cons (XOp.assign (.bool (false)) rfl ?_)
    refine XL.nil ?_
    refine X.ret (thenQ_ret (retEnd (L' := L) [.bool (false)] (.bool (false)) (.tmp rfl .nil) rfl (FLe.refl _) (FLe.refl _) (Sub.drop (Sub.refl _)) ?_))
    exact ⟨(congrArg Value.bool (by unfold eqsOkL; simp_all <;> omega)), rfl, rfl⟩
  · rw [Bool.not_eq_true] at h1
    refine XL.yes (t := 9) rfl (congrArg Value.bool h1) (XOp.move (esv) rfl ?_)
    refine XL.yes (t := 9) rfl (congrArg Value.bool h1) (XOp.lenS (v := esv) (n := (es).length) Tryz.runUnderlying50 rfl hes.slv ?_)
    refine XL.yes (t := 9) rfl (congrArg Value.bool h1) (XOp.gtr (a := (((es).length : Nat) : Int)) (b := 12) rfl rfl ?_)
    refine XL.cons (XOp.pickF (.bool (decide (((((es).length : Nat) : Int) : Int) > 12))) (congrArg Value.bool h1) rfl ?_)
    refine XL.nil ?_
    refine X.condD (p := ((((es).length : Nat) : Int) : Int) > 12) rfl (fun h2 => ?_) (fun h2 => ?_)
    · refine X.seq ?_
      refine X.region ?_
      refine XL.cons (XOp.assign (.bool (false)) rfl ?_)
      refine XL.nil ?_
      refine X.ret (thenQ_ret (retEnd (L' := L) [.bool (false)] (.bool (false)) (.tmp rfl .nil) rfl (FLe.refl _) (FLe.refl _) (Sub.drop (Sub.refl _)) ?_))
      exact ⟨(congrArg Value.bool (by unfold eqsOkL; simp_all <;> omega)), rfl, rfl⟩
    · refine X.skip ?_
      refine X.seq ?_
      refine X.seq ?_
      refine X.region ?_
      refine XL.cons (XOp.assign (.int .i64 (0)) rfl ?_)
      refine XL.nil ?_
      refine X.block ?_
      refine X.loop (α := Nat) (fun k => [(1, esv), (2, ptr b1 0), (5, .int .i64 (((k : Nat) : Int)))]) (fun k => cellsH b1 [arv] 34 :: L) (fun k F' => F = F' ∧ (k ≤ es.length) ∧ (∀ i, i < k → eqOkL ar (es.getD i ([], [])) = true)) (fun k => es.length - k) 0 ⟨rfl, rfl, rfl, trivial⟩ (Sub.cons (Sub.refl _)) ⟨rfl, (by (try dsimp only) <;> omega), (fun i hi => absurd hi (by omega))⟩ ?_
      rintro k rE _ _ ⟨rfl, hk, hall⟩
      show X _ _ _ _ (envs [(1, esv), (2, ptr b1 0), (5, .int .i64 (((k : Nat) : Int)))] rE) _ (cellsH b1 [arv] 34 :: L)
      have hebk := heb k
      refine X.seq ?_
      refine X.seq ?_
      refine X.region ?_
      refine XL.cons (XOp.move (.int .i64 (((k : Nat) : Int))) rfl ?_)
      refine XL.cons (XOp.move (esv) rfl ?_)
      refine XL.cons (XOp.lenS (v := esv) (n := (es).length) Tryz.runUnderlying50 rfl hes.slv ?_)
      refine XL.cons (XOp.lss (a := ((k : Nat) : Int)) (b := (((es).length : Nat) : Int)) rfl rfl ?_)
      refine XL.nil ?_
      refine X.condD (p := (((k : Nat) : Int) : Int) < (((es).length : Nat) : Int)) rfl (fun h3 => ?_) (fun h3 => ?_)
      · refine X.skip ?_
        refine X.seq ?_
        refine X.block ?_
        refine X.seq ?_
        obtain ⟨a1, a2, ha1, ha2, hr1, hr2⟩ := hes.rd (i := k) (by omega)
        refine X.draw [cellsH b1 [arv] 34] L 5 [[], [], [], [], []] [[], [], [], [1, 2], [3]] (phiL [fun us v => v = (.agg #[arv] : Value), fun us v => v = esv, fun us v => v = (.int .i64 (((k : Nat) : Int)) : Value), fun us v => v = (.pointer (some (elemA esv (k * 2))) : Value), fun us v => v = (.agg #[a1, a2] : Value)]) (ownL [fun us v => [], fun us v => [], fun us v => [], fun us v => [], fun us v => []]) mixed rfl rfl (by kernel_rfl) ?_ ?_
        · refine stepsP.cons (fun vals R hpZ => ?_) ?_
          · refine XG.op (XOp.loadN [arv] Tryz.isAgg34 Tryz.sizeOf34 rfl rfl (Rd.ownN [] rfl rfl) ?_)
            exact ⟨rfl, rfl, rfl⟩
          refine stepsP.cons (fun vals R hpZ => ?_) ?_
          · refine XG.op (XOp.move (esv) rfl ?_)
            exact ⟨rfl, rfl, rfl⟩
          refine stepsP.cons (fun vals R hpZ => ?_) ?_
          · refine XG.op (XOp.move (.int .i64 (((k : Nat) : Int))) rfl ?_)
            exact ⟨rfl, rfl, rfl⟩
          refine stepsP.cons (fun vals R hpZ => ?_) ?_
          · rw [(envs_of_sat (l := [(1, esv), (2, (.int .i64 (((k : Nat) : Int)) : Value))]) ⟨hpZ 1 (by decide), hpZ 2 (by decide), trivial⟩).symm]
            refine XG.op (XOp.indexS (v := esv) (i := ((k : Nat) : Int)) (n := (es).length) k Tryz.runUnderlying50 Tryz.sizeOf104 rfl rfl rfl hes.slv (by omega) rfl ?_)
            exact ⟨rfl, rfl, rfl⟩
          refine stepsP.cons (fun vals R hpZ => ?_) ?_
          · rw [(envs_of_sat (l := [(3, (.pointer (some (elemA esv (k * 2))) : Value))]) ⟨hpZ 3 (by decide), trivial⟩).symm]
            refine XG.op (XOp.loadN [a1, a2] Tryz.isAgg104 Tryz.sizeOf104 rfl rfl (Rd.two (hr1 _) (hr2 _)) ?_)
            exact ⟨rfl, rfl, rfl⟩
          exact stepsP.nil
        · intro vals hphi
          have e0 : vals 0 = (.agg #[arv] : Value) := hphi 0 (by decide)
          have e1 : vals 1 = esv := hphi 1 (by decide)
          have e2 : vals 2 = (.int .i64 (((k : Nat) : Int)) : Value) := hphi 2 (by decide)
          have e3 : vals 3 = (.pointer (some (elemA esv (k * 2))) : Value) := hphi 3 (by decide)
          have e4 : vals 4 = (.agg #[a1, a2] : Value) := hphi 4 (by decide)
          rw [(envs_of_sat (l := [(0, (.agg #[arv] : Value)), (1, esv), (2, (.int .i64 (((k : Nat) : Int)) : Value)), (3, (.pointer (some (elemA esv (k * 2))) : Value)), (4, (.agg #[a1, a2] : Value))]) ⟨e0, e1, e2, e3, e4, trivial⟩).symm]
          show XL _ _ _ _ _ _ _ (cellsH b1 [arv] 34 :: L)
          refine XL.cons (XOp.call (args := [.agg #[arv], .agg #[a1, a2]]) Tryz.call122 rfl (sEqOk_spec har ha1 ha2 (hla := (by first | assumption | rfl | omega | (left; simp; done) | (right; simp; done))) (hll := (by first | assumption | rfl | omega | (left; simp; done) | (right; simp; done))) (hlr := (by first | assumption | rfl | omega | (left; simp; done) | (right; simp; done)))) ?_)
          rintro _ _ _ _ ⟨rfl, rfl, rfl⟩
          refine XL.cons (XOp.notB (b := eqOkL ar (((es.getD k ([], [])).1), ((es.getD k ([], [])).2))) rfl ?_)
          refine XL.nil ?_
          refine X.cond (t := !(eqOkL ar (((es.getD k ([], [])).1), ((es.getD k ([], [])).2)))) rfl (fun h4 => ?_) (fun h4 => ?_)
          · refine X.seq ?_
            refine X.region ?_
            refine XL.cons (XOp.assign (.bool (false)) rfl ?_)
            refine XL.nil ?_
            refine X.ret (blockQ_ret (thenQ_ret (thenQ_ret (blockQ_ret (thenQ_ret (retEnd (L' := L) [.bool (false)] (.bool (false)) (.tmp rfl .nil) rfl (FLe.refl _) (FLe.refl _) (Sub.drop (Sub.refl _)) ?_))))))
            exact ⟨(congrArg Value.bool (by rw [eqsOkL, all_fail ([], []) (k := k) (by omega) (by simp_all), Bool.and_false])), rfl, rfl⟩
          · refine X.skip ?_
            refine X.region ?_
            refine XL.cons (XOp.move (.int .i64 (((k : Nat) : Int))) rfl ?_)
            refine XL.cons (XOp.addR (a := ((k : Nat) : Int)) (b := 1) (((k + 1 : Nat) : Int)) rfl rfl (by omega) (by omega) ?_)
            refine XL.cons (XOp.assign (.int .i64 (((k + 1 : Nat) : Int))) rfl ?_)
            refine XL.nil ?_
            exact ⟨k + 1, _, FLe.refl _, (FLe.refl _), ⟨rfl, rfl, rfl, trivial⟩, (Sub.cons (Sub.refl _)), ⟨rfl, (by (try dsimp only) <;> omega), (fun i hi => (Nat.lt_or_ge i k).elim (fun h => hall i h) (fun h => by obtain rfl : i = k := (by omega); simp_all))⟩, (by omega)⟩
      · refine X.exit (thenQ_exit (thenQ_exit (blockQ_exit ?_)))
        refine X.seq ?_
        refine X.region ?_
        refine XL.cons (XOp.assign (.bool (true)) rfl ?_)
        refine XL.nil ?_
        refine X.ret (retEnd (L' := L) [.bool (true)] (.bool (true)) (.tmp rfl .nil) rfl (FLe.refl _) (FLe.refl _) (Sub.drop (Sub.refl _)) ?_)
        exact ⟨(congrArg Value.bool (by rw [eqsOkL, (all_getD_iff ([], [])).2 (fun i hi => hall i (by omega))]; simp_all <;> omega)), rfl, rfl⟩

/- spec.HoldAll -/
theorem sHoldAll_spec {F : FH} {L : List HP} {arv : Value} {ar : List Int} (har : IntsF F arv ar) {rsv : Value} {rs : List (List Int × List Int)} (hrs : PairsF F rsv rs) {esv : Value} {es : List (List Int × List Int)} (hes : PairsF F esv es) {n : Int} (hla : ar.length ≤ 4000000) (hlr : rs.length ≤ 4000000) (hrb : ∀ i, i < rs.length → (rs.getD i ([], [])).1.length ≤ 4000000 ∧ (rs.getD i ([], [])).2.length ≤ 4000000) (hel : es.length ≤ 4000000) (heb : ∀ i, i < es.length → (es.getD i ([], [])).1.length ≤ 4000000 ∧ (es.getD i ([], [])).2.length ≤ 4000000) :
    Does Tryz.prog 34 [.agg #[arv, rsv], esv, .int .i64 (n)] F (L) (fun v F' L' => (.bool (holdL ar rs es n) : Value) = v ∧ F = F' ∧ L = L') := by
  refine Does.of_X Tryz.func34 rfl rfl rfl ?_
  refine X.seq ?_
  refine X.region ?_
  refine XL.cons (XOp.box [arv, rsv] rfl rfl ?_)
  intro b1
  refine XL.cons (XOp.assign (.bool (false)) rfl ?_)
  refine XL.nil ?_
  refine X.seq ?_
  refine X.seq ?_
  refine X.region ?_
  refine XL.cons (XOp.loadN [arv, rsv] Tryz.isAgg37 Tryz.sizeOf37 rfl rfl (Rd.ownN [] rfl rfl) ?_)
  refine XL.cons (XOp.call (args := [.agg #[arv, rsv]]) Tryz.call68 rfl (sSystemOk_spec har hrs (hla := (by first | assumption | rfl | omega | (left; simp; done) | (right; simp; done))) (hlr := (by first | assumption | rfl | omega | (left; simp; done) | (right; simp; done))) (hrb := (by first | assumption | rfl | omega | (left; simp; done) | (right; simp; done)))) ?_)
  rintro _ _ _ _ ⟨rfl, rfl, rfl⟩
  refine XL.cons (XOp.notB (b := sysOk ar rs) rfl ?_)
  refine XL.cons (XOp.move (.bool (!(sysOk ar rs))) rfl ?_)
  by_cases h1 : (!(sysOk ar rs)) = true
  · refine XL.no (t := 11) rfl (congrArg Value.bool h1) ?_
    refine XL.no (t := 11) rfl (congrArg Value.bool h1) ?_
    refine XL.no (t := 11) rfl (congrArg Value.bool h1) ?_
    refine XL.no (t := 11) rfl (congrArg Value.bool h1) ?_
    refine XL.no (t := 11) rfl (congrArg Value.bool h1) ?_
    refine XL.cons (XOp.pickT (.bool (true)) (congrArg Value.bool h1) rfl ?_)
    refine XL.cons (XOp.move (.bool (true)) rfl ?_)
    refine XL.no (t := 18) rfl rfl ?_
    refine XL.no (t := 18) rfl rfl ?_
    refine XL.no (t := 18) rfl rfl ?_
    refine XL.cons (XOp.pickT (.bool (true)) rfl rfl ?_)
    refine XL.nil ?_
    refine X.condT rfl ?_
    refine X.seq ?_
    refine X.region ?_
    refine XL.cons (XOp.assign (.bool (false)) rfl ?_)
    refine XL.nil ?_
    refine X.ret (thenQ_ret (retEnd (L' := L) [.bool (false)] (.bool (false)) (.tmp rfl .nil) rfl (FLe.refl _) (FLe.refl _) (Sub.drop (Sub.refl _)) ?_))
    exact ⟨(congrArg Value.bool (by unfold holdL; simp_all <;> omega)), rfl, rfl⟩
  · rw [Bool.not_eq_true] at h1
    have hsys : sysOk ar rs = true := by simpa using h1
    refine XL.yes (t := 11) rfl (congrArg Value.bool h1) (XOp.fieldP (b := b1) (0) Tryz.runUnderlying37 rfl Tryz.sizeOf34 (by decide) rfl rfl ?_)
    refine XL.yes (t := 11) rfl (congrArg Value.bool h1) (XOp.loadN [arv] Tryz.isAgg34 Tryz.sizeOf34 rfl rfl (Rd.ownN [] rfl rfl) ?_)
    refine XL.yes (t := 11) rfl (congrArg Value.bool h1) (XOp.move (esv) rfl ?_)
    refine XL.yes (t := 11) rfl (congrArg Value.bool h1) (XOp.call (args := [.agg #[arv], esv]) Tryz.call69 rfl (sEqsOk_spec har hes (hla := (by first | assumption | rfl | omega | (left; simp; done) | (right; simp; done))) (hel := (by first | assumption | rfl | omega | (left; simp; done) | (right; simp; done))) (heb := (by first | assumption | rfl | omega | (left; simp; done) | (right; simp; done)))) ?_)
    rintro _ _ _ _ ⟨rfl, rfl, rfl⟩
    refine XL.yes (t := 11) rfl (congrArg Value.bool h1) (XOp.notB (b := eqsOkL ar es) rfl ?_)
    refine XL.cons (XOp.pickF (.bool (!(eqsOkL ar es))) (congrArg Value.bool h1) rfl ?_)
    refine XL.cons (XOp.move (.bool (!(eqsOkL ar es))) rfl ?_)
    by_cases h2 : (!(eqsOkL ar es)) = true
    · refine XL.no (t := 18) rfl (congrArg Value.bool h2) ?_
      refine XL.no (t := 18) rfl (congrArg Value.bool h2) ?_
      refine XL.no (t := 18) rfl (congrArg Value.bool h2) ?_
      refine XL.cons (XOp.pickT (.bool (true)) (congrArg Value.bool h2) rfl ?_)
      refine XL.nil ?_
      refine X.condT rfl ?_
      refine X.seq ?_
      refine X.region ?_
      refine XL.cons (XOp.assign (.bool (false)) rfl ?_)
      refine XL.nil ?_
      refine X.ret (thenQ_ret (retEnd (L' := L) [.bool (false)] (.bool (false)) (.tmp rfl .nil) rfl (FLe.refl _) (FLe.refl _) (Sub.drop (Sub.refl _)) ?_))
      exact ⟨(congrArg Value.bool (by unfold holdL; simp_all <;> omega)), rfl, rfl⟩
    · rw [Bool.not_eq_true] at h2
      have heo : eqsOkL ar es = true := by simpa using h2
      have hel := eqsOk_len heo
      refine XL.yes (t := 18) rfl (congrArg Value.bool h2) (XOp.move (.int .i64 (n)) rfl ?_)
      refine XL.yes (t := 18) rfl (congrArg Value.bool h2) (XOp.call (args := [.int .i64 (n), .int .i64 (0), .int .i64 (60)]) Tryz.call86 rfl (l1In_spec (n := n) (a := 0) (b := 60)) ?_)
      rintro _ _ _ _ ⟨rfl, rfl, rfl⟩
      refine XL.yes (t := 18) rfl (congrArg Value.bool h2) (XOp.notD (p := 0 ≤ n ∧ n ≤ 60) rfl ?_)
      refine XL.cons (XOp.pickF (.bool (decide (¬(0 ≤ n ∧ n ≤ 60)))) (congrArg Value.bool h2) rfl ?_)
      refine XL.nil ?_
      refine X.condD (p := ¬(0 ≤ n ∧ n ≤ 60)) rfl (fun h3 => ?_) (fun h3 => ?_)
      · refine X.seq ?_
        refine X.region ?_
        refine XL.cons (XOp.assign (.bool (false)) rfl ?_)
        refine XL.nil ?_
        refine X.ret (thenQ_ret (retEnd (L' := L) [.bool (false)] (.bool (false)) (.tmp rfl .nil) rfl (FLe.refl _) (FLe.refl _) (Sub.drop (Sub.refl _)) ?_))
        exact ⟨(congrArg Value.bool (by unfold holdL; simp_all <;> omega)), rfl, rfl⟩
      · refine X.skip ?_
        refine X.seq ?_
        refine X.seq ?_
        refine X.region ?_
        have hn0 : 0 ≤ n ∧ n ≤ 60 := by omega
        refine XL.cons (XOp.assign (.int .i64 (0)) rfl ?_)
        refine XL.nil ?_
        refine X.block ?_
        refine X.loop (α := Nat) (fun k => [(1, esv), (2, .int .i64 (n)), (3, ptr b1 0), (7, .int .i64 (((k : Nat) : Int)))]) (fun k => cellsH b1 [arv, rsv] 37 :: L) (fun k F' => F = F' ∧ (k ≤ es.length) ∧ (∀ i, i < k → eq1 ar rs n.toNat (es.getD i ([], [])) = true)) (fun k => es.length - k) 0 ⟨rfl, rfl, rfl, rfl, trivial⟩ (Sub.cons (Sub.refl _)) ⟨rfl, (by (try dsimp only) <;> omega), (fun i hi => absurd hi (by omega))⟩ ?_
        rintro k rE _ _ ⟨rfl, hk, hall⟩
        show X _ _ _ _ (envs [(1, esv), (2, .int .i64 (n)), (3, ptr b1 0), (7, .int .i64 (((k : Nat) : Int)))] rE) _ (cellsH b1 [arv, rsv] 37 :: L)
        have hek := fun (h : k < es.length) => eqsOk_at heo h
        have hebk := heb k
        have hqk := fun (h : k < es.length) => eqB_eqN (n := n) (right_iff.2 ⟨hsys, (hek h).1⟩) (right_iff.2 ⟨hsys, (hek h).2⟩) hn0
        refine X.seq ?_
        refine X.seq ?_
        refine X.region ?_
        refine XL.cons (XOp.move (.int .i64 (((k : Nat) : Int))) rfl ?_)
        refine XL.cons (XOp.move (esv) rfl ?_)
        refine XL.cons (XOp.lenS (v := esv) (n := (es).length) Tryz.runUnderlying50 rfl hes.slv ?_)
        refine XL.cons (XOp.lss (a := ((k : Nat) : Int)) (b := (((es).length : Nat) : Int)) rfl rfl ?_)
        refine XL.nil ?_
        refine X.condD (p := (((k : Nat) : Int) : Int) < (((es).length : Nat) : Int)) rfl (fun h4 => ?_) (fun h4 => ?_)
        · refine X.skip ?_
          refine X.seq ?_
          refine X.block ?_
          refine X.seq ?_
          obtain ⟨a1, a2, ha1, ha2, hr1, hr2⟩ := hes.rd (i := k) (by omega)
          refine X.draw [cellsH b1 [arv, rsv] 37] L 12 [[], [], [], [], [], [], [], [], [], [], [], []] [[], [], [], [1, 2], [3], [4], [], [], [6, 7], [8], [9], []] (phiL [fun us v => v = (.agg #[arv, rsv] : Value), fun us v => v = esv, fun us v => v = (.int .i64 (((k : Nat) : Int)) : Value), fun us v => v = (.pointer (some (elemA esv (k * 2))) : Value), fun us v => v = (.pointer (some (elemA esv (k * 2))) : Value), fun us v => v = a1, fun us v => v = esv, fun us v => v = (.int .i64 (((k : Nat) : Int)) : Value), fun us v => v = (.pointer (some (elemA esv (k * 2))) : Value), fun us v => v = (.pointer (some (elemA esv (k * 2 + 1))) : Value), fun us v => v = a2, fun us v => v = (.int .i64 (n) : Value)]) (ownL [fun us v => [], fun us v => [], fun us v => [], fun us v => [], fun us v => [], fun us v => [], fun us v => [], fun us v => [], fun us v => [], fun us v => [], fun us v => [], fun us v => []]) mixed rfl rfl (by kernel_rfl) ?_ ?_
          · refine stepsP.cons (fun vals R hpZ => ?_) ?_
            · refine XG.op (XOp.loadN [arv, rsv] Tryz.isAgg37 Tryz.sizeOf37 rfl rfl (Rd.ownN [] rfl rfl) ?_)
              exact ⟨rfl, rfl, rfl⟩
            refine stepsP.cons (fun vals R hpZ => ?_) ?_
            · refine XG.op (XOp.move (esv) rfl ?_)
              exact ⟨rfl, rfl, rfl⟩
            refine stepsP.cons (fun vals R hpZ => ?_) ?_
            · refine XG.op (XOp.move (.int .i64 (((k : Nat) : Int))) rfl ?_)
              exact ⟨rfl, rfl, rfl⟩
            refine stepsP.cons (fun vals R hpZ => ?_) ?_
            · rw [(envs_of_sat (l := [(1, esv), (2, (.int .i64 (((k : Nat) : Int)) : Value))]) ⟨hpZ 1 (by decide), hpZ 2 (by decide), trivial⟩).symm]
              refine XG.op (XOp.indexS (v := esv) (i := ((k : Nat) : Int)) (n := (es).length) k Tryz.runUnderlying50 Tryz.sizeOf104 rfl rfl rfl hes.slv (by omega) rfl ?_)
              exact ⟨rfl, rfl, rfl⟩
            refine stepsP.cons (fun vals R hpZ => ?_) ?_
            · rw [(envs_of_sat (l := [(3, (.pointer (some (elemA esv (k * 2))) : Value))]) ⟨hpZ 3 (by decide), trivial⟩).symm]
              refine XG.op (XOp.fieldE (v := esv) (k * 2) Tryz.runUnderlying104 rfl Tryz.sizeOf22 (by decide) rfl rfl ?_)
              exact ⟨rfl, rfl, rfl⟩
            refine stepsP.cons (fun vals R hpZ => ?_) ?_
            · rw [(envs_of_sat (l := [(4, (.pointer (some (elemA esv (k * 2))) : Value))]) ⟨hpZ 4 (by decide), trivial⟩).symm]
              refine XG.op (XOp.load1 (v := a1) Tryz.isAgg22 rfl (hr1 _) ?_)
              exact ⟨rfl, rfl, rfl⟩
            refine stepsP.cons (fun vals R hpZ => ?_) ?_
            · refine XG.op (XOp.move (esv) rfl ?_)
              exact ⟨rfl, rfl, rfl⟩
            refine stepsP.cons (fun vals R hpZ => ?_) ?_
            · refine XG.op (XOp.move (.int .i64 (((k : Nat) : Int))) rfl ?_)
              exact ⟨rfl, rfl, rfl⟩
            refine stepsP.cons (fun vals R hpZ => ?_) ?_
            · rw [(envs_of_sat (l := [(6, esv), (7, (.int .i64 (((k : Nat) : Int)) : Value))]) ⟨hpZ 6 (by decide), hpZ 7 (by decide), trivial⟩).symm]
              refine XG.op (XOp.indexS (v := esv) (i := ((k : Nat) : Int)) (n := (es).length) k Tryz.runUnderlying50 Tryz.sizeOf104 rfl rfl rfl hes.slv (by omega) rfl ?_)
              exact ⟨rfl, rfl, rfl⟩
            refine stepsP.cons (fun vals R hpZ => ?_) ?_
            · rw [(envs_of_sat (l := [(8, (.pointer (some (elemA esv (k * 2))) : Value))]) ⟨hpZ 8 (by decide), trivial⟩).symm]
              refine XG.op (XOp.fieldE (v := esv) (k * 2 + 1) Tryz.runUnderlying104 rfl Tryz.sizeOf22 (by decide) rfl rfl ?_)
              exact ⟨rfl, rfl, rfl⟩
            refine stepsP.cons (fun vals R hpZ => ?_) ?_
            · rw [(envs_of_sat (l := [(9, (.pointer (some (elemA esv (k * 2 + 1))) : Value))]) ⟨hpZ 9 (by decide), trivial⟩).symm]
              refine XG.op (XOp.load1 (v := a2) Tryz.isAgg22 rfl (hr2 _) ?_)
              exact ⟨rfl, rfl, rfl⟩
            refine stepsP.cons (fun vals R hpZ => ?_) ?_
            · refine XG.op (XOp.move (.int .i64 (n)) rfl ?_)
              exact ⟨rfl, rfl, rfl⟩
            exact stepsP.nil
          · intro vals hphi
            have e0 : vals 0 = (.agg #[arv, rsv] : Value) := hphi 0 (by decide)
            have e1 : vals 1 = esv := hphi 1 (by decide)
            have e2 : vals 2 = (.int .i64 (((k : Nat) : Int)) : Value) := hphi 2 (by decide)
            have e3 : vals 3 = (.pointer (some (elemA esv (k * 2))) : Value) := hphi 3 (by decide)
            have e4 : vals 4 = (.pointer (some (elemA esv (k * 2))) : Value) := hphi 4 (by decide)
            have e5 : vals 5 = a1 := hphi 5 (by decide)
            have e6 : vals 6 = esv := hphi 6 (by decide)
            have e7 : vals 7 = (.int .i64 (((k : Nat) : Int)) : Value) := hphi 7 (by decide)
            have e8 : vals 8 = (.pointer (some (elemA esv (k * 2))) : Value) := hphi 8 (by decide)
            have e9 : vals 9 = (.pointer (some (elemA esv (k * 2 + 1))) : Value) := hphi 9 (by decide)
            have e10 : vals 10 = a2 := hphi 10 (by decide)
            have e11 : vals 11 = (.int .i64 (n) : Value) := hphi 11 (by decide)
            rw [(envs_of_sat (l := [(0, (.agg #[arv, rsv] : Value)), (1, esv), (2, (.int .i64 (((k : Nat) : Int)) : Value)), (3, (.pointer (some (elemA esv (k * 2))) : Value)), (4, (.pointer (some (elemA esv (k * 2))) : Value)), (5, a1), (6, esv), (7, (.int .i64 (((k : Nat) : Int)) : Value)), (8, (.pointer (some (elemA esv (k * 2))) : Value)), (9, (.pointer (some (elemA esv (k * 2 + 1))) : Value)), (10, a2), (11, (.int .i64 (n) : Value))]) ⟨e0, e1, e2, e3, e4, e5, e6, e7, e8, e9, e10, e11, trivial⟩).symm]
            show XL _ _ _ _ _ _ _ (cellsH b1 [arv, rsv] 37 :: L)
            refine XL.cons (XOp.call (args := [.agg #[arv, rsv], a1, a2, .int .i64 (n)]) Tryz.call49 rfl (sEqualBy_spec (n := n) har hrs ha1 ha2 (hla := (by first | assumption | rfl | omega | (left; simp; done) | (right; simp; done))) (hlr := (by first | assumption | rfl | omega | (left; simp; done) | (right; simp; done))) (hrb := (by first | assumption | rfl | omega | (left; simp; done) | (right; simp; done))) (hlta := (by first | assumption | rfl | omega | (left; simp; done) | (right; simp; done))) (hltb := (by first | assumption | rfl | omega | (left; simp; done) | (right; simp; done)))) ?_)
            rintro _ _ _ _ ⟨rfl, rfl, rfl⟩
            refine XL.cons (XOp.neq (a := eqB ar rs ((es.getD k ([], [])).1) ((es.getD k ([], [])).2) n) (b := 1) rfl rfl ?_)
            refine XL.nil ?_
            refine X.condD (p := (eqB ar rs ((es.getD k ([], [])).1) ((es.getD k ([], [])).2) n : Int) ≠ 1) rfl (fun h5 => ?_) (fun h5 => ?_)
            · refine X.seq ?_
              refine X.region ?_
              refine XL.cons (XOp.assign (.bool (false)) rfl ?_)
              refine XL.nil ?_
              refine X.ret (blockQ_ret (thenQ_ret (thenQ_ret (blockQ_ret (thenQ_ret (retEnd (L' := L) [.bool (false)] (.bool (false)) (.tmp rfl .nil) rfl (FLe.refl _) (FLe.refl _) (Sub.drop (Sub.refl _)) ?_))))))
              exact ⟨(congrArg Value.bool (by rw [holdL, all_fail ([], []) (k := k) (by omega) (decide_eq_false (by rw [← hqk (by omega)]; assumption)), Bool.and_false])), rfl, rfl⟩
            · refine X.skip ?_
              refine X.region ?_
              refine XL.cons (XOp.move (.int .i64 (((k : Nat) : Int))) rfl ?_)
              refine XL.cons (XOp.addR (a := ((k : Nat) : Int)) (b := 1) (((k + 1 : Nat) : Int)) rfl rfl (by omega) (by omega) ?_)
              refine XL.cons (XOp.assign (.int .i64 (((k + 1 : Nat) : Int))) rfl ?_)
              refine XL.nil ?_
              exact ⟨k + 1, _, FLe.refl _, (FLe.refl _), ⟨rfl, rfl, rfl, rfl, trivial⟩, (Sub.cons (Sub.refl _)), ⟨rfl, (by (try dsimp only) <;> omega), (fun i hi => (Nat.lt_or_ge i k).elim (fun h => hall i h) (fun h => by obtain rfl : i = k := (by omega); exact decide_eq_true (by rw [← hqk (by omega)]; exact Classical.not_not.1 (by assumption))))⟩, (by omega)⟩
        · refine X.exit (thenQ_exit (thenQ_exit (blockQ_exit ?_)))
          refine X.seq ?_
          refine X.region ?_
          refine XL.cons (XOp.assign (.bool (true)) rfl ?_)
          refine XL.nil ?_
          refine X.ret (retEnd (L' := L) [.bool (true)] (.bool (true)) (.tmp rfl .nil) rfl (FLe.refl _) (FLe.refl _) (Sub.drop (Sub.refl _)) ?_)
          exact ⟨(congrArg Value.bool (by rw [holdL, (all_getD_iff ([], [])).2 (fun i hi => hall i (by omega)), hsys, heo, decide_eq_true hn0]; rfl)), rfl, rfl⟩

/- laws.FnExactHoldAll -/
set_option maxRecDepth 20000 in
theorem FnExactHoldAll_does {F : FH} {L : List HP} {arv : Value} {ar : List Int} (har : IntsF F arv ar) {rsv : Value} {rs : List (List Int × List Int)} (hrs : PairsF F rsv rs) {esv : Value} {es : List (List Int × List Int)} (hes : PairsF F esv es) {n : Int} (hlar : ar.length ≤ 9223372036854775807) (hlrs : rs.length ≤ 9223372036854775807) (hbrs : ∀ i, i < rs.length → (rs.getD i ([], [])).1.length ≤ 9223372036854775807 ∧ (rs.getD i ([], [])).2.length ≤ 9223372036854775807) (hles : es.length ≤ 9223372036854775807) (hbes : ∀ i, i < es.length → (es.getD i ([], [])).1.length ≤ 9223372036854775807 ∧ (es.getD i ([], [])).2.length ≤ 9223372036854775807) :
    Does Tryz.prog 6 [.agg #[arv, rsv], esv, .int .i64 (n)] F (L) (fun v F' L' => (.bool (true) : Value) = v ∧ F = F' ∧ L = L') := by
  refine Does.of_X Tryz.func6 rfl rfl rfl ?_
  refine X.seq ?_
  refine X.region ?_
  refine XL.cons (XOp.box [arv, rsv] rfl rfl ?_)
  intro b1
  refine XL.cons (XOp.assign (.bool (false)) rfl ?_)
  refine XL.nil ?_
  refine X.seq ?_
  refine X.region ?_
  refine XL.cons (XOp.assign (.int .i64 (1048576)) rfl ?_)
  refine XL.nil ?_
  refine X.seq ?_
  refine X.region ?_
  refine XL.cons (XOp.loadN [arv, rsv] Tryz.isAgg27 Tryz.sizeOf27 rfl rfl (Rd.ownN [] rfl rfl) ?_)
  refine XL.cons (XOp.move (.int .i64 (1048576)) rfl ?_)
  refine XL.cons (XOp.call (args := [.agg #[arv, rsv], .int .i64 (1048576)]) Tryz.call10 rfl (szSystem_spec (z := 1048576) har hrs (hz := (by first | assumption | rfl | omega | (left; simp; done) | (right; simp; done))) (hal := (by first | assumption | rfl | omega | (left; simp; done) | (right; simp; done))) (hrl := (by first | assumption | rfl | omega | (left; simp; done) | (right; simp; done))) (hrb := (by first | assumption | rfl | omega | (left; simp; done) | (right; simp; done)))) ?_)
  rintro _ _ _ _ ⟨rfl, rfl, rfl⟩
  refine XL.cons (XOp.assign (.int .i64 (dec 1048576 (ar.length + szR rs))) rfl ?_)
  refine XL.nil ?_
  refine X.seq ?_
  refine X.seq ?_
  refine X.region ?_
  refine XL.cons (XOp.move (.int .i64 (dec 1048576 (ar.length + szR rs))) rfl ?_)
  refine XL.cons (XOp.lss (a := dec 1048576 (ar.length + szR rs)) (b := 0) rfl rfl ?_)
  refine XL.nil ?_
  refine X.condD (p := (dec 1048576 (ar.length + szR rs) : Int) < 0) rfl (fun h1 => ?_) (fun h1 => ?_)
  · refine X.seq ?_
    refine X.region ?_
    refine XL.cons (XOp.assign (.bool (true)) rfl ?_)
    refine XL.nil ?_
    refine X.ret (thenQ_ret (retEnd (L' := L) [.bool (true)] (.bool (true)) (.tmp rfl .nil) rfl (FLe.refl _) (FLe.refl _) (Sub.drop (Sub.refl _)) ?_))
    exact ⟨rfl, rfl, rfl⟩
  · have hd1 := dec_le2 h1 (by omega)
    have hzrs := szR_le (rs := rs)
    have hirs := hzrs.2
    have hcrs : ∀ i, i < rs.length → (rs.getD i ([], [])).1.length ≤ 4000000 ∧ (rs.getD i ([], [])).2.length ≤ 4000000 := fun i hi => by have := hirs i hi; omega
    have hfrs := flatPair_len rs
    refine X.skip ?_
    refine X.seq ?_
    refine X.region ?_
    refine XL.cons (XOp.move (esv) rfl ?_)
    refine XL.cons (XOp.move (.int .i64 (dec 1048576 (ar.length + szR rs))) rfl ?_)
    refine XL.cons (XOp.call (args := [esv, .int .i64 (dec 1048576 (ar.length + szR rs))]) Tryz.call22 rfl (szEqS_spec (z := dec 1048576 (ar.length + szR rs)) hes (hz := (by first | assumption | rfl | omega | (left; simp; done) | (right; simp; done))) (hrl := (by first | assumption | rfl | omega | (left; simp; done) | (right; simp; done))) (hrb := (by first | assumption | rfl | omega | (left; simp; done) | (right; simp; done)))) ?_)
    rintro _ _ _ _ ⟨rfl, rfl, rfl⟩
    refine XL.cons (XOp.assign (.int .i64 (dec (dec 1048576 (ar.length + szR rs)) (szR es))) rfl ?_)
    refine XL.nil ?_
    refine X.seq ?_
    refine X.seq ?_
    refine X.region ?_
    refine XL.cons (XOp.move (.int .i64 (dec (dec 1048576 (ar.length + szR rs)) (szR es))) rfl ?_)
    refine XL.cons (XOp.lss (a := dec (dec 1048576 (ar.length + szR rs)) (szR es)) (b := 0) rfl rfl ?_)
    refine XL.nil ?_
    refine X.condD (p := (dec (dec 1048576 (ar.length + szR rs)) (szR es) : Int) < 0) rfl (fun h2 => ?_) (fun h2 => ?_)
    · refine X.seq ?_
      refine X.region ?_
      refine XL.cons (XOp.assign (.bool (true)) rfl ?_)
      refine XL.nil ?_
      refine X.ret (thenQ_ret (retEnd (L' := L) [.bool (true)] (.bool (true)) (.tmp rfl .nil) rfl (FLe.refl _) (FLe.refl _) (Sub.drop (Sub.refl _)) ?_))
      exact ⟨rfl, rfl, rfl⟩
    · have hd2 := dec_le2 h2 (by omega)
      have hzes := szR_le (rs := es)
      have hies := hzes.2
      have hces : ∀ i, i < es.length → (es.getD i ([], [])).1.length ≤ 4000000 ∧ (es.getD i ([], [])).2.length ≤ 4000000 := fun i hi => by have := hies i hi; omega
      have hfes := flatPair_len es
      refine X.skip ?_
      refine X.seq ?_
      refine X.region ?_
      refine XL.cons (XOp.loadN [arv, rsv] Tryz.isAgg27 Tryz.sizeOf27 rfl rfl (Rd.ownN [] rfl rfl) ?_)
      refine XL.cons (XOp.thawL ?_)
      refine id (XOp.call (args := [.agg #[arv, rsv]]) Tryz.call12 rfl (toSystem_spec har hrs (hla := (by first | assumption | rfl | omega | (left; simp; done) | (right; simp; done))) (hrl := (by first | assumption | rfl | omega | (left; simp; done) | (right; simp; done))) (hrb := (by first | assumption | rfl | omega | (left; simp; done) | (right; simp; done)))) ?_)
      rintro _ F1 _ le1 ⟨x1, x2, rfl, hr1, hr2, hr3, rfl⟩
      refine ⟨[intsH 2 x1 ar, pairsD 2 135 x2 rs], hr3, ?_⟩
      show XL _ _ _ _ _ _ _ (intsH 2 x1 ar :: pairsD 2 135 x2 rs :: cellsH b1 [arv, rsv] 27 :: L)
      refine XL.cons (XOp.move (esv) rfl ?_)
      refine XL.cons (XOp.thawL ?_)
      refine id (XOp.call (args := [esv]) Tryz.call24 rfl (toEqS_spec hes (hlx := (by first | assumption | rfl | omega | (left; simp; done) | (right; simp; done))) (hrb := (by first | assumption | rfl | omega | (left; simp; done) | (right; simp; done)))) ?_)
      rintro _ F2 _ le2 ⟨x3, rfl, hr4, hr5, rfl⟩
      refine ⟨[pairsD 2 104 x3 es], hr5, ?_⟩
      show XL _ _ _ _ _ _ _ (pairsD 2 104 x3 es :: intsH 2 x1 ar :: pairsD 2 135 x2 rs :: cellsH b1 [arv, rsv] 27 :: L)
      refine XL.cons (XOp.move (.int .i64 (n)) rfl ?_)
      refine XL.cons (XOp.lend [_] _ _ rfl (fun F3 le3 hz1 => ?_))
      refine id (XOp.lend [_] _ _ rfl (fun F4 le4 hz2 => ?_))
      refine id (XOp.lend [] _ _ rfl (fun F5 le5 hz3 => ?_))
      have hf1 : IntsF _ x1 ar := (intsH.fz (xs := ar) hz1).mono (FLe.trans le4 le5)
      have hf2 : PairsF _ x2 rs := (pairsD.fz hz2).mono le5
      have hf3 : PairsF _ x3 es := pairsD.fz hz3
      refine id (XOp.call (args := [.agg #[x1, x2], x3, .int .i64 (n)]) Tryz.call34 rfl (sHoldAll_spec (n := n) hf1 hf2 hf3 (hla := (by first | assumption | rfl | omega | (left; simp; done) | (right; simp; done))) (hlr := (by first | assumption | rfl | omega | (left; simp; done) | (right; simp; done))) (hrb := (by first | assumption | rfl | omega | (left; simp; done) | (right; simp; done))) (hel := (by first | assumption | rfl | omega | (left; simp; done) | (right; simp; done))) (heb := (by first | assumption | rfl | omega | (left; simp; done) | (right; simp; done)))) ?_)
      rintro _ _ _ _ ⟨rfl, rfl, rfl⟩
      show XL _ _ _ _ _ _ _ (intsH 2 x1 ar :: pairsD 2 135 x2 rs :: pairsD 2 104 x3 es :: cellsH b1 [arv, rsv] 27 :: L)
      refine XL.cons (XOp.assign (.bool (holdL ar rs es n)) rfl ?_)
      refine XL.nil ?_
      refine X.seq ?_
      refine X.region ?_
      refine XL.cons (XOp.loadN [arv, rsv] Tryz.isAgg27 Tryz.sizeOf27 rfl rfl (Rd.ownN [_, _, _] rfl rfl) ?_)
      refine XL.cons (XOp.thawL ?_)
      refine id (XOp.call (args := [.agg #[arv, rsv]]) Tryz.call12 rfl (toSystem_spec har hrs (hla := (by first | assumption | rfl | omega | (left; simp; done) | (right; simp; done))) (hrl := (by first | assumption | rfl | omega | (left; simp; done) | (right; simp; done))) (hrb := (by first | assumption | rfl | omega | (left; simp; done) | (right; simp; done)))) ?_)
      rintro _ F6 _ le6 ⟨x4, x5, rfl, hr6, hr7, hr8, rfl⟩
      refine ⟨[intsH 2 x4 ar, pairsD 2 135 x5 rs], hr8, ?_⟩
      show XL _ _ _ _ _ _ _ (intsH 2 x4 ar :: pairsD 2 135 x5 rs :: intsH 2 x1 ar :: pairsD 2 135 x2 rs :: pairsD 2 104 x3 es :: cellsH b1 [arv, rsv] 27 :: L)
      refine XL.cons (XOp.alloc [(.slice none 0 0), (.slice none 0 0)] Tryz.zeroValue37 rfl ?_)
      intro b2
      refine XL.cons (XOp.storeN (vs := [x4, x5]) [] _ [x4, x5] Tryz.sizeOf37 rfl rfl rfl (ones_cons (one_sl (IntsF.isSl hr6)) (ones_cons (one_sl (PairsF.isSl hr7)) ones_nil)) rfl rfl rfl ?_)
      refine XL.nil ?_
      refine X.seq ?_
      refine X.region ?_
      refine XL.cons (XOp.move (esv) rfl ?_)
      refine XL.cons (XOp.thawL ?_)
      refine id (XOp.call (args := [esv]) Tryz.call24 rfl (toEqS_spec hes (hlx := (by first | assumption | rfl | omega | (left; simp; done) | (right; simp; done))) (hrb := (by first | assumption | rfl | omega | (left; simp; done) | (right; simp; done)))) ?_)
      rintro _ F7 _ le7 ⟨x6, rfl, hr9, hr10, rfl⟩
      refine ⟨[pairsD 2 104 x6 es], hr10, ?_⟩
      show XL _ _ _ _ _ _ _ (pairsD 2 104 x6 es :: cellsH b2 [x4, x5] 37 :: intsH 2 x4 ar :: pairsD 2 135 x5 rs :: intsH 2 x1 ar :: pairsD 2 135 x2 rs :: pairsD 2 104 x3 es :: cellsH b1 [arv, rsv] 27 :: L)
      refine XL.cons (XOp.assign (x6) rfl ?_)
      refine XL.nil ?_
      refine X.seq ?_
      refine X.region ?_
      refine XL.cons (XOp.loadN [x4, x5] Tryz.isAgg37 Tryz.sizeOf37 rfl rfl (Rd.ownN [_] rfl rfl) ?_)
      refine XL.cons (XOp.move (x6) rfl ?_)
      refine XL.cons (XOp.move (.int .i64 (n)) rfl ?_)
      refine XL.cons (XOp.lend [_, _] _ _ rfl (fun F8 le8 hz4 => ?_))
      refine id (XOp.lend [_, _] _ _ rfl (fun F9 le9 hz5 => ?_))
      refine id (XOp.lend [] _ _ rfl (fun F10 le10 hz6 => ?_))
      have hf4 : IntsF _ x4 ar := (intsH.fz (xs := ar) hz4).mono (FLe.trans le9 le10)
      have hf5 : PairsF _ x5 rs := (pairsD.fz hz5).mono le10
      have hf6 : PairsF _ x6 es := pairsD.fz hz6
      refine id (XOp.call (args := [.agg #[x4, x5], x6, .int .i64 (n)]) Tryz.call35 rfl (HoldAll_spec (n := n) hf4 hf5 hf6) ?_)
      rintro _ _ _ _ ⟨rfl, rfl, rfl⟩
      show XL _ _ _ _ _ _ _ (intsH 2 x4 ar :: pairsD 2 135 x5 rs :: pairsD 2 104 x6 es :: cellsH b2 [x4, x5] 37 :: intsH 2 x1 ar :: pairsD 2 135 x2 rs :: pairsD 2 104 x3 es :: cellsH b1 [arv, rsv] 27 :: L)
      refine XL.cons (XOp.assign (.bool (holdL ar rs es n)) rfl ?_)
      refine XL.nil ?_
      refine X.seq ?_
      refine X.seq ?_
      refine X.region ?_
      refine XL.cons (XOp.move (.bool (holdL ar rs es n)) rfl ?_)
      refine XL.cons (XOp.move (.bool (holdL ar rs es n)) rfl ?_)
      refine XL.cons (XOp.neB (a := holdL ar rs es n) (b := holdL ar rs es n) Tryz.runUnderlying4 rfl rfl ?_)
      refine XL.nil ?_
      refine X.condD (p := (holdL ar rs es n) ≠ (holdL ar rs es n)) rfl (fun h3 => ?_) (fun h3 => ?_)
      · exact absurd rfl h3
      · refine X.skip ?_
        refine X.seq ?_
        refine X.seq ?_
        refine X.drawG [intsH 2 x4 ar, pairsD 2 135 x5 rs, pairsD 2 104 x6 es, cellsH b2 [x4, x5] 37, intsH 2 x1 ar, pairsD 2 135 x2 rs, pairsD 2 104 x3 es, cellsH b1 [arv, rsv] 27] L 3 [[], [], []] [[], [], [1]] [[], [], []] (phiG [fun FF us v => v = (.agg #[x4, x5] : Value), fun FF us v => v = (.agg #[arv, rsv] : Value), fun FF us v => (.agg #[((aggAt v 0)), ((aggAt v 1))] : Value) = v ∧ (IntsF FF ((aggAt v 0)) ar) ∧ (PairsF FF ((aggAt v 1)) rs)]) (ownL [fun us v => [], fun us v => [], fun us v => []]) mixed rfl rfl (by kernel_rfl) (by kernel_rfl) (MonoG.get (MonoG.cons (fun le h => h) (MonoG.cons (fun le h => h) (MonoG.cons (fun le h => ⟨h.1, h.2.1.mono le, h.2.2.mono le⟩) MonoG.nil)))) ?_ ?_
        · refine stepsG.cons (fun vals Fs R leFs hpZ => ?_) ?_
          · replace har := har.mono leFs
            replace hrs := hrs.mono leFs
            replace hes := hes.mono leFs
            refine XG.op (XOp.loadN [x4, x5] Tryz.isAgg37 Tryz.sizeOf37 rfl rfl (Rd.ownN [_, _, _] rfl rfl) ?_)
            exact ⟨rfl, rfl⟩
          refine stepsG.cons (fun vals Fs R leFs hpZ => ?_) ?_
          · replace har := har.mono leFs
            replace hrs := hrs.mono leFs
            replace hes := hes.mono leFs
            refine XG.op (XOp.loadN [arv, rsv] Tryz.isAgg27 Tryz.sizeOf27 rfl rfl (Rd.ownN [_, _, _, _, _, _, _] rfl rfl) ?_)
            exact ⟨rfl, rfl⟩
          refine stepsG.cons (fun vals Fs R leFs hpZ => ?_) ?_
          · have e1 : vals 1 = (.agg #[arv, rsv] : Value) := hpZ 1 (by decide)
            replace har := har.mono leFs
            replace hrs := hrs.mono leFs
            replace hes := hes.mono leFs
            rw [(envs_of_sat (l := [(1, (.agg #[arv, rsv] : Value))]) ⟨e1, trivial⟩).symm]
            refine XG.op (XOp.call (args := [.agg #[arv, rsv]]) Tryz.call12 rfl (toSystem_spec har hrs (hla := (by first | assumption | rfl | omega | (left; simp; done) | (right; simp; done))) (hrl := (by first | assumption | rfl | omega | (left; simp; done) | (right; simp; done))) (hrb := (by first | assumption | rfl | omega | (left; simp; done) | (right; simp; done)))) ?_)
            rintro _ F12 _ le12 ⟨x9, x10, rfl, hr14, hr15, hr16, rfl⟩
            replace har := har.mono le12
            replace hrs := hrs.mono le12
            replace hes := hes.mono le12
            exact ⟨⟨rfl, hr14, hr15⟩, rfl⟩
          exact stepsG.nil
        · intro vals F13 le13 hphi
          have e0 : vals 0 = (.agg #[x4, x5] : Value) := hphi 0 (by decide)
          have e1 : vals 1 = (.agg #[arv, rsv] : Value) := hphi 1 (by decide)
          obtain ⟨e2, f2_1hr1, f2_1hr2⟩ := hphi 2 (by decide)
          generalize hu1 : ((aggAt (vals 2) 0)) = u1 at e0 e1 e2 f2_1hr1 f2_1hr2
          generalize hu2 : ((aggAt (vals 2) 1)) = u2 at e0 e1 e2 f2_1hr1 f2_1hr2
          rw [(envs_of_sat (l := [(0, (.agg #[x4, x5] : Value)), (1, (.agg #[arv, rsv] : Value)), (2, (.agg #[u1, u2] : Value))]) ⟨e0, e1, (e2).symm, trivial⟩).symm]
          replace har := har.mono le13
          replace hrs := hrs.mono le13
          replace hes := hes.mono le13
          show XL _ _ _ _ _ _ _ (intsH 2 x4 ar :: pairsD 2 135 x5 rs :: pairsD 2 104 x6 es :: cellsH b2 [x4, x5] 37 :: intsH 2 x1 ar :: pairsD 2 135 x2 rs :: pairsD 2 104 x3 es :: cellsH b1 [arv, rsv] 27 :: L)
          refine XL.cons (XOp.lend [] _ _ rfl (fun F14 le14 hz7 => ?_))
          refine id (XOp.lend [] _ _ rfl (fun F15 le15 hz8 => ?_))
          have hf7 : IntsF _ x4 ar := (intsH.fz (xs := ar) hz7).mono le15
          have hf8 : PairsF _ x5 rs := pairsD.fz hz8
          refine id (XOp.call (args := [.agg #[x4, x5], .agg #[u1, u2]]) Tryz.call16 rfl (eqSystem_spec hf7 hf8 ((f2_1hr1.mono (FLe.trans le14 le15))) ((f2_1hr2.mono (FLe.trans le14 le15))) (hcl := (by first | assumption | rfl | omega | (left; simp; done) | (right; simp; done))) (hal := (by first | assumption | rfl | omega | (left; simp; done) | (right; simp; done))) (hbd := (by first | assumption | rfl | omega | (left; simp; done) | (right; simp; done)))) ?_)
          rintro _ _ _ _ ⟨rfl, rfl, rfl⟩
          show XL _ _ _ _ _ _ _ (intsH 2 x4 ar :: pairsD 2 135 x5 rs :: pairsD 2 104 x6 es :: cellsH b2 [x4, x5] 37 :: intsH 2 x1 ar :: pairsD 2 135 x2 rs :: pairsD 2 104 x3 es :: cellsH b1 [arv, rsv] 27 :: L)
          refine XL.cons (XOp.notD (p := ar = ar ∧ rs = rs) rfl ?_)
          refine XL.nil ?_
          refine X.condD (p := ¬(ar = ar ∧ rs = rs)) rfl (fun h4 => ?_) (fun h4 => ?_)
          · exact absurd (by first | rfl | exact ⟨rfl, rfl⟩ | exact ⟨⟨rfl, rfl⟩, rfl, rfl⟩ | simp) h4
          · refine X.skip ?_
            refine X.seq ?_
            refine X.seq ?_
            refine X.region ?_
            refine XL.cons (XOp.move (x6) rfl ?_)
            refine XL.cons (XOp.move (esv) rfl ?_)
            refine XL.cons (XOp.thawL ?_)
            refine id (XOp.call (args := [esv]) Tryz.call24 rfl (toEqS_spec hes (hlx := (by first | assumption | rfl | omega | (left; simp; done) | (right; simp; done))) (hrb := (by first | assumption | rfl | omega | (left; simp; done) | (right; simp; done)))) ?_)
            rintro _ F16 _ le16 ⟨x11, rfl, hr17, hr18, rfl⟩
            refine ⟨[pairsD 2 104 x11 es], hr18, ?_⟩
            show XL _ _ _ _ _ _ _ (pairsD 2 104 x11 es :: intsH 2 x4 ar :: pairsD 2 135 x5 rs :: pairsD 2 104 x6 es :: cellsH b2 [x4, x5] 37 :: intsH 2 x1 ar :: pairsD 2 135 x2 rs :: pairsD 2 104 x3 es :: cellsH b1 [arv, rsv] 27 :: L)
            refine XL.cons (XOp.lend [_, _, _] _ _ rfl (fun F17 le17 hz9 => ?_))
            refine id (XOp.lend [] _ _ rfl (fun F18 le18 hz10 => ?_))
            have hf9 : PairsF _ x6 es := (pairsD.fz hz9).mono le18
            have hf10 : PairsF _ x11 es := pairsD.fz hz10
            refine id (XOp.call (args := [x6, x11]) Tryz.call26 rfl (eqEqS_spec hf9 hf10 (hal := (by first | assumption | rfl | omega | (left; simp; done) | (right; simp; done))) (hbd := (by first | assumption | rfl | omega | (left; simp; done) | (right; simp; done)))) ?_)
            rintro _ _ _ _ ⟨rfl, rfl, rfl⟩
            show XL _ _ _ _ _ _ _ (pairsD 2 104 x6 es :: pairsD 2 104 x11 es :: intsH 2 x4 ar :: pairsD 2 135 x5 rs :: cellsH b2 [x4, x5] 37 :: intsH 2 x1 ar :: pairsD 2 135 x2 rs :: pairsD 2 104 x3 es :: cellsH b1 [arv, rsv] 27 :: L)
            refine XL.cons (XOp.notD (p := es = es) rfl ?_)
            refine XL.nil ?_
            refine X.condD (p := ¬(es = es)) rfl (fun h5 => ?_) (fun h5 => ?_)
            · exact absurd (by first | rfl | exact ⟨rfl, rfl⟩ | exact ⟨⟨rfl, rfl⟩, rfl, rfl⟩ | simp) h5
            · refine X.skip ?_
              refine X.seq ?_
              refine X.region ?_
              refine XL.cons (XOp.assign (.bool (true)) rfl ?_)
              refine XL.nil ?_
              refine X.ret (retEnd (L' := L) [.bool (true)] (.bool (true)) (.tmp rfl .nil) rfl (FLe.refl _) le13 (Sub.drop (Sub.drop (Sub.drop (Sub.drop (Sub.drop (Sub.drop (Sub.drop (Sub.drop (Sub.drop (Sub.refl _)))))))))) ?_)
              exact ⟨rfl, rfl, rfl⟩
end Go.Proofs.YtbooflphoaaoeaaGreat
