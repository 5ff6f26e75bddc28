/-
  Walks: systems, matching.
-/
import Derived.Test.YtnloeeaidknblaaQmFd
import Derived.Test.YtnloeeaidknblaaP3
set_option linter.unusedSimpArgs false
set_option linter.unusedVariables false
namespace Go.Proofs.Ytnloeeaidknblaa
open Go X M

/- impl.SystemOk -/
theorem SystemOk_spec {F : FH} {L : List HP} {arv : Value} {ar : List Int} (har : IntsF F arv ar) {rsv : Value} {rs : List (List Int × List Int)} (hrs : PairsF F rsv rs) :
    Does Try.prog 65 [.agg #[arv, rsv]] F (L) (fun v F' L' => (.bool (sysOk ar rs) : Value) = v ∧ F = F' ∧ L = L') := by
  refine Does.of_X Try.func65 rfl rfl rfl ?_
  refine X.seq ?_
  refine X.region ?_
  refine XL.cons (XOp.box [arv, rsv] rfl rfl ?_)
  intro b1
  refine XL.cons (XOp.assign (.bool (false)) rfl ?_)
  refine XL.nil ?_
  refine X.seq ?_
  refine X.seq ?_
  refine X.region ?_
  refine XL.cons (XOp.fieldP (b := b1) (0) Try.runUnderlying36 rfl Try.sizeOf33 (by decide) rfl rfl ?_)
  refine XL.cons (XOp.loadN [arv] Try.isAgg33 Try.sizeOf33 rfl rfl (Rd.ownN [] rfl rfl) ?_)
  refine XL.cons (XOp.call (args := [.agg #[arv]]) Try.call118 rfl (SigOk_spec har) ?_)
  rintro _ _ _ _ ⟨rfl, rfl, rfl⟩
  refine XL.cons (XOp.notB (b := sigOk ar) rfl ?_)
  refine XL.cons (XOp.move (.bool (!(sigOk ar))) rfl ?_)
  by_cases h1 : (!(sigOk ar)) = true
  · refine XL.no (t := 9) rfl (congrArg Value.bool h1) ?_
    refine XL.no (t := 9) rfl (congrArg Value.bool h1) ?_
    refine XL.no (t := 9) rfl (congrArg Value.bool h1) ?_
    refine XL.no (t := 9) rfl (congrArg Value.bool h1) ?_
    refine XL.cons (XOp.pickT (.bool (true)) (congrArg Value.bool h1) rfl ?_)
    refine XL.nil ?_
    refine X.condT rfl ?_
    refine X.seq ?_
    refine X.region ?_
    refine XL.cons (XOp.assign (.bool (false)) rfl ?_)
    refine XL.nil ?_
    refine X.ret (thenQ_ret (retEnd (L' := L) [.bool (false)] (.bool (false)) (.tmp rfl .nil) rfl (FLe.refl _) (FLe.refl _) (Sub.drop (Sub.refl _)) ?_))
    exact ⟨(congrArg Value.bool (sysOk_false (fun h => by have := h.1; have := h.2.1; simp_all <;> omega))), rfl, rfl⟩
  · rw [Bool.not_eq_true] at h1
    refine XL.yes (t := 9) rfl (congrArg Value.bool h1) (XOp.fieldP (b := b1) (1) Try.runUnderlying36 rfl Try.sizeOf34 (by decide) rfl rfl ?_)
    refine XL.yes (t := 9) rfl (congrArg Value.bool h1) (XOp.load1 (v := rsv) Try.isAgg34 rfl (Rd.own [] rfl rfl) ?_)
    refine XL.yes (t := 9) rfl (congrArg Value.bool h1) (XOp.lenS (v := rsv) (n := (rs).length) Try.runUnderlying34 rfl hrs.slv ?_)
    refine XL.yes (t := 9) rfl (congrArg Value.bool h1) (XOp.gtr (a := (((rs).length : Nat) : Int)) (b := 12) rfl rfl ?_)
    refine XL.cons (XOp.pickF (.bool (decide (((((rs).length : Nat) : Int) : Int) > 12))) (congrArg Value.bool h1) rfl ?_)
    refine XL.nil ?_
    refine X.condD (p := ((((rs).length : Nat) : Int) : Int) > 12) rfl (fun h2 => ?_) (fun h2 => ?_)
    · refine X.seq ?_
      refine X.region ?_
      refine XL.cons (XOp.assign (.bool (false)) rfl ?_)
      refine XL.nil ?_
      refine X.ret (thenQ_ret (retEnd (L' := L) [.bool (false)] (.bool (false)) (.tmp rfl .nil) rfl (FLe.refl _) (FLe.refl _) (Sub.drop (Sub.refl _)) ?_))
      exact ⟨(congrArg Value.bool (sysOk_false (fun h => by have := h.1; have := h.2.1; simp_all <;> omega))), rfl, rfl⟩
    · refine X.skip ?_
      refine X.seq ?_
      refine X.seq ?_
      refine X.region ?_
      refine XL.cons (XOp.fieldP (b := b1) (1) Try.runUnderlying36 rfl Try.sizeOf34 (by decide) rfl rfl ?_)
      refine XL.cons (XOp.load1 (v := rsv) Try.isAgg34 rfl (Rd.own [] rfl rfl) ?_)
      refine XL.cons (XOp.lenS (v := rsv) (n := (rs).length) Try.runUnderlying34 rfl hrs.slv ?_)
      refine XL.cons (XOp.move (.int .i64 (0)) rfl ?_)
      refine XL.nil ?_
      refine X.block ?_
      refine X.loop (α := Nat) (fun k => [(1, ptr b1 0), (16, rsv), (17, .int .i64 ((((rs).length : Nat) : Int))), (18, .int .i64 (((k : Nat) : Int)))]) (fun k => cellsH b1 [arv, rsv] 36 :: L) (fun k F' => F = F' ∧ (k ≤ rs.length) ∧ (∀ i, i < k → ruleOk ar (rs.getD i ([], [])).1 (rs.getD i ([], [])).2 = true)) (fun k => rs.length - k) 0 ⟨rfl, rfl, rfl, rfl, trivial⟩ (Sub.cons (Sub.refl _)) ⟨rfl, (by omega), (fun i hi => absurd hi (by omega))⟩ ?_
      rintro k rE _ _ ⟨rfl, hk, hall⟩
      show X _ _ _ _ (envs [(1, ptr b1 0), (16, rsv), (17, .int .i64 ((((rs).length : Nat) : Int))), (18, .int .i64 (((k : Nat) : Int)))] rE) _ (cellsH b1 [arv, rsv] 36 :: L)
      refine X.seq ?_
      refine X.region ?_
      refine XL.cons (XOp.lss (a := ((k : Nat) : Int)) (b := (((rs).length : Nat) : Int)) rfl rfl ?_)
      refine XL.nil ?_
      refine X.seq ?_
      refine X.condD (p := (((k : Nat) : Int) : Int) < (((rs).length : Nat) : Int)) rfl (fun h3 => ?_) (fun h3 => ?_)
      · refine X.skip ?_
        refine X.seq ?_
        refine X.block ?_
        refine X.seq ?_
        refine X.region ?_
        refine XL.cons (XOp.indexS (v := rsv) (i := ((k : Nat) : Int)) (n := (rs).length) k Try.runUnderlying34 Try.sizeOf98 rfl rfl rfl hrs.slv (by omega) rfl ?_)
        obtain ⟨a1, a2, ha1, ha2, hr1, hr2⟩ := hrs.rd (i := k) (by omega)
        refine XL.cons (XOp.loadN [a1, a2] Try.isAgg98 Try.sizeOf98 rfl rfl (Rd.two (hr1 _) (hr2 _)) ?_)
        refine XL.cons (XOp.alloc [(.slice none 0 0), (.slice none 0 0)] Try.zeroValue98 rfl ?_)
        intro b2
        refine XL.cons (XOp.storeN (vs := [a1, a2]) [] _ [a1, a2] Try.sizeOf98 rfl rfl rfl (ones_cons (one_sl (IntsF.isSl ha1)) (ones_cons (one_sl (IntsF.isSl ha2)) ones_nil)) rfl rfl rfl ?_)
        refine XL.nil ?_
        refine X.seq ?_
        refine X.region ?_
        refine XL.cons (XOp.fieldP (b := b1) (0) Try.runUnderlying36 rfl Try.sizeOf33 (by decide) rfl rfl ?_)
        refine XL.cons (XOp.loadN [arv] Try.isAgg33 Try.sizeOf33 rfl rfl (Rd.ownN [_] rfl rfl) ?_)
        refine XL.cons (XOp.loadN [a1, a2] Try.isAgg98 Try.sizeOf98 rfl rfl (Rd.ownN [] rfl rfl) ?_)
        refine XL.cons (XOp.call (args := [.agg #[arv], .agg #[a1, a2]]) Try.call119 rfl (RuleOk_spec har ha1 ha2) ?_)
        rintro _ _ _ _ ⟨rfl, rfl, rfl⟩
        refine XL.cons (XOp.notB (b := ruleOk ar ((rs.getD k ([], [])).1) ((rs.getD k ([], [])).2)) rfl ?_)
        refine XL.nil ?_
        refine X.cond (t := !(ruleOk ar ((rs.getD k ([], [])).1) ((rs.getD k ([], [])).2))) rfl (fun h4 => ?_) (fun h4 => ?_)
        · refine X.seq ?_
          refine X.region ?_
          refine XL.cons (XOp.assign (.bool (false)) rfl ?_)
          refine XL.nil ?_
          refine X.ret (blockQ_ret (thenQ_ret (thenQ_ret (blockQ_ret (thenQ_ret (retEnd (L' := L) [.bool (false)] (.bool (false)) (.tmp rfl .nil) rfl (FLe.refl _) (FLe.refl _) (Sub.drop (Sub.drop (Sub.refl _))) ?_))))))
          exact ⟨(congrArg Value.bool (sysOk_false (fun h => by have := h.2.2 k (by omega); simp_all))), rfl, rfl⟩
        · refine X.skip ?_
          refine X.region ?_
          refine XL.cons (XOp.addR (a := ((k : Nat) : Int)) (b := 1) (((k + 1 : Nat) : Int)) rfl rfl (by omega) (by omega) ?_)
          refine XL.cons (XOp.move (.int .i64 (((k + 1 : Nat) : Int))) rfl ?_)
          refine XL.nil ?_
          exact ⟨k + 1, _, FLe.refl _, (FLe.refl _), ⟨rfl, rfl, rfl, rfl, trivial⟩, (Sub.drop (Sub.cons (Sub.refl _))), ⟨rfl, (by omega), (fun i hi => (Nat.lt_or_ge i k).elim (fun h => hall i h) (fun h => by obtain rfl : i = k := (by omega); first | assumption | simp_all))⟩, (by omega)⟩
      · refine X.exit (thenQ_exit (thenQ_exit (blockQ_exit ?_)))
        refine X.seq ?_
        refine X.region ?_
        refine XL.cons (XOp.assign (.bool (true)) rfl ?_)
        refine XL.nil ?_
        refine X.ret (retEnd (L' := L) [.bool (true)] (.bool (true)) (.tmp rfl .nil) rfl (FLe.refl _) (FLe.refl _) (Sub.drop (Sub.refl _)) ?_)
        exact ⟨(congrArg Value.bool (sysOk_iff.2 ⟨by first | assumption | simp_all, by omega, fun i hi => hall i (by omega)⟩)), rfl, rfl⟩

/- spec.RuleOk -/
theorem sRuleOk_spec {F : FH} {L : List HP} {arv : Value} {ar : List Int} (har : IntsF F arv ar) {lv : Value} {l : List Int} (hl : IntsF F lv l) {rv : Value} {r : List Int} (hr : IntsF F rv r) (hla : ar.length ≤ 4000000) (hlb : l.length ≤ 4000000) (hlc : r.length ≤ 4000000) :
    Does Try.prog 110 [.agg #[arv], .agg #[lv, rv]] F (L) (fun v F' L' => (.bool (ruleOk ar l r) : Value) = v ∧ F = F' ∧ L = L') := by
  refine Does.of_X Try.func110 rfl rfl rfl ?_
  refine X.seq ?_
  refine X.region ?_
  refine XL.cons (XOp.box [arv] rfl rfl ?_)
  intro b1
  refine XL.cons (XOp.box [lv, rv] rfl rfl ?_)
  intro b2
  refine XL.cons (XOp.assign (.bool (false)) rfl ?_)
  refine XL.nil ?_
  refine X.seq ?_
  refine X.seq ?_
  refine X.region ?_
  refine XL.cons (XOp.loadN [arv] Try.isAgg33 Try.sizeOf33 rfl rfl (Rd.ownN [_] rfl rfl) ?_)
  refine XL.cons (XOp.fieldP (b := b2) (0) Try.runUnderlying98 rfl Try.sizeOf22 (by decide) rfl rfl ?_)
  refine XL.cons (XOp.load1 (v := lv) Try.isAgg22 rfl (Rd.own [] rfl rfl) ?_)
  refine XL.cons (XOp.call (args := [.agg #[arv], lv]) Try.call113 rfl (sTermOk_spec har hl (hla := (by first | assumption | rfl | omega | (left; simp; done) | (right; simp; done))) (hlt := (by first | assumption | rfl | omega | (left; simp; done) | (right; simp; done)))) ?_)
  rintro _ _ _ _ ⟨rfl, rfl, rfl⟩
  refine XL.cons (XOp.notB (b := termOk ar l) rfl ?_)
  refine XL.cons (XOp.move (.bool (!(termOk ar l))) rfl ?_)
  by_cases h1 : (!(termOk ar l)) = true
  · refine XL.no (t := 11) rfl (congrArg Value.bool h1) ?_
    refine XL.no (t := 11) rfl (congrArg Value.bool h1) ?_
    refine XL.no (t := 11) rfl (congrArg Value.bool h1) ?_
    refine XL.no (t := 11) rfl (congrArg Value.bool h1) ?_
    refine XL.no (t := 11) rfl (congrArg Value.bool h1) ?_
    refine XL.cons (XOp.pickT (.bool (true)) (congrArg Value.bool h1) rfl ?_)
    refine XL.cons (XOp.move (.bool (true)) rfl ?_)
    refine XL.no (t := 18) rfl rfl ?_
    refine XL.no (t := 18) rfl rfl ?_
    refine XL.no (t := 18) rfl rfl ?_
    refine XL.no (t := 18) rfl rfl ?_
    refine XL.no (t := 18) rfl rfl ?_
    refine XL.cons (XOp.pickT (.bool (true)) rfl rfl ?_)
    refine XL.nil ?_
    refine X.condT rfl ?_
    refine X.seq ?_
    refine X.region ?_
    refine XL.cons (XOp.assign (.bool (false)) rfl ?_)
    refine XL.nil ?_
    refine X.ret (thenQ_ret (retEnd (L' := L) [.bool (false)] (.bool (false)) (.tmp rfl .nil) rfl (FLe.refl _) (FLe.refl _) (Sub.drop (Sub.drop (Sub.refl _))) ?_))
    exact ⟨(congrArg Value.bool (ruleOk_false (fun h => by have := h.left; have := h.right; have := h.head; simp_all <;> omega))), rfl, rfl⟩
  · rw [Bool.not_eq_true] at h1
    have hlo : termOk ar l = true := by simpa using h1
    have hl60 := termOk_len hlo
    refine XL.yes (t := 11) rfl (congrArg Value.bool h1) (XOp.loadN [arv] Try.isAgg33 Try.sizeOf33 rfl rfl (Rd.ownN [_] rfl rfl) ?_)
    refine XL.yes (t := 11) rfl (congrArg Value.bool h1) (XOp.fieldP (b := b2) (1) Try.runUnderlying98 rfl Try.sizeOf22 (by decide) rfl rfl ?_)
    refine XL.yes (t := 11) rfl (congrArg Value.bool h1) (XOp.load1 (v := rv) Try.isAgg22 rfl (Rd.own [] rfl rfl) ?_)
    refine XL.yes (t := 11) rfl (congrArg Value.bool h1) (XOp.call (args := [.agg #[arv], rv]) Try.call113 rfl (sTermOk_spec har hr (hla := (by first | assumption | rfl | omega | (left; simp; done) | (right; simp; done))) (hlt := (by first | assumption | rfl | omega | (left; simp; done) | (right; simp; done)))) ?_)
    rintro _ _ _ _ ⟨rfl, rfl, rfl⟩
    refine XL.yes (t := 11) rfl (congrArg Value.bool h1) (XOp.notB (b := termOk ar r) rfl ?_)
    refine XL.cons (XOp.pickF (.bool (!(termOk ar r))) (congrArg Value.bool h1) rfl ?_)
    refine XL.cons (XOp.move (.bool (!(termOk ar r))) rfl ?_)
    by_cases h2 : (!(termOk ar r)) = true
    · refine XL.no (t := 18) rfl (congrArg Value.bool h2) ?_
      refine XL.no (t := 18) rfl (congrArg Value.bool h2) ?_
      refine XL.no (t := 18) rfl (congrArg Value.bool h2) ?_
      refine XL.no (t := 18) rfl (congrArg Value.bool h2) ?_
      refine XL.no (t := 18) rfl (congrArg Value.bool h2) ?_
      refine XL.cons (XOp.pickT (.bool (true)) (congrArg Value.bool h2) rfl ?_)
      refine XL.nil ?_
      refine X.condT rfl ?_
      refine X.seq ?_
      refine X.region ?_
      refine XL.cons (XOp.assign (.bool (false)) rfl ?_)
      refine XL.nil ?_
      refine X.ret (thenQ_ret (retEnd (L' := L) [.bool (false)] (.bool (false)) (.tmp rfl .nil) rfl (FLe.refl _) (FLe.refl _) (Sub.drop (Sub.drop (Sub.refl _))) ?_))
      exact ⟨(congrArg Value.bool (ruleOk_false (fun h => by have := h.left; have := h.right; have := h.head; simp_all <;> omega))), rfl, rfl⟩
    · rw [Bool.not_eq_true] at h2
      have hro : termOk ar r = true := by simpa using h2
      have hr60 := termOk_len hro
      refine XL.yes (t := 18) rfl (congrArg Value.bool h2) (XOp.fieldP (b := b2) (0) Try.runUnderlying98 rfl Try.sizeOf22 (by decide) rfl rfl ?_)
      refine XL.yes (t := 18) rfl (congrArg Value.bool h2) (XOp.load1 (v := lv) Try.isAgg22 rfl (Rd.own [] rfl rfl) ?_)
      refine XL.yes (t := 18) rfl (congrArg Value.bool h2) (XOp.indexS (v := lv) (i := 0) (n := (l).length) 0 Try.runUnderlying22 Try.sizeOf2 rfl rfl rfl hl.slv (by omega) (Nat.mul_one _) ?_)
      refine XL.yes (t := 18) rfl (congrArg Value.bool h2) (XOp.load1 (v := .int .i64 (l.getD 0 0)) Try.isAgg2 rfl (hl.rd (by omega)) ?_)
      refine XL.yes (t := 18) rfl (congrArg Value.bool h2) (XOp.lss (a := l.getD 0 0) (b := 0) rfl rfl ?_)
      refine XL.cons (XOp.pickF (.bool (decide ((l.getD 0 0 : Int) < 0))) (congrArg Value.bool h2) rfl ?_)
      refine XL.nil ?_
      refine X.condD (p := (l.getD 0 0 : Int) < 0) rfl (fun h3 => ?_) (fun h3 => ?_)
      · refine X.seq ?_
        refine X.region ?_
        refine XL.cons (XOp.assign (.bool (false)) rfl ?_)
        refine XL.nil ?_
        refine X.ret (thenQ_ret (retEnd (L' := L) [.bool (false)] (.bool (false)) (.tmp rfl .nil) rfl (FLe.refl _) (FLe.refl _) (Sub.drop (Sub.drop (Sub.refl _))) ?_))
        exact ⟨(congrArg Value.bool (ruleOk_false (fun h => by have := h.left; have := h.right; have := h.head; simp_all <;> omega))), rfl, rfl⟩
      · refine X.skip ?_
        refine X.seq ?_
        refine X.seq ?_
        refine X.region ?_
        refine XL.cons (XOp.assign (.int .i64 (0)) rfl ?_)
        refine XL.nil ?_
        refine X.block ?_
        refine X.loop (α := Nat) (fun k => [(3, ptr b2 0), (5, .int .i64 (((k : Nat) : Int)))]) (fun k => cellsH b2 [lv, rv] 98 :: cellsH b1 [arv] 33 :: L) (fun k F' => F = F' ∧ (k ≤ r.length) ∧ (∀ i, i < k → r.getD i 0 < 0 → r.getD i 0 ∈ l)) (fun k => r.length - k) 0 ⟨rfl, rfl, trivial⟩ (Sub.cons (Sub.cons (Sub.refl _))) ⟨rfl, (by omega), (fun i hi => absurd hi (by omega))⟩ ?_
        rintro k rE _ _ ⟨rfl, hk, hall⟩
        show X _ _ _ _ (envs [(3, ptr b2 0), (5, .int .i64 (((k : Nat) : Int)))] rE) _ (cellsH b2 [lv, rv] 98 :: cellsH b1 [arv] 33 :: L)
        refine X.seq ?_
        refine X.seq ?_
        refine X.region ?_
        refine XL.cons (XOp.move (.int .i64 (((k : Nat) : Int))) rfl ?_)
        refine XL.cons (XOp.fieldP (b := b2) (1) Try.runUnderlying98 rfl Try.sizeOf22 (by decide) rfl rfl ?_)
        refine XL.cons (XOp.load1 (v := rv) Try.isAgg22 rfl (Rd.own [] rfl rfl) ?_)
        refine XL.cons (XOp.lenS (v := rv) (n := (r).length) Try.runUnderlying22 rfl hr.slv ?_)
        refine XL.cons (XOp.lss (a := ((k : Nat) : Int)) (b := (((r).length : Nat) : Int)) rfl rfl ?_)
        refine XL.nil ?_
        refine X.condD (p := (((k : Nat) : Int) : Int) < (((r).length : Nat) : Int)) rfl (fun h4 => ?_) (fun h4 => ?_)
        · refine X.skip ?_
          refine X.seq ?_
          refine X.block ?_
          refine X.seq ?_
          by_cases h5 : (r.getD k 0 : Int) < 0
          · refine X.draw [cellsH b2 [lv, rv] 98, cellsH b1 [arv] 33] L 14 [[], [], [], [], [], [], [], [], [], [], [], [], [], []] [[], [0], [], [1, 2], [3], [4], [5], [6], [6, 7], [6], [6, 9], [6], [6, 10, 11], [6, 12]] (phiL [fun us v => v = ptr b2 1, fun us v => v = rv, fun us v => v = (.int .i64 (((k : Nat) : Int)) : Value), fun us v => v = (.pointer (some (elemA rv (k))) : Value), fun us v => v = (.int .i64 (r.getD k 0) : Value), fun us v => v = (.bool (decide ((r.getD k 0 : Int) < 0)) : Value), fun us v => v = (.bool (decide ((r.getD k 0 : Int) < 0)) : Value), fun us v => v = ptr b2 0, fun us v => v = lv, fun us v => v = ptr b2 1, fun us v => v = rv, fun us v => v = (.int .i64 (((k : Nat) : Int)) : Value), fun us v => v = (.pointer (some (elemA rv (k))) : Value), fun us v => v = (.int .i64 (r.getD k 0) : Value)]) (ownL [fun us v => [], fun us v => [], fun us v => [], fun us v => [], fun us v => [], fun us v => [], fun us v => [], fun us v => [], fun us v => [], fun us v => [], fun us v => [], fun us v => [], fun us v => [], fun us v => []]) mixed rfl rfl (by kernel_rfl) ?_ ?_
            · refine stepsP.cons (fun vals R hpZ => ?_) ?_
              · refine XG.op (XOp.fieldP (b := b2) (1) Try.runUnderlying98 rfl Try.sizeOf22 (by decide) rfl rfl ?_)
                exact ⟨rfl, rfl, rfl⟩
              refine stepsP.cons (fun vals R hpZ => ?_) ?_
              · rw [(envs_of_sat (l := [(0, ptr b2 1)]) ⟨hpZ 0 (by decide), trivial⟩).symm]
                refine XG.op (XOp.load1 (v := rv) Try.isAgg22 rfl (Rd.own [] rfl rfl) ?_)
                exact ⟨rfl, rfl, rfl⟩
              refine stepsP.cons (fun vals R hpZ => ?_) ?_
              · refine XG.op (XOp.move (.int .i64 (((k : Nat) : Int))) rfl ?_)
                exact ⟨rfl, rfl, rfl⟩
              refine stepsP.cons (fun vals R hpZ => ?_) ?_
              · rw [(envs_of_sat (l := [(1, rv), (2, (.int .i64 (((k : Nat) : Int)) : Value))]) ⟨hpZ 1 (by decide), hpZ 2 (by decide), trivial⟩).symm]
                refine XG.op (XOp.indexS (v := rv) (i := ((k : Nat) : Int)) (n := (r).length) k Try.runUnderlying22 Try.sizeOf2 rfl rfl rfl hr.slv (by omega) (Nat.mul_one _) ?_)
                exact ⟨rfl, rfl, rfl⟩
              refine stepsP.cons (fun vals R hpZ => ?_) ?_
              · rw [(envs_of_sat (l := [(3, (.pointer (some (elemA rv (k))) : Value))]) ⟨hpZ 3 (by decide), trivial⟩).symm]
                refine XG.op (XOp.load1 (v := .int .i64 (r.getD k 0)) Try.isAgg2 rfl (hr.rd (by omega)) ?_)
                exact ⟨rfl, rfl, rfl⟩
              refine stepsP.cons (fun vals R hpZ => ?_) ?_
              · rw [(envs_of_sat (l := [(4, (.int .i64 (r.getD k 0) : Value))]) ⟨hpZ 4 (by decide), trivial⟩).symm]
                refine XG.op (XOp.lss (a := r.getD k 0) (b := 0) rfl rfl ?_)
                exact ⟨rfl, rfl, rfl⟩
              refine stepsP.cons (fun vals R hpZ => ?_) ?_
              · rw [(envs_of_sat (l := [(5, (.bool (decide ((r.getD k 0 : Int) < 0)) : Value))]) ⟨hpZ 5 (by decide), trivial⟩).symm]
                refine XG.op (XOp.move (.bool (decide ((r.getD k 0 : Int) < 0))) rfl ?_)
                exact ⟨rfl, rfl, rfl⟩
              refine stepsP.cons (fun vals R hpZ => ?_) ?_
              · rw [(envs_of_sat (l := [(6, (.bool (decide ((r.getD k 0 : Int) < 0)) : Value))]) ⟨hpZ 6 (by decide), trivial⟩).symm]
                refine XG.yes (t := 38) rfl (congrArg Value.bool (decide_eq_true h5)) (XOp.fieldP (b := b2) (0) Try.runUnderlying98 rfl Try.sizeOf22 (by decide) rfl rfl ?_)
                exact ⟨rfl, rfl, rfl⟩
              refine stepsP.cons (fun vals R hpZ => ?_) ?_
              · rw [(envs_of_sat (l := [(6, (.bool (decide ((r.getD k 0 : Int) < 0)) : Value)), (7, ptr b2 0)]) ⟨hpZ 6 (by decide), hpZ 7 (by decide), trivial⟩).symm]
                refine XG.yes (t := 38) rfl (congrArg Value.bool (decide_eq_true h5)) (XOp.load1 (v := lv) Try.isAgg22 rfl (Rd.own [] rfl rfl) ?_)
                exact ⟨rfl, rfl, rfl⟩
              refine stepsP.cons (fun vals R hpZ => ?_) ?_
              · rw [(envs_of_sat (l := [(6, (.bool (decide ((r.getD k 0 : Int) < 0)) : Value))]) ⟨hpZ 6 (by decide), trivial⟩).symm]
                refine XG.yes (t := 38) rfl (congrArg Value.bool (decide_eq_true h5)) (XOp.fieldP (b := b2) (1) Try.runUnderlying98 rfl Try.sizeOf22 (by decide) rfl rfl ?_)
                exact ⟨rfl, rfl, rfl⟩
              refine stepsP.cons (fun vals R hpZ => ?_) ?_
              · rw [(envs_of_sat (l := [(6, (.bool (decide ((r.getD k 0 : Int) < 0)) : Value)), (9, ptr b2 1)]) ⟨hpZ 6 (by decide), hpZ 9 (by decide), trivial⟩).symm]
                refine XG.yes (t := 38) rfl (congrArg Value.bool (decide_eq_true h5)) (XOp.load1 (v := rv) Try.isAgg22 rfl (Rd.own [] rfl rfl) ?_)
                exact ⟨rfl, rfl, rfl⟩
              refine stepsP.cons (fun vals R hpZ => ?_) ?_
              · rw [(envs_of_sat (l := [(6, (.bool (decide ((r.getD k 0 : Int) < 0)) : Value))]) ⟨hpZ 6 (by decide), trivial⟩).symm]
                refine XG.yes (t := 38) rfl (congrArg Value.bool (decide_eq_true h5)) (XOp.move (.int .i64 (((k : Nat) : Int))) rfl ?_)
                exact ⟨rfl, rfl, rfl⟩
              refine stepsP.cons (fun vals R hpZ => ?_) ?_
              · rw [(envs_of_sat (l := [(6, (.bool (decide ((r.getD k 0 : Int) < 0)) : Value)), (10, rv), (11, (.int .i64 (((k : Nat) : Int)) : Value))]) ⟨hpZ 6 (by decide), hpZ 10 (by decide), hpZ 11 (by decide), trivial⟩).symm]
                refine XG.yes (t := 38) rfl (congrArg Value.bool (decide_eq_true h5)) (XOp.indexS (v := rv) (i := ((k : Nat) : Int)) (n := (r).length) k Try.runUnderlying22 Try.sizeOf2 rfl rfl rfl hr.slv (by omega) (Nat.mul_one _) ?_)
                exact ⟨rfl, rfl, rfl⟩
              refine stepsP.cons (fun vals R hpZ => ?_) ?_
              · rw [(envs_of_sat (l := [(6, (.bool (decide ((r.getD k 0 : Int) < 0)) : Value)), (12, (.pointer (some (elemA rv (k))) : Value))]) ⟨hpZ 6 (by decide), hpZ 12 (by decide), trivial⟩).symm]
                refine XG.yes (t := 38) rfl (congrArg Value.bool (decide_eq_true h5)) (XOp.load1 (v := .int .i64 (r.getD k 0)) Try.isAgg2 rfl (hr.rd (by omega)) ?_)
                exact ⟨rfl, rfl, rfl⟩
              exact stepsP.nil
            · intro vals hphi
              have e0 : vals 0 = ptr b2 1 := hphi 0 (by decide)
              have e1 : vals 1 = rv := hphi 1 (by decide)
              have e2 : vals 2 = (.int .i64 (((k : Nat) : Int)) : Value) := hphi 2 (by decide)
              have e3 : vals 3 = (.pointer (some (elemA rv (k))) : Value) := hphi 3 (by decide)
              have e4 : vals 4 = (.int .i64 (r.getD k 0) : Value) := hphi 4 (by decide)
              have e5 : vals 5 = (.bool (decide ((r.getD k 0 : Int) < 0)) : Value) := hphi 5 (by decide)
              have e6 : vals 6 = (.bool (decide ((r.getD k 0 : Int) < 0)) : Value) := hphi 6 (by decide)
              have e7 : vals 7 = ptr b2 0 := hphi 7 (by decide)
              have e8 : vals 8 = lv := hphi 8 (by decide)
              have e9 : vals 9 = ptr b2 1 := hphi 9 (by decide)
              have e10 : vals 10 = rv := hphi 10 (by decide)
              have e11 : vals 11 = (.int .i64 (((k : Nat) : Int)) : Value) := hphi 11 (by decide)
              have e12 : vals 12 = (.pointer (some (elemA rv (k))) : Value) := hphi 12 (by decide)
              have e13 : vals 13 = (.int .i64 (r.getD k 0) : Value) := hphi 13 (by decide)
              rw [(envs_of_sat (l := [(0, ptr b2 1), (1, rv), (2, (.int .i64 (((k : Nat) : Int)) : Value)), (3, (.pointer (some (elemA rv (k))) : Value)), (4, (.int .i64 (r.getD k 0) : Value)), (5, (.bool (decide ((r.getD k 0 : Int) < 0)) : Value)), (6, (.bool (decide ((r.getD k 0 : Int) < 0)) : Value)), (7, ptr b2 0), (8, lv), (9, ptr b2 1), (10, rv), (11, (.int .i64 (((k : Nat) : Int)) : Value)), (12, (.pointer (some (elemA rv (k))) : Value)), (13, (.int .i64 (r.getD k 0) : Value))]) ⟨e0, e1, e2, e3, e4, e5, e6, e7, e8, e9, e10, e11, e12, e13, trivial⟩).symm]
              show XL _ _ _ _ _ _ _ (cellsH b2 [lv, rv] 98 :: cellsH b1 [arv] 33 :: L)
              refine XL.yes (t := 38) rfl (congrArg Value.bool (decide_eq_true h5)) (XOp.call (args := [lv, .int .i64 (r.getD k 0)]) Try.call161 rfl (l1Has_spec (n := r.getD k 0) hl (hbd := (by first | assumption | rfl | omega | (left; simp; done) | (right; simp; done)))) ?_)
              rintro _ _ _ _ ⟨rfl, rfl, rfl⟩
              refine XL.yes (t := 38) rfl (congrArg Value.bool (decide_eq_true h5)) (XOp.notD (p := (r.getD k 0) ∈ l) rfl ?_)
              refine XL.cons (XOp.pickT (.bool (decide (¬((r.getD k 0) ∈ l)))) (congrArg Value.bool (decide_eq_true h5)) rfl ?_)
              refine XL.nil ?_
              refine X.condD (p := ¬((r.getD k 0) ∈ l)) rfl (fun h6 => ?_) (fun h6 => ?_)
              · refine X.seq ?_
                refine X.region ?_
                refine XL.cons (XOp.assign (.bool (false)) rfl ?_)
                refine XL.nil ?_
                refine X.ret (blockQ_ret (thenQ_ret (thenQ_ret (blockQ_ret (thenQ_ret (retEnd (L' := L) [.bool (false)] (.bool (false)) (.tmp rfl .nil) rfl (FLe.refl _) (FLe.refl _) (Sub.drop (Sub.drop (Sub.refl _))) ?_))))))
                exact ⟨(congrArg Value.bool (ruleOk_false (fun h => by have := h.vars (r.getD k 0) (mem_of_getD (k := k) (by omega) rfl); simp_all))), rfl, rfl⟩
              · refine X.skip ?_
                refine X.region ?_
                refine XL.cons (XOp.move (.int .i64 (((k : Nat) : Int))) rfl ?_)
                refine XL.cons (XOp.addR (a := ((k : Nat) : Int)) (b := 1) (((k + 1 : Nat) : Int)) rfl rfl (by omega) (by omega) ?_)
                refine XL.cons (XOp.assign (.int .i64 (((k + 1 : Nat) : Int))) rfl ?_)
                refine XL.nil ?_
                exact ⟨k + 1, _, FLe.refl _, (FLe.refl _), ⟨rfl, rfl, trivial⟩, (Sub.cons (Sub.cons (Sub.refl _))), ⟨rfl, (by omega), (fun i hi h0 => (Nat.lt_or_ge i k).elim (fun h => hall i h h0) (fun h => by obtain rfl : i = k := (by omega); first | assumption | (exfalso; omega) | simp_all))⟩, (by omega)⟩
          · refine X.draw [cellsH b2 [lv, rv] 98, cellsH b1 [arv] 33] L 14 [[], [], [], [], [], [], [], [], [], [], [], [], [], []] [[], [0], [], [1, 2], [3], [4], [5], [6], [6, 7], [6], [6, 9], [6], [6, 10, 11], [6, 12]] (phiL [fun us v => v = ptr b2 1, fun us v => v = rv, fun us v => v = (.int .i64 (((k : Nat) : Int)) : Value), fun us v => v = (.pointer (some (elemA rv (k))) : Value), fun us v => v = (.int .i64 (r.getD k 0) : Value), fun us v => v = (.bool (decide ((r.getD k 0 : Int) < 0)) : Value), fun us v => v = (.bool (decide ((r.getD k 0 : Int) < 0)) : Value), fun us v => v = undef, fun us v => v = undef, fun us v => v = undef, fun us v => v = undef, fun us v => v = undef, fun us v => v = undef, fun us v => v = undef]) (ownL [fun us v => [], fun us v => [], fun us v => [], fun us v => [], fun us v => [], fun us v => [], fun us v => [], fun us v => [], fun us v => [], fun us v => [], fun us v => [], fun us v => [], fun us v => [], fun us v => []]) mixed rfl rfl (by kernel_rfl) ?_ ?_
            · refine stepsP.cons (fun vals R hpZ => ?_) ?_
              · refine XG.op (XOp.fieldP (b := b2) (1) Try.runUnderlying98 rfl Try.sizeOf22 (by decide) rfl rfl ?_)
                exact ⟨rfl, rfl, rfl⟩
              refine stepsP.cons (fun vals R hpZ => ?_) ?_
              · rw [(envs_of_sat (l := [(0, ptr b2 1)]) ⟨hpZ 0 (by decide), trivial⟩).symm]
                refine XG.op (XOp.load1 (v := rv) Try.isAgg22 rfl (Rd.own [] rfl rfl) ?_)
                exact ⟨rfl, rfl, rfl⟩
              refine stepsP.cons (fun vals R hpZ => ?_) ?_
              · refine XG.op (XOp.move (.int .i64 (((k : Nat) : Int))) rfl ?_)
                exact ⟨rfl, rfl, rfl⟩
              refine stepsP.cons (fun vals R hpZ => ?_) ?_
              · rw [(envs_of_sat (l := [(1, rv), (2, (.int .i64 (((k : Nat) : Int)) : Value))]) ⟨hpZ 1 (by decide), hpZ 2 (by decide), trivial⟩).symm]
                refine XG.op (XOp.indexS (v := rv) (i := ((k : Nat) : Int)) (n := (r).length) k Try.runUnderlying22 Try.sizeOf2 rfl rfl rfl hr.slv (by omega) (Nat.mul_one _) ?_)
                exact ⟨rfl, rfl, rfl⟩
              refine stepsP.cons (fun vals R hpZ => ?_) ?_
              · rw [(envs_of_sat (l := [(3, (.pointer (some (elemA rv (k))) : Value))]) ⟨hpZ 3 (by decide), trivial⟩).symm]
                refine XG.op (XOp.load1 (v := .int .i64 (r.getD k 0)) Try.isAgg2 rfl (hr.rd (by omega)) ?_)
                exact ⟨rfl, rfl, rfl⟩
              refine stepsP.cons (fun vals R hpZ => ?_) ?_
              · rw [(envs_of_sat (l := [(4, (.int .i64 (r.getD k 0) : Value))]) ⟨hpZ 4 (by decide), trivial⟩).symm]
                refine XG.op (XOp.lss (a := r.getD k 0) (b := 0) rfl rfl ?_)
                exact ⟨rfl, rfl, rfl⟩
              refine stepsP.cons (fun vals R hpZ => ?_) ?_
              · rw [(envs_of_sat (l := [(5, (.bool (decide ((r.getD k 0 : Int) < 0)) : Value))]) ⟨hpZ 5 (by decide), trivial⟩).symm]
                refine XG.op (XOp.move (.bool (decide ((r.getD k 0 : Int) < 0))) rfl ?_)
                exact ⟨rfl, rfl, rfl⟩
              refine stepsP.cons (fun vals R hpZ => ?_) ?_
              · rw [(envs_of_sat (l := [(6, (.bool (decide ((r.getD k 0 : Int) < 0)) : Value))]) ⟨hpZ 6 (by decide), trivial⟩).symm]
                exact XG.no (t := 38) rfl (congrArg Value.bool (decide_eq_false h5)) ⟨rfl, rfl, rfl⟩
              refine stepsP.cons (fun vals R hpZ => ?_) ?_
              · rw [(envs_of_sat (l := [(6, (.bool (decide ((r.getD k 0 : Int) < 0)) : Value)), (7, undef)]) ⟨hpZ 6 (by decide), hpZ 7 (by decide), trivial⟩).symm]
                exact XG.no (t := 38) rfl (congrArg Value.bool (decide_eq_false h5)) ⟨rfl, rfl, rfl⟩
              refine stepsP.cons (fun vals R hpZ => ?_) ?_
              · rw [(envs_of_sat (l := [(6, (.bool (decide ((r.getD k 0 : Int) < 0)) : Value))]) ⟨hpZ 6 (by decide), trivial⟩).symm]
                exact XG.no (t := 38) rfl (congrArg Value.bool (decide_eq_false h5)) ⟨rfl, rfl, rfl⟩
              refine stepsP.cons (fun vals R hpZ => ?_) ?_
              · rw [(envs_of_sat (l := [(6, (.bool (decide ((r.getD k 0 : Int) < 0)) : Value)), (9, undef)]) ⟨hpZ 6 (by decide), hpZ 9 (by decide), trivial⟩).symm]
                exact XG.no (t := 38) rfl (congrArg Value.bool (decide_eq_false h5)) ⟨rfl, rfl, rfl⟩
              refine stepsP.cons (fun vals R hpZ => ?_) ?_
              · rw [(envs_of_sat (l := [(6, (.bool (decide ((r.getD k 0 : Int) < 0)) : Value))]) ⟨hpZ 6 (by decide), trivial⟩).symm]
                exact XG.no (t := 38) rfl (congrArg Value.bool (decide_eq_false h5)) ⟨rfl, rfl, rfl⟩
              refine stepsP.cons (fun vals R hpZ => ?_) ?_
              · rw [(envs_of_sat (l := [(6, (.bool (decide ((r.getD k 0 : Int) < 0)) : Value)), (10, undef), (11, undef)]) ⟨hpZ 6 (by decide), hpZ 10 (by decide), hpZ 11 (by decide), trivial⟩).symm]
                exact XG.no (t := 38) rfl (congrArg Value.bool (decide_eq_false h5)) ⟨rfl, rfl, rfl⟩
              refine stepsP.cons (fun vals R hpZ => ?_) ?_
              · rw [(envs_of_sat (l := [(6, (.bool (decide ((r.getD k 0 : Int) < 0)) : Value)), (12, undef)]) ⟨hpZ 6 (by decide), hpZ 12 (by decide), trivial⟩).symm]
                exact XG.no (t := 38) rfl (congrArg Value.bool (decide_eq_false h5)) ⟨rfl, rfl, rfl⟩
              exact stepsP.nil
            · intro vals hphi
              have e0 : vals 0 = ptr b2 1 := hphi 0 (by decide)
              have e1 : vals 1 = rv := hphi 1 (by decide)
              have e2 : vals 2 = (.int .i64 (((k : Nat) : Int)) : Value) := hphi 2 (by decide)
              have e3 : vals 3 = (.pointer (some (elemA rv (k))) : Value) := hphi 3 (by decide)
              have e4 : vals 4 = (.int .i64 (r.getD k 0) : Value) := hphi 4 (by decide)
              have e5 : vals 5 = (.bool (decide ((r.getD k 0 : Int) < 0)) : Value) := hphi 5 (by decide)
              have e6 : vals 6 = (.bool (decide ((r.getD k 0 : Int) < 0)) : Value) := hphi 6 (by decide)
              have e7 : vals 7 = undef := hphi 7 (by decide)
              have e8 : vals 8 = undef := hphi 8 (by decide)
              have e9 : vals 9 = undef := hphi 9 (by decide)
              have e10 : vals 10 = undef := hphi 10 (by decide)
              have e11 : vals 11 = undef := hphi 11 (by decide)
              have e12 : vals 12 = undef := hphi 12 (by decide)
              have e13 : vals 13 = undef := hphi 13 (by decide)
              rw [(envs_of_sat (l := [(0, ptr b2 1), (1, rv), (2, (.int .i64 (((k : Nat) : Int)) : Value)), (3, (.pointer (some (elemA rv (k))) : Value)), (4, (.int .i64 (r.getD k 0) : Value)), (5, (.bool (decide ((r.getD k 0 : Int) < 0)) : Value)), (6, (.bool (decide ((r.getD k 0 : Int) < 0)) : Value)), (7, undef), (8, undef), (9, undef), (10, undef), (11, undef), (12, undef), (13, undef)]) ⟨e0, e1, e2, e3, e4, e5, e6, e7, e8, e9, e10, e11, e12, e13, trivial⟩).symm]
              show XL _ _ _ _ _ _ _ (cellsH b2 [lv, rv] 98 :: cellsH b1 [arv] 33 :: L)
              refine XL.no (t := 38) rfl (congrArg Value.bool (decide_eq_false h5)) ?_
              refine XL.no (t := 38) rfl (congrArg Value.bool (decide_eq_false h5)) ?_
              refine XL.cons (XOp.pickF (.bool (false)) (congrArg Value.bool (decide_eq_false h5)) rfl ?_)
              refine XL.nil ?_
              refine X.condF rfl ?_
              refine X.skip ?_
              refine X.region ?_
              refine XL.cons (XOp.move (.int .i64 (((k : Nat) : Int))) rfl ?_)
              refine XL.cons (XOp.addR (a := ((k : Nat) : Int)) (b := 1) (((k + 1 : Nat) : Int)) rfl rfl (by omega) (by omega) ?_)
              refine XL.cons (XOp.assign (.int .i64 (((k + 1 : Nat) : Int))) rfl ?_)
              refine XL.nil ?_
              exact ⟨k + 1, _, FLe.refl _, (FLe.refl _), ⟨rfl, rfl, trivial⟩, (Sub.cons (Sub.cons (Sub.refl _))), ⟨rfl, (by omega), (fun i hi h0 => (Nat.lt_or_ge i k).elim (fun h => hall i h h0) (fun h => by obtain rfl : i = k := (by omega); first | assumption | (exfalso; omega) | simp_all))⟩, (by omega)⟩
        · refine X.exit (thenQ_exit (thenQ_exit (blockQ_exit ?_)))
          refine X.seq ?_
          refine X.region ?_
          refine XL.cons (XOp.assign (.bool (true)) rfl ?_)
          refine XL.nil ?_
          refine X.ret (retEnd (L' := L) [.bool (true)] (.bool (true)) (.tmp rfl .nil) rfl (FLe.refl _) (FLe.refl _) (Sub.drop (Sub.drop (Sub.refl _))) ?_)
          exact ⟨(congrArg Value.bool (ruleOk_iff.2 ⟨hlo, hro, by omega, fun n hn h0 => by obtain ⟨i, hi, rfl⟩ := List.getElem_of_mem hn; have := hall i (by omega); simp [List.getD, hi] at this; exact this h0⟩)), rfl, rfl⟩

/- spec.SystemOk -/
theorem sSystemOk_spec {F : FH} {L : List HP} {arv : Value} {ar : List Int} (har : IntsF F arv ar) {rsv : Value} {rs : List (List Int × List Int)} (hrs : PairsF F rsv rs) (hla : ar.length ≤ 4000000) (hlr : rs.length ≤ 4000000) (hrb : ∀ i, i < rs.length → (rs.getD i ([], [])).1.length ≤ 4000000 ∧ (rs.getD i ([], [])).2.length ≤ 4000000) :
    Does Try.prog 56 [.agg #[arv, rsv]] F (L) (fun v F' L' => (.bool (sysOk ar rs) : Value) = v ∧ F = F' ∧ L = L') := by
  refine Does.of_X Try.func56 rfl rfl rfl ?_
  refine X.seq ?_
  refine X.region ?_
  refine XL.cons (XOp.box [arv, rsv] rfl rfl ?_)
  intro b1
  refine XL.cons (XOp.assign (.bool (false)) rfl ?_)
  refine XL.nil ?_
  refine X.seq ?_
  refine X.seq ?_
  refine X.region ?_
  refine XL.cons (XOp.fieldP (b := b1) (0) Try.runUnderlying36 rfl Try.sizeOf33 (by decide) rfl rfl ?_)
  refine XL.cons (XOp.loadN [arv] Try.isAgg33 Try.sizeOf33 rfl rfl (Rd.ownN [] rfl rfl) ?_)
  refine XL.cons (XOp.call (args := [.agg #[arv]]) Try.call109 rfl (sSigOk_spec har (hla := (by first | assumption | rfl | omega | (left; simp; done) | (right; simp; done)))) ?_)
  rintro _ _ _ _ ⟨rfl, rfl, rfl⟩
  refine XL.cons (XOp.notB (b := sigOk ar) rfl ?_)
  refine XL.cons (XOp.move (.bool (!(sigOk ar))) rfl ?_)
  by_cases h1 : (!(sigOk ar)) = true
  · refine XL.no (t := 8) rfl (congrArg Value.bool h1) ?_
    refine XL.no (t := 8) rfl (congrArg Value.bool h1) ?_
    refine XL.no (t := 8) rfl (congrArg Value.bool h1) ?_
    refine XL.no (t := 8) rfl (congrArg Value.bool h1) ?_
    refine XL.cons (XOp.pickT (.bool (true)) (congrArg Value.bool h1) rfl ?_)
    refine XL.nil ?_
    refine X.condT rfl ?_
    refine X.seq ?_
    refine X.region ?_
    refine XL.cons (XOp.assign (.bool (false)) rfl ?_)
    refine XL.nil ?_
    refine X.ret (thenQ_ret (retEnd (L' := L) [.bool (false)] (.bool (false)) (.tmp rfl .nil) rfl (FLe.refl _) (FLe.refl _) (Sub.drop (Sub.refl _)) ?_))
    exact ⟨(congrArg Value.bool (sysOk_false (fun h => by have := h.1; have := h.2.1; simp_all <;> omega))), rfl, rfl⟩
  · rw [Bool.not_eq_true] at h1
    refine XL.yes (t := 8) rfl (congrArg Value.bool h1) (XOp.fieldP (b := b1) (1) Try.runUnderlying36 rfl Try.sizeOf34 (by decide) rfl rfl ?_)
    refine XL.yes (t := 8) rfl (congrArg Value.bool h1) (XOp.load1 (v := rsv) Try.isAgg34 rfl (Rd.own [] rfl rfl) ?_)
    refine XL.yes (t := 8) rfl (congrArg Value.bool h1) (XOp.lenS (v := rsv) (n := (rs).length) Try.runUnderlying34 rfl hrs.slv ?_)
    refine XL.yes (t := 8) rfl (congrArg Value.bool h1) (XOp.gtr (a := (((rs).length : Nat) : Int)) (b := 12) rfl rfl ?_)
    refine XL.cons (XOp.pickF (.bool (decide (((((rs).length : Nat) : Int) : Int) > 12))) (congrArg Value.bool h1) rfl ?_)
    refine XL.nil ?_
    refine X.condD (p := ((((rs).length : Nat) : Int) : Int) > 12) rfl (fun h2 => ?_) (fun h2 => ?_)
    · refine X.seq ?_
      refine X.region ?_
      refine XL.cons (XOp.assign (.bool (false)) rfl ?_)
      refine XL.nil ?_
      refine X.ret (thenQ_ret (retEnd (L' := L) [.bool (false)] (.bool (false)) (.tmp rfl .nil) rfl (FLe.refl _) (FLe.refl _) (Sub.drop (Sub.refl _)) ?_))
      exact ⟨(congrArg Value.bool (sysOk_false (fun h => by have := h.1; have := h.2.1; simp_all <;> omega))), rfl, rfl⟩
    · refine X.skip ?_
      refine X.seq ?_
      refine X.seq ?_
      refine X.region ?_
      refine XL.cons (XOp.assign (.int .i64 (0)) rfl ?_)
      refine XL.nil ?_
      refine X.block ?_
      refine X.loop (α := Nat) (fun k => [(1, ptr b1 0), (3, .int .i64 (((k : Nat) : Int)))]) (fun k => cellsH b1 [arv, rsv] 36 :: L) (fun k F' => F = F' ∧ (k ≤ rs.length) ∧ (∀ i, i < k → ruleOk ar (rs.getD i ([], [])).1 (rs.getD i ([], [])).2 = true)) (fun k => rs.length - k) 0 ⟨rfl, rfl, trivial⟩ (Sub.cons (Sub.refl _)) ⟨rfl, (by omega), (fun i hi => absurd hi (by omega))⟩ ?_
      rintro k rE _ _ ⟨rfl, hk, hall⟩
      show X _ _ _ _ (envs [(1, ptr b1 0), (3, .int .i64 (((k : Nat) : Int)))] rE) _ (cellsH b1 [arv, rsv] 36 :: L)
      refine X.seq ?_
      refine X.seq ?_
      refine X.region ?_
      refine XL.cons (XOp.move (.int .i64 (((k : Nat) : Int))) rfl ?_)
      refine XL.cons (XOp.fieldP (b := b1) (1) Try.runUnderlying36 rfl Try.sizeOf34 (by decide) rfl rfl ?_)
      refine XL.cons (XOp.load1 (v := rsv) Try.isAgg34 rfl (Rd.own [] rfl rfl) ?_)
      refine XL.cons (XOp.lenS (v := rsv) (n := (rs).length) Try.runUnderlying34 rfl hrs.slv ?_)
      refine XL.cons (XOp.lss (a := ((k : Nat) : Int)) (b := (((rs).length : Nat) : Int)) rfl rfl ?_)
      refine XL.nil ?_
      refine X.condD (p := (((k : Nat) : Int) : Int) < (((rs).length : Nat) : Int)) rfl (fun h3 => ?_) (fun h3 => ?_)
      · refine X.skip ?_
        refine X.seq ?_
        refine X.block ?_
        refine X.seq ?_
        obtain ⟨a1, a2, ha1, ha2, hr1, hr2⟩ := hrs.rd (i := k) (by omega)
        refine X.draw [cellsH b1 [arv, rsv] 36] L 7 [[], [], [], [], [], [], []] [[], [0], [], [2], [], [3, 4], [5]] (phiL [fun us v => v = ptr b1 0, fun us v => v = (.agg #[arv] : Value), fun us v => v = ptr b1 1, fun us v => v = rsv, fun us v => v = (.int .i64 (((k : Nat) : Int)) : Value), fun us v => v = (.pointer (some (elemA rsv (k * 2))) : Value), fun us v => v = (.agg #[a1, a2] : Value)]) (ownL [fun us v => [], fun us v => [], fun us v => [], fun us v => [], fun us v => [], fun us v => [], fun us v => []]) mixed rfl rfl (by kernel_rfl) ?_ ?_
        · refine stepsP.cons (fun vals R hpZ => ?_) ?_
          · refine XG.op (XOp.fieldP (b := b1) (0) Try.runUnderlying36 rfl Try.sizeOf33 (by decide) rfl rfl ?_)
            exact ⟨rfl, rfl, rfl⟩
          refine stepsP.cons (fun vals R hpZ => ?_) ?_
          · rw [(envs_of_sat (l := [(0, ptr b1 0)]) ⟨hpZ 0 (by decide), trivial⟩).symm]
            refine XG.op (XOp.loadN [arv] Try.isAgg33 Try.sizeOf33 rfl rfl (Rd.ownN [] rfl rfl) ?_)
            exact ⟨rfl, rfl, rfl⟩
          refine stepsP.cons (fun vals R hpZ => ?_) ?_
          · refine XG.op (XOp.fieldP (b := b1) (1) Try.runUnderlying36 rfl Try.sizeOf34 (by decide) rfl rfl ?_)
            exact ⟨rfl, rfl, rfl⟩
          refine stepsP.cons (fun vals R hpZ => ?_) ?_
          · rw [(envs_of_sat (l := [(2, ptr b1 1)]) ⟨hpZ 2 (by decide), trivial⟩).symm]
            refine XG.op (XOp.load1 (v := rsv) Try.isAgg34 rfl (Rd.own [] rfl rfl) ?_)
            exact ⟨rfl, rfl, rfl⟩
          refine stepsP.cons (fun vals R hpZ => ?_) ?_
          · refine XG.op (XOp.move (.int .i64 (((k : Nat) : Int))) rfl ?_)
            exact ⟨rfl, rfl, rfl⟩
          refine stepsP.cons (fun vals R hpZ => ?_) ?_
          · rw [(envs_of_sat (l := [(3, rsv), (4, (.int .i64 (((k : Nat) : Int)) : Value))]) ⟨hpZ 3 (by decide), hpZ 4 (by decide), trivial⟩).symm]
            refine XG.op (XOp.indexS (v := rsv) (i := ((k : Nat) : Int)) (n := (rs).length) k Try.runUnderlying34 Try.sizeOf98 rfl rfl rfl hrs.slv (by omega) rfl ?_)
            exact ⟨rfl, rfl, rfl⟩
          refine stepsP.cons (fun vals R hpZ => ?_) ?_
          · rw [(envs_of_sat (l := [(5, (.pointer (some (elemA rsv (k * 2))) : Value))]) ⟨hpZ 5 (by decide), trivial⟩).symm]
            refine XG.op (XOp.loadN [a1, a2] Try.isAgg98 Try.sizeOf98 rfl rfl (Rd.two (hr1 _) (hr2 _)) ?_)
            exact ⟨rfl, rfl, rfl⟩
          exact stepsP.nil
        · intro vals hphi
          have e0 : vals 0 = ptr b1 0 := hphi 0 (by decide)
          have e1 : vals 1 = (.agg #[arv] : Value) := hphi 1 (by decide)
          have e2 : vals 2 = ptr b1 1 := hphi 2 (by decide)
          have e3 : vals 3 = rsv := hphi 3 (by decide)
          have e4 : vals 4 = (.int .i64 (((k : Nat) : Int)) : Value) := hphi 4 (by decide)
          have e5 : vals 5 = (.pointer (some (elemA rsv (k * 2))) : Value) := hphi 5 (by decide)
          have e6 : vals 6 = (.agg #[a1, a2] : Value) := hphi 6 (by decide)
          rw [(envs_of_sat (l := [(0, ptr b1 0), (1, (.agg #[arv] : Value)), (2, ptr b1 1), (3, rsv), (4, (.int .i64 (((k : Nat) : Int)) : Value)), (5, (.pointer (some (elemA rsv (k * 2))) : Value)), (6, (.agg #[a1, a2] : Value))]) ⟨e0, e1, e2, e3, e4, e5, e6, trivial⟩).symm]
          show XL _ _ _ _ _ _ _ (cellsH b1 [arv, rsv] 36 :: L)
          refine XL.cons (XOp.call (args := [.agg #[arv], .agg #[a1, a2]]) Try.call110 rfl (sRuleOk_spec har ha1 ha2 (hla := (by first | assumption | rfl | omega | (left; simp; done) | (right; simp; done))) (hlb := ((hrb k (by omega)).1)) (hlc := ((hrb k (by omega)).2))) ?_)
          rintro _ _ _ _ ⟨rfl, rfl, rfl⟩
          refine XL.cons (XOp.notB (b := ruleOk ar ((rs.getD k ([], [])).1) ((rs.getD k ([], [])).2)) rfl ?_)
          refine XL.nil ?_
          refine X.cond (t := !(ruleOk ar ((rs.getD k ([], [])).1) ((rs.getD k ([], [])).2))) rfl (fun h4 => ?_) (fun h4 => ?_)
          · refine X.seq ?_
            refine X.region ?_
            refine XL.cons (XOp.assign (.bool (false)) rfl ?_)
            refine XL.nil ?_
            refine X.ret (blockQ_ret (thenQ_ret (thenQ_ret (blockQ_ret (thenQ_ret (retEnd (L' := L) [.bool (false)] (.bool (false)) (.tmp rfl .nil) rfl (FLe.refl _) (FLe.refl _) (Sub.drop (Sub.refl _)) ?_))))))
            exact ⟨(congrArg Value.bool (sysOk_false (fun h => by have := h.2.2 k (by omega); simp_all))), rfl, rfl⟩
          · refine X.skip ?_
            refine X.region ?_
            refine XL.cons (XOp.move (.int .i64 (((k : Nat) : Int))) rfl ?_)
            refine XL.cons (XOp.addR (a := ((k : Nat) : Int)) (b := 1) (((k + 1 : Nat) : Int)) rfl rfl (by omega) (by omega) ?_)
            refine XL.cons (XOp.assign (.int .i64 (((k + 1 : Nat) : Int))) rfl ?_)
            refine XL.nil ?_
            exact ⟨k + 1, _, FLe.refl _, (FLe.refl _), ⟨rfl, rfl, trivial⟩, (Sub.cons (Sub.refl _)), ⟨rfl, (by omega), (fun i hi => (Nat.lt_or_ge i k).elim (fun h => hall i h) (fun h => by obtain rfl : i = k := (by omega); first | assumption | simp_all))⟩, (by omega)⟩
      · refine X.exit (thenQ_exit (thenQ_exit (blockQ_exit ?_)))
        refine X.seq ?_
        refine X.region ?_
        refine XL.cons (XOp.assign (.bool (true)) rfl ?_)
        refine XL.nil ?_
        refine X.ret (retEnd (L' := L) [.bool (true)] (.bool (true)) (.tmp rfl .nil) rfl (FLe.refl _) (FLe.refl _) (Sub.drop (Sub.refl _)) ?_)
        exact ⟨(congrArg Value.bool (sysOk_iff.2 ⟨by first | assumption | simp_all, by omega, fun i hi => hall i (by omega)⟩)), rfl, rfl⟩

/- impl.matchInto -/
theorem matchInto_spec {F : FH} {L : List HP} {arv : Value} {ar : List Int} (har : IntsF F arv ar) {pv : Value} {p : List Int} (hp : IntsF F pv p) {tv : Value} {t : List Int} (ht : IntsF F tv t) {bs : List Value} {b : RowL} (hb : BindC F bs b) (hbl : b.length = 24) (ho : termOk ar t = true) (hpl : p.length ≤ 4000000) (hpg : ∀ k, k < p.length → -24 ≤ p.getD k 0) :
    Does Try.prog 152 [.agg #[arv], pv, tv, .agg (bs).toArray] F (L) (fun v F' L' => F = F' ∧ ∃ (bs : List Value), ∃ (bl : RowL), (.tuple #[.agg (bs).toArray, .bool ((mGo ar t p 0 b).isSome)] : Value) = v ∧ (BindC F' bs bl) ∧ (bl.length = 24) ∧ (∀ r, mGo ar t p 0 b = some r → bl = r) ∧ L = L') := by
  refine Does.of_X Try.func152 rfl rfl rfl ?_
  have hsl := sigOk_spec (termOk_sig ho)
  have htl := termOk_len ho
  have hnn := notNil_of_pos ht (by omega)
  refine X.seq ?_
  refine X.region ?_
  refine XL.cons (XOp.box [arv] rfl rfl ?_)
  intro b1
  refine XL.cons (XOp.box bs rfl rfl ?_)
  intro b2
  refine XL.cons (XOp.alloc (List.replicate 24 (Value.slice none 0 0)) Try.zeroValue187 rfl ?_)
  intro b3
  have hc1 : BindC F _ _ := BindC.nils 24
  refine XL.cons (XOp.assign (.bool (false)) rfl ?_)
  refine XL.nil ?_
  refine X.seq ?_
  refine X.region ?_
  refine XL.cons (XOp.assign (.int .i64 (0)) rfl ?_)
  refine XL.nil ?_
  refine X.seq ?_
  refine X.seq ?_
  refine X.region ?_
  refine XL.cons (XOp.move (pv) rfl ?_)
  refine XL.cons (XOp.lenS (v := pv) (n := (p).length) Try.runUnderlying22 rfl hp.slv ?_)
  refine XL.cons (XOp.move (.int .i64 (0)) rfl ?_)
  refine XL.nil ?_
  refine X.block ?_
  refine X.loop (α := Nat × Nat × List Value × RowL) (fun xQ => [(2, tv), (4, ptr b1 0), (7, ptr b2 0), (8, ptr b3 0), (10, .int .i64 (((xQ.2.1 : Nat) : Int))), (14, pv), (15, .int .i64 ((((p).length : Nat) : Int))), (16, .int .i64 (((xQ.1 : Nat) : Int)))]) (fun xQ => cellsH b3 (List.replicate 24 (Value.slice none 0 0)) 187 :: cellsH b2 xQ.2.2.1 187 :: cellsH b1 [arv] 33 :: L) (fun xQ F' => F = F' ∧ (BindC F xQ.2.2.1 xQ.2.2.2) ∧ (xQ.2.2.2.length = 24) ∧ (xQ.1 ≤ p.length) ∧ (xQ.2.1 ≤ t.length) ∧ (mGo ar t p 0 b = mGo ar t (p.drop xQ.1) xQ.2.1 xQ.2.2.2)) (fun xQ => p.length - xQ.1) (0, 0, bs, b) ⟨rfl, rfl, rfl, rfl, rfl, rfl, rfl, rfl, trivial⟩ (Sub.cons (Sub.cons (Sub.cons (Sub.refl _)))) ⟨rfl, (hb), (hbl), (by (try dsimp only) <;> omega), (by (try dsimp only) <;> omega), (rfl)⟩ ?_
  rintro ⟨k, i, bs, bl⟩ rE _ _ ⟨rfl, hbc, hbl2, hk, hi, hm⟩
  show X _ _ _ _ (envs [(2, tv), (4, ptr b1 0), (7, ptr b2 0), (8, ptr b3 0), (10, .int .i64 (((i : Nat) : Int))), (14, pv), (15, .int .i64 ((((p).length : Nat) : Int))), (16, .int .i64 (((k : Nat) : Int)))] rE) _ (cellsH b3 (List.replicate 24 (Value.slice none 0 0)) 187 :: cellsH b2 bs 187 :: cellsH b1 [arv] 33 :: L)
  dsimp only at hbc hbl2 hk hi hm
  have hpk := hpg k
  have hsl2 := fun h => sub_length (p := i) ho h
  have hee := fun h => endN_spec (p := i) ho h
  refine X.seq ?_
  refine X.region ?_
  refine XL.cons (XOp.lss (a := ((k : Nat) : Int)) (b := (((p).length : Nat) : Int)) rfl rfl ?_)
  refine XL.nil ?_
  refine X.seq ?_
  refine X.condD (p := (((k : Nat) : Int) : Int) < (((p).length : Nat) : Int)) rfl (fun h1 => ?_) (fun h1 => ?_)
  · refine X.skip ?_
    refine X.seq ?_
    refine X.block ?_
    refine X.seq ?_
    refine X.region ?_
    refine XL.cons (XOp.indexS (v := pv) (i := ((k : Nat) : Int)) (n := (p).length) k Try.runUnderlying22 Try.sizeOf2 rfl rfl rfl hp.slv (by omega) (Nat.mul_one _) ?_)
    refine XL.cons (XOp.load1 (v := .int .i64 (p.getD k 0)) Try.isAgg2 rfl (hp.rd (by omega)) ?_)
    refine XL.cons (XOp.assign (.int .i64 (p.getD k 0)) rfl ?_)
    refine XL.nil ?_
    refine X.seq ?_
    refine X.seq ?_
    refine X.region ?_
    refine XL.cons (XOp.move (.int .i64 (((i : Nat) : Int))) rfl ?_)
    refine XL.cons (XOp.move (tv) rfl ?_)
    refine XL.cons (XOp.lenS (v := tv) (n := (t).length) Try.runUnderlying22 rfl ht.slv ?_)
    refine XL.cons (XOp.geq (a := ((i : Nat) : Int)) (b := (((t).length : Nat) : Int)) rfl rfl ?_)
    refine XL.nil ?_
    refine X.condD (p := (((i : Nat) : Int) : Int) ≥ (((t).length : Nat) : Int)) rfl (fun h2 => ?_) (fun h2 => ?_)
    · refine X.seq ?_
      refine X.region ?_
      refine XL.cons (XOp.loadN bs Try.isAgg187 Try.sizeOf187 (by have := CO.len hbc; (try simp only [List.length_set, List.length_replicate] at this ⊢) <;> omega) rfl (Rd.ownN [_] rfl take_all) ?_)
      refine XL.cons (XOp.storeN (vs := bs) [] _ bs Try.sizeOf187 rfl rfl (by have := CO.len hbc; (try simp only [List.length_set, List.length_replicate] at this ⊢) <;> omega) hbc.ones rfl (Nat.ble_eq_true_of_le (Nat.le_of_eq (by have := CO.len hc1; (try simp only [List.length_set, List.length_replicate] at this ⊢) <;> omega))) (arr_over (by have := CO.len hc1; (try simp only [List.length_set, List.length_replicate] at this ⊢) <;> omega)) ?_)
      refine XL.cons (XOp.assign (.bool (false)) rfl ?_)
      refine XL.nil ?_
      refine X.ret (thenQ_ret (blockQ_ret (thenQ_ret (thenQ_ret (blockQ_ret (thenQ_ret (retEnd (L' := L) [.agg (bs).toArray, .bool (false)] (.tuple #[.agg (bs).toArray, .bool (false)]) (.cell rfl (loadNV bs Try.isAgg187 Try.sizeOf187 (by have := CO.len hbc; (try simp only [List.length_set, List.length_replicate] at this ⊢) <;> omega) (Rd.ownN [] rfl take_all)) (.tmp rfl .nil)) rfl (FLe.refl _) (FLe.refl _) (Sub.drop (Sub.drop (Sub.drop (Sub.refl _)))) ?_)))))))
      have hz : mGo ar t p 0 b = none := hm.trans (mGo_short (by omega) (by omega))
      refine ⟨rfl, _, _, by rw [hz]; rfl, hbc, by (try simp only [List.length_set]) <;> omega, fun r hr => ?_, rfl⟩
      rw [hz] at hr; cases hr
    · refine X.skip ?_
      refine X.seq ?_
      refine X.seq ?_
      refine X.region ?_
      refine XL.cons (XOp.move (.int .i64 (p.getD k 0)) rfl ?_)
      refine XL.cons (XOp.geq (a := p.getD k 0) (b := 0) rfl rfl ?_)
      refine XL.nil ?_
      refine X.condD (p := (p.getD k 0 : Int) ≥ 0) rfl (fun h3 => ?_) (fun h3 => ?_)
      · refine X.seq ?_
        refine X.seq ?_
        refine X.region ?_
        refine XL.cons (XOp.move (tv) rfl ?_)
        refine XL.cons (XOp.move (.int .i64 (((i : Nat) : Int))) rfl ?_)
        refine XL.cons (XOp.indexS (v := tv) (i := ((i : Nat) : Int)) (n := (t).length) i Try.runUnderlying22 Try.sizeOf2 rfl rfl rfl ht.slv (by omega) (Nat.mul_one _) ?_)
        refine XL.cons (XOp.load1 (v := .int .i64 (t.getD i 0)) Try.isAgg2 rfl (ht.rd (by omega)) ?_)
        refine XL.cons (XOp.move (.int .i64 (p.getD k 0)) rfl ?_)
        refine XL.cons (XOp.neq (a := t.getD i 0) (b := p.getD k 0) rfl rfl ?_)
        refine XL.nil ?_
        refine X.condD (p := (t.getD i 0 : Int) ≠ p.getD k 0) rfl (fun h4 => ?_) (fun h4 => ?_)
        · refine X.seq ?_
          refine X.region ?_
          refine XL.cons (XOp.loadN bs Try.isAgg187 Try.sizeOf187 (by have := CO.len hbc; (try simp only [List.length_set, List.length_replicate] at this ⊢) <;> omega) rfl (Rd.ownN [_] rfl take_all) ?_)
          refine XL.cons (XOp.storeN (vs := bs) [] _ bs Try.sizeOf187 rfl rfl (by have := CO.len hbc; (try simp only [List.length_set, List.length_replicate] at this ⊢) <;> omega) hbc.ones rfl (Nat.ble_eq_true_of_le (Nat.le_of_eq (by have := CO.len hc1; (try simp only [List.length_set, List.length_replicate] at this ⊢) <;> omega))) (arr_over (by have := CO.len hc1; (try simp only [List.length_set, List.length_replicate] at this ⊢) <;> omega)) ?_)
          refine XL.cons (XOp.assign (.bool (false)) rfl ?_)
          refine XL.nil ?_
          refine X.ret (thenQ_ret (thenQ_ret (blockQ_ret (thenQ_ret (thenQ_ret (blockQ_ret (thenQ_ret (retEnd (L' := L) [.agg (bs).toArray, .bool (false)] (.tuple #[.agg (bs).toArray, .bool (false)]) (.cell rfl (loadNV bs Try.isAgg187 Try.sizeOf187 (by have := CO.len hbc; (try simp only [List.length_set, List.length_replicate] at this ⊢) <;> omega) (Rd.ownN [] rfl take_all)) (.tmp rfl .nil)) rfl (FLe.refl _) (FLe.refl _) (Sub.drop (Sub.drop (Sub.drop (Sub.refl _)))) ?_))))))))
          have hz : mGo ar t p 0 b = none := hm.trans (mGo_ne (by omega) (by omega) (by omega) (by assumption))
          refine ⟨rfl, _, _, by rw [hz]; rfl, hbc, by (try simp only [List.length_set]) <;> omega, fun r hr => ?_, rfl⟩
          rw [hz] at hr; cases hr
        · refine X.skip ?_
          refine X.seq ?_
          refine X.region ?_
          refine XL.cons (XOp.move (.int .i64 (((i : Nat) : Int))) rfl ?_)
          refine XL.cons (XOp.addR (a := ((i : Nat) : Int)) (b := 1) (((i + 1 : Nat) : Int)) rfl rfl (by omega) (by omega) ?_)
          refine XL.cons (XOp.assign (.int .i64 (((i + 1 : Nat) : Int))) rfl ?_)
          refine XL.nil ?_
          refine X.exit (thenQ_exit (blockQ_exit ?_))
          refine X.region ?_
          refine XL.cons (XOp.addR (a := ((k : Nat) : Int)) (b := 1) (((k + 1 : Nat) : Int)) rfl rfl (by omega) (by omega) ?_)
          refine XL.cons (XOp.move (.int .i64 (((k + 1 : Nat) : Int))) rfl ?_)
          refine XL.nil ?_
          exact ⟨(k + 1, i + 1, bs, bl), _, FLe.refl _, (FLe.refl _), ⟨rfl, rfl, rfl, rfl, rfl, rfl, rfl, rfl, trivial⟩, (Sub.cons (Sub.cons (Sub.cons (Sub.refl _)))), ⟨rfl, (hbc), (by (try simp only [List.length_set]) <;> omega), (by (try dsimp only) <;> omega), (by (try dsimp only) <;> omega), (hm.trans (mGo_sym (by omega) (by omega) (by omega) (by omega)))⟩, (by omega)⟩
      · refine X.skip ?_
        refine X.seq ?_
        refine X.region ?_
        refine XL.cons (XOp.loadN [arv] Try.isAgg33 Try.sizeOf33 rfl rfl (Rd.ownN [_, _] rfl rfl) ?_)
        refine XL.cons (XOp.move (tv) rfl ?_)
        refine XL.cons (XOp.move (.int .i64 (((i : Nat) : Int))) rfl ?_)
        refine XL.cons (XOp.call (args := [.agg #[arv], tv, .int .i64 ((i : Nat) : Int)]) Try.call153 rfl (subAt_spec (p := i) har ht (ho := (by first | assumption | rfl | omega | (left; simp; done) | (right; simp; done))) (hp := (by first | assumption | rfl | omega | (left; simp; done) | (right; simp; done))) (hnn := (by first | assumption | rfl | omega | (left; simp; done) | (right; simp; done)))) ?_)
        rintro v1 _ _ _ ⟨rfl, rfl, hv1, hn1⟩
        refine XL.cons (XOp.assign (v1) rfl ?_)
        refine XL.nil ?_
        refine X.seq ?_
        refine X.seq ?_
        refine X.region ?_
        refine XL.cons (XOp.move (.int .i64 (p.getD k 0)) rfl ?_)
        refine XL.cons (XOp.subR (a := -1) (b := p.getD k 0) ((-1) - (p.getD k 0)) rfl rfl (by omega) (by omega) ?_)
        refine XL.cons (XOp.indexA (i := (-1) - (p.getD k 0)) (((-1) - (p.getD k 0)).toNat) (((-1) - (p.getD k 0)).toNat) Try.runUnderlying187 Try.sizeOf22 rfl rfl (by omega) (by omega) (by omega) ?_)
        obtain ⟨a1, ha1, hn2, he1⟩ := hbc.get (i := ((-1) - (p.getD k 0)).toNat) (by omega)
        refine XL.cons (XOp.load1 (v := a1) Try.isAgg22 rfl (Rd.own [_] rfl he1) ?_)
        refine XL.cons (XOp.eqNil (v := a1) Try.runUnderlying22 rfl rfl (IntsF.isSl ha1) ?_)
        refine XL.nil ?_
        refine X.cond (t := isNil a1) rfl (fun h5 => ?_) (fun h5 => ?_)
        · refine X.region ?_
          refine XL.cons (XOp.move (.int .i64 (p.getD k 0)) rfl ?_)
          refine XL.cons (XOp.subR (a := -1) (b := p.getD k 0) ((-1) - (p.getD k 0)) rfl rfl (by omega) (by omega) ?_)
          refine XL.cons (XOp.move (v1) rfl ?_)
          refine XL.cons (XOp.indexA (i := (-1) - (p.getD k 0)) (((-1) - (p.getD k 0)).toNat) (((-1) - (p.getD k 0)).toNat) Try.runUnderlying187 Try.sizeOf22 rfl rfl (by omega) (by omega) (by omega) ?_)
          refine XL.cons (XOp.store1 (v := v1) [_] _ (bs.set (((-1) - (p.getD k 0)).toNat) v1) Try.sizeOf22 rfl rfl (one_sl (IntsF.isSl hv1)) rfl (blt_of (by have := CO.len hbc; (try simp only [List.length_set, List.length_replicate] at this ⊢) <;> omega)) rfl ?_)
          have hc2 := hbc.set (((-1) - (p.getD k 0)).toNat) hv1 (by simp [*, sub_ne ho (show i < t.length by omega)])
          refine XL.nil ?_
          refine X.region ?_
          refine XL.cons (XOp.move (.int .i64 (((i : Nat) : Int))) rfl ?_)
          refine XL.cons (XOp.move (v1) rfl ?_)
          refine XL.cons (XOp.lenS (v := v1) (n := ((sub ar t i)).length) Try.runUnderlying22 rfl hv1.slv ?_)
          refine XL.cons (XOp.addR (a := ((i : Nat) : Int)) (b := ((((sub ar t i)).length : Nat) : Int)) (((i + (((sub ar t i)).length) : Nat) : Int)) rfl rfl (by omega) (by omega) ?_)
          refine XL.cons (XOp.assign (.int .i64 (((i + (((sub ar t i)).length) : Nat) : Int))) rfl ?_)
          refine XL.nil ?_
          refine X.region ?_
          refine XL.cons (XOp.addR (a := ((k : Nat) : Int)) (b := 1) (((k + 1 : Nat) : Int)) rfl rfl (by omega) (by omega) ?_)
          refine XL.cons (XOp.move (.int .i64 (((k + 1 : Nat) : Int))) rfl ?_)
          refine XL.nil ?_
          exact ⟨(k + 1, i + (((sub ar t i)).length), (bs.set (((-1) - (p.getD k 0)).toNat) v1), (bl.set (((-1) - (p.getD k 0)).toNat) ((sub ar t i)))), _, FLe.refl _, (FLe.refl _), ⟨rfl, rfl, rfl, rfl, rfl, rfl, rfl, rfl, trivial⟩, (Sub.cons (Sub.cons (Sub.cons (Sub.refl _)))), ⟨rfl, (hc2), (by (try simp only [List.length_set]) <;> omega), (by (try dsimp only) <;> omega), (by (try dsimp only) <;> omega), (hm.trans (mGo_new (by omega) (by omega) (by omega) (of_decide_eq_true (hn2.symm.trans (by assumption)))))⟩, (by omega)⟩
        · refine X.seq ?_
          refine X.region ?_
          refine XL.cons (XOp.move (.int .i64 (p.getD k 0)) rfl ?_)
          refine XL.cons (XOp.subR (a := -1) (b := p.getD k 0) ((-1) - (p.getD k 0)) rfl rfl (by omega) (by omega) ?_)
          refine XL.cons (XOp.indexA (i := (-1) - (p.getD k 0)) (((-1) - (p.getD k 0)).toNat) (((-1) - (p.getD k 0)).toNat) Try.runUnderlying187 Try.sizeOf22 rfl rfl (by omega) (by omega) (by omega) ?_)
          refine XL.cons (XOp.load1 (v := a1) Try.isAgg22 rfl (Rd.own [_] rfl he1) ?_)
          refine XL.cons (XOp.move (v1) rfl ?_)
          refine XL.cons (XOp.call (args := [a1, v1]) Try.call122 rfl (Equal_spec ha1 hv1 (hbd := (by first | assumption | rfl | omega | (left; simp; done) | (right; simp; done)))) ?_)
          rintro _ _ _ _ ⟨rfl, rfl, rfl⟩
          refine XL.cons (XOp.notD (p := ((bl.getD (((-1) - (p.getD k 0)).toNat) [])) = ((sub ar t i))) rfl ?_)
          refine XL.nil ?_
          refine X.condD (p := ¬(((bl.getD (((-1) - (p.getD k 0)).toNat) [])) = ((sub ar t i)))) rfl (fun h6 => ?_) (fun h6 => ?_)
          · refine X.seq ?_
            refine X.region ?_
            refine XL.cons (XOp.loadN bs Try.isAgg187 Try.sizeOf187 (by have := CO.len hbc; (try simp only [List.length_set, List.length_replicate] at this ⊢) <;> omega) rfl (Rd.ownN [_] rfl take_all) ?_)
            refine XL.cons (XOp.storeN (vs := bs) [] _ bs Try.sizeOf187 rfl rfl (by have := CO.len hbc; (try simp only [List.length_set, List.length_replicate] at this ⊢) <;> omega) hbc.ones rfl (Nat.ble_eq_true_of_le (Nat.le_of_eq (by have := CO.len hc1; (try simp only [List.length_set, List.length_replicate] at this ⊢) <;> omega))) (arr_over (by have := CO.len hc1; (try simp only [List.length_set, List.length_replicate] at this ⊢) <;> omega)) ?_)
            refine XL.cons (XOp.assign (.bool (false)) rfl ?_)
            refine XL.nil ?_
            refine X.ret (thenQ_ret (blockQ_ret (thenQ_ret (thenQ_ret (blockQ_ret (thenQ_ret (retEnd (L' := L) [.agg (bs).toArray, .bool (false)] (.tuple #[.agg (bs).toArray, .bool (false)]) (.cell rfl (loadNV bs Try.isAgg187 Try.sizeOf187 (by have := CO.len hbc; (try simp only [List.length_set, List.length_replicate] at this ⊢) <;> omega) (Rd.ownN [] rfl take_all)) (.tmp rfl .nil)) rfl (FLe.refl _) (FLe.refl _) (Sub.drop (Sub.drop (Sub.drop (Sub.refl _)))) ?_)))))))
            have hz : mGo ar t p 0 b = none := hm.trans (mGo_clash (by omega) (by omega) (by omega) (of_decide_eq_false (hn2.symm.trans (by assumption))) (by assumption))
            refine ⟨rfl, _, _, by rw [hz]; rfl, hbc, by (try simp only [List.length_set]) <;> omega, fun r hr => ?_, rfl⟩
            rw [hz] at hr; cases hr
          · refine X.skip ?_
            refine X.region ?_
            refine XL.cons (XOp.move (.int .i64 (((i : Nat) : Int))) rfl ?_)
            refine XL.cons (XOp.move (v1) rfl ?_)
            refine XL.cons (XOp.lenS (v := v1) (n := ((sub ar t i)).length) Try.runUnderlying22 rfl hv1.slv ?_)
            refine XL.cons (XOp.addR (a := ((i : Nat) : Int)) (b := ((((sub ar t i)).length : Nat) : Int)) (((i + (((sub ar t i)).length) : Nat) : Int)) rfl rfl (by omega) (by omega) ?_)
            refine XL.cons (XOp.assign (.int .i64 (((i + (((sub ar t i)).length) : Nat) : Int))) rfl ?_)
            refine XL.nil ?_
            refine X.region ?_
            refine XL.cons (XOp.addR (a := ((k : Nat) : Int)) (b := 1) (((k + 1 : Nat) : Int)) rfl rfl (by omega) (by omega) ?_)
            refine XL.cons (XOp.move (.int .i64 (((k + 1 : Nat) : Int))) rfl ?_)
            refine XL.nil ?_
            exact ⟨(k + 1, i + (((sub ar t i)).length), bs, bl), _, FLe.refl _, (FLe.refl _), ⟨rfl, rfl, rfl, rfl, rfl, rfl, rfl, rfl, trivial⟩, (Sub.cons (Sub.cons (Sub.cons (Sub.refl _)))), ⟨rfl, (hbc), (by (try simp only [List.length_set]) <;> omega), (by (try dsimp only) <;> omega), (by (try dsimp only) <;> omega), (hm.trans (mGo_same (by omega) (by omega) (by omega) (of_decide_eq_false (hn2.symm.trans (by assumption))) (by first | assumption | exact Classical.not_not.1 (by assumption))))⟩, (by omega)⟩
  · refine X.exit (thenQ_exit (thenQ_exit (blockQ_exit ?_)))
    refine X.seq ?_
    refine X.region ?_
    refine XL.cons (XOp.loadN bs Try.isAgg187 Try.sizeOf187 (by have := CO.len hbc; (try simp only [List.length_set, List.length_replicate] at this ⊢) <;> omega) rfl (Rd.ownN [_] rfl take_all) ?_)
    refine XL.cons (XOp.storeN (vs := bs) [] _ bs Try.sizeOf187 rfl rfl (by have := CO.len hbc; (try simp only [List.length_set, List.length_replicate] at this ⊢) <;> omega) hbc.ones rfl (Nat.ble_eq_true_of_le (Nat.le_of_eq (by have := CO.len hc1; (try simp only [List.length_set, List.length_replicate] at this ⊢) <;> omega))) (arr_over (by have := CO.len hc1; (try simp only [List.length_set, List.length_replicate] at this ⊢) <;> omega)) ?_)
    refine XL.cons (XOp.assign (.bool (true)) rfl ?_)
    refine XL.nil ?_
    refine X.ret (retEnd (L' := L) [.agg (bs).toArray, .bool (true)] (.tuple #[.agg (bs).toArray, .bool (true)]) (.cell rfl (loadNV bs Try.isAgg187 Try.sizeOf187 (by have := CO.len hbc; (try simp only [List.length_set, List.length_replicate] at this ⊢) <;> omega) (Rd.ownN [] rfl take_all)) (.tmp rfl .nil)) rfl (FLe.refl _) (FLe.refl _) (Sub.drop (Sub.drop (Sub.drop (Sub.refl _)))) ?_)
    have hz : mGo ar t p 0 b = some bl := hm.trans (mGo_done (by omega))
    refine ⟨rfl, _, _, by rw [hz]; rfl, hbc, by (try simp only [List.length_set]) <;> omega, fun r hr => ?_, rfl⟩
    rw [hz] at hr; exact Option.some.inj hr

/- impl.variable -/
theorem variable_spec {F : FH} {L : List HP} {i : Nat} (hi : i ≤ 1000) :
    Does Try.prog 216 [.int .i64 (((i : Nat) : Int))] F (L) (fun v F' L' => F = F' ∧ IsSl v ∧ intsH 2 v ([-1 - (i : Int)]) :: L = L') := by
  refine Does.of_X Try.func216 rfl rfl rfl ?_
  refine X.seq ?_
  refine X.region ?_
  refine XL.cons (XOp.assign ((.slice none 0 0)) rfl ?_)
  refine XL.nil ?_
  refine X.seq ?_
  refine X.region ?_
  refine XL.cons (XOp.move (.int .i64 (((i : Nat) : Int))) rfl ?_)
  refine XL.cons (XOp.subR (a := -1) (b := ((i : Nat) : Int)) ((-1) - (((i : Nat) : Int))) rfl rfl (by omega) (by omega) ?_)
  refine XL.cons (XOp.buildSlice (s := 1) [.int .i64 ((-1) - (((i : Nat) : Int)))] [.int .i64 (0)] [(0, [.int .i64 ((-1) - (((i : Nat) : Int)))])] Try.runUnderlying22 Try.sizeOf2 Try.zeroValue2 rfl (by decide) rfl (.cons rfl CellsAre.nil) rfl ?_)
  intro v1 hv1
  refine XL.cons (XOp.assign (v1) rfl ?_)
  refine XL.nil ?_
  refine X.ret (retEnd (L' := intsH 2 v1 ([(-1) - (((i : Nat) : Int))]) :: L) [v1] (v1) (.tmp rfl .nil) rfl (FLe.refl _) (FLe.refl _) (Sub.cons (Sub.refl _)) ?_)
  refine ⟨rfl, (isSl_lit hv1), ?_⟩
  have hxs : ([-1 - (i : Int)] : List Int) = [(-1) - (((i : Nat) : Int))] := rfl
  exact congrArg (fun z => intsH 2 _ z :: L) hxs

/- (impl.bindings).subst -/
theorem subst_spec {F : FH} {L : List HP} {bs : List Value} {b : RowL} (hb : BindC F bs b) (hbl : b.length = 24) :
    Does Try.prog 155 [.agg (bs).toArray] F (L) (fun v F' L' => ∃ (a : Value), (.agg #[a] : Value) = v ∧ (RowsF F' a b) ∧ L = L') := by
  refine Does.of_X Try.func155 rfl rfl rfl ?_
  refine X.seq ?_
  refine X.region ?_
  refine XL.cons (XOp.box bs rfl rfl ?_)
  intro b1
  refine XL.cons (XOp.alloc [(.slice none 0 0)] Try.zeroValue184 rfl ?_)
  intro b2
  refine XL.nil ?_
  refine X.seq ?_
  refine X.region ?_
  refine XL.cons (XOp.sliceArr (cs := bs) [_] _ Try.runUnderlying187 Try.sizeOf22 rfl (by have := CO.len hb; (try simp only [List.length_set, List.length_replicate] at this ⊢) <;> omega) rfl ?_)
  intro v1 hv1
  have hc1 := BindC.rows hb
  refine XL.cons (XOp.build [v1] [(.slice none 0 0)] [(0, 1)] [(0, [v1])] Try.runUnderlying184 Try.zeroValue184 rfl (.cons rfl Try.sizeOf47 PlacesAre.nil) rfl (.cons (cells_one ⟨_, _, _, hv1⟩) CellsAre.nil) ?_)
  refine XL.cons (XOp.storeN (vs := [v1]) [] _ [v1] Try.sizeOf184 rfl rfl rfl (ones_cons (one_sl ⟨_, _, _, hv1⟩) ones_nil) rfl rfl rfl ?_)
  refine XL.nil ?_
  refine X.freezeF [_] _ _ rfl (fun F1 le1 hz1 => ?_)
  replace hb := hb.mono le1
  replace hc1 := hc1.mono le1
  have hf1 : RowsF F1 v1 b := CO.fz hc1 (by first | rfl | simp | omega) hz1.fz
  refine X.ret (retEnd (L' := L) [.agg #[v1]] (.agg #[v1]) (.cell rfl (loadNV [v1] Try.isAgg184 Try.sizeOf184 rfl (Rd.ownN [] rfl rfl)) .nil) rfl le1 (FLe.refl _) (Sub.drop (Sub.refl _)) ?_)
  exact ⟨_, rfl, hf1, rfl⟩
end Go.Proofs.Ytnloeeaidknblaa
