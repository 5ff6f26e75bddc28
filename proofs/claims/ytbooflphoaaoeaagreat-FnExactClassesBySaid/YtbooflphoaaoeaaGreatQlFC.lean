/-
  Walks: the words that solve an equation; the statement SolutionsBy.
-/
import Derived.Test.YtbooflphoaaoeaaGreatQlFy
import Derived.Test.YtbooflphoaaoeaaGreatP16
import Derived.Test.YtbooflphoaaoeaaGreatX15
set_option linter.unusedSimpArgs false
set_option linter.unusedVariables false
namespace Go.Proofs.YtbooflphoaaoeaaGreat
open Go X M

/- spec.l22All -/
theorem l22All_spec {F : FH} {L : List HP} {arv : Value} {ar : List Int} (har : IntsF F arv ar) {rsv : Value} {rs : List (List Int × List Int)} (hrs : PairsF F rsv rs) {tsv : Value} {ts : List (List Int)} (hts : RowsF F tsv ts) {n : Int} (hla : ar.length ≤ 4000000) (hlr : rs.length ≤ 4000000) (hrb : ∀ i, i < rs.length → (rs.getD i ([], [])).1.length ≤ 4000000 ∧ (rs.getD i ([], [])).2.length ≤ 4000000) (hlt : ts.length ≤ 4000000) (htb : ∀ i, i < ts.length → (ts.getD i []).length ≤ 4000000) :
    Does Tryz.prog 78 [.agg #[arv, rsv], tsv, .int .i64 (n)] F (L) (fun v F' L' => (.bool (allOk ar rs ts n) : Value) = v ∧ F = F' ∧ L = L') := by
  refine Does.of_X Tryz.func78 rfl rfl rfl ?_
  refine X.seq ?_
  refine X.region ?_
  refine XL.cons (XOp.box [arv, rsv] rfl rfl ?_)
  intro b1
  refine XL.cons (XOp.assign (.bool (false)) rfl ?_)
  refine XL.nil ?_
  refine X.seq ?_
  refine X.seq ?_
  refine X.region ?_
  refine XL.cons (XOp.move (tsv) rfl ?_)
  refine XL.cons (XOp.lenS (v := tsv) (n := (ts).length) Tryz.runUnderlying54 rfl hts.slv ?_)
  refine XL.cons (XOp.gtr (a := (((ts).length : Nat) : Int)) (b := 16) rfl rfl ?_)
  refine XL.cons (XOp.move (.bool (decide (((((ts).length : Nat) : Int) : Int) > 16))) rfl ?_)
  by_cases h1 : ((((ts).length : Nat) : Int) : Int) > 16
  · refine XL.no (t := 11) rfl (congrArg Value.bool (decide_eq_true h1)) ?_
    refine XL.no (t := 11) rfl (congrArg Value.bool (decide_eq_true h1)) ?_
    refine XL.no (t := 11) rfl (congrArg Value.bool (decide_eq_true h1)) ?_
    refine XL.cons (XOp.pickT (.bool (true)) (congrArg Value.bool (decide_eq_true h1)) rfl ?_)
    refine XL.cons (XOp.move (.bool (true)) rfl ?_)
    refine XL.no (t := 16) rfl rfl ?_
    refine XL.no (t := 16) rfl rfl ?_
    refine XL.no (t := 16) rfl rfl ?_
    refine XL.cons (XOp.pickT (.bool (true)) rfl rfl ?_)
    refine XL.nil ?_
    refine X.condT rfl ?_
    refine X.seq ?_
    refine X.region ?_
    refine XL.cons (XOp.assign (.bool (false)) rfl ?_)
    refine XL.nil ?_
    refine X.ret (thenQ_ret (retEnd (L' := L) [.bool (false)] (.bool (false)) (.tmp rfl .nil) rfl (FLe.refl _) (FLe.refl _) (Sub.drop (Sub.refl _)) ?_))
    exact ⟨(congrArg Value.bool (by unfold allOk; simp_all <;> omega)), rfl, rfl⟩
  · refine XL.yes (t := 11) rfl (congrArg Value.bool (decide_eq_false h1)) (XOp.loadN [arv, rsv] Tryz.isAgg37 Tryz.sizeOf37 rfl rfl (Rd.ownN [] rfl rfl) ?_)
    refine XL.yes (t := 11) rfl (congrArg Value.bool (decide_eq_false h1)) (XOp.call (args := [.agg #[arv, rsv]]) Tryz.call68 rfl (sSystemOk_spec har hrs (hla := (by first | assumption | rfl | omega | (left; simp; done) | (right; simp; done))) (hlr := (by first | assumption | rfl | omega | (left; simp; done) | (right; simp; done))) (hrb := (by first | assumption | rfl | omega | (left; simp; done) | (right; simp; done)))) ?_)
    rintro _ _ _ _ ⟨rfl, rfl, rfl⟩
    refine XL.yes (t := 11) rfl (congrArg Value.bool (decide_eq_false h1)) (XOp.notB (b := sysOk ar rs) rfl ?_)
    refine XL.cons (XOp.pickF (.bool (!(sysOk ar rs))) (congrArg Value.bool (decide_eq_false h1)) rfl ?_)
    refine XL.cons (XOp.move (.bool (!(sysOk ar rs))) rfl ?_)
    by_cases h2 : (!(sysOk ar rs)) = true
    · refine XL.no (t := 16) rfl (congrArg Value.bool h2) ?_
      refine XL.no (t := 16) rfl (congrArg Value.bool h2) ?_
      refine XL.no (t := 16) rfl (congrArg Value.bool h2) ?_
      refine XL.cons (XOp.pickT (.bool (true)) (congrArg Value.bool h2) rfl ?_)
      refine XL.nil ?_
      refine X.condT rfl ?_
      refine X.seq ?_
      refine X.region ?_
      refine XL.cons (XOp.assign (.bool (false)) rfl ?_)
      refine XL.nil ?_
      refine X.ret (thenQ_ret (retEnd (L' := L) [.bool (false)] (.bool (false)) (.tmp rfl .nil) rfl (FLe.refl _) (FLe.refl _) (Sub.drop (Sub.refl _)) ?_))
      exact ⟨(congrArg Value.bool (by unfold allOk; simp_all <;> omega)), rfl, rfl⟩
    · rw [Bool.not_eq_true] at h2
      refine XL.yes (t := 16) rfl (congrArg Value.bool h2) (XOp.move (.int .i64 (n)) rfl ?_)
      refine XL.yes (t := 16) rfl (congrArg Value.bool h2) (XOp.call (args := [.int .i64 (n), .int .i64 (0), .int .i64 (60)]) Tryz.call86 rfl (l1In_spec (n := n) (a := 0) (b := 60)) ?_)
      rintro _ _ _ _ ⟨rfl, rfl, rfl⟩
      refine XL.yes (t := 16) rfl (congrArg Value.bool h2) (XOp.notD (p := 0 ≤ n ∧ n ≤ 60) rfl ?_)
      refine XL.cons (XOp.pickF (.bool (decide (¬(0 ≤ n ∧ n ≤ 60)))) (congrArg Value.bool h2) rfl ?_)
      refine XL.nil ?_
      refine X.condD (p := ¬(0 ≤ n ∧ n ≤ 60)) rfl (fun h3 => ?_) (fun h3 => ?_)
      · refine X.seq ?_
        refine X.region ?_
        refine XL.cons (XOp.assign (.bool (false)) rfl ?_)
        refine XL.nil ?_
        refine X.ret (thenQ_ret (retEnd (L' := L) [.bool (false)] (.bool (false)) (.tmp rfl .nil) rfl (FLe.refl _) (FLe.refl _) (Sub.drop (Sub.refl _)) ?_))
        exact ⟨(congrArg Value.bool (by unfold allOk; simp_all <;> omega)), rfl, rfl⟩
      · refine X.skip ?_
        refine X.seq ?_
        refine X.seq ?_
        refine X.region ?_
        refine XL.cons (XOp.assign (.int .i64 (0)) rfl ?_)
        refine XL.nil ?_
        refine X.block ?_
        refine X.loop (α := Nat) (fun k => [(1, tsv), (3, ptr b1 0), (7, .int .i64 (((k : Nat) : Int)))]) (fun k => cellsH b1 [arv, rsv] 37 :: L) (fun k F' => F = F' ∧ (k ≤ ts.length) ∧ (∀ i, i < k → termOk ar (ts.getD i []) = true)) (fun k => ts.length - k) 0 ⟨rfl, rfl, rfl, trivial⟩ (Sub.cons (Sub.refl _)) ⟨rfl, (by (try dsimp only) <;> omega), (fun i hi => absurd hi (by omega))⟩ ?_
        rintro k rE _ _ ⟨rfl, hk, hall⟩
        show X _ _ _ _ (envs [(1, tsv), (3, ptr b1 0), (7, .int .i64 (((k : Nat) : Int)))] rE) _ (cellsH b1 [arv, rsv] 37 :: L)
        have htbk := htb k
        refine X.seq ?_
        refine X.seq ?_
        refine X.region ?_
        refine XL.cons (XOp.move (.int .i64 (((k : Nat) : Int))) rfl ?_)
        refine XL.cons (XOp.move (tsv) rfl ?_)
        refine XL.cons (XOp.lenS (v := tsv) (n := (ts).length) Tryz.runUnderlying54 rfl hts.slv ?_)
        refine XL.cons (XOp.lss (a := ((k : Nat) : Int)) (b := (((ts).length : Nat) : Int)) rfl rfl ?_)
        refine XL.nil ?_
        refine X.condD (p := (((k : Nat) : Int) : Int) < (((ts).length : Nat) : Int)) rfl (fun h4 => ?_) (fun h4 => ?_)
        · refine X.skip ?_
          refine X.seq ?_
          refine X.block ?_
          refine X.seq ?_
          obtain ⟨a1, ha1, hr1⟩ := hts.rd (i := k) (by omega)
          refine X.draw [cellsH b1 [arv, rsv] 37] L 6 [[], [], [], [], [], []] [[], [0], [], [], [2, 3], [4]] (phiL [fun us v => v = ptr b1 0, fun us v => v = (.agg #[arv] : Value), fun us v => v = tsv, fun us v => v = (.int .i64 (((k : Nat) : Int)) : Value), fun us v => v = (.pointer (some (elemA tsv (k))) : Value), fun us v => v = a1]) (ownL [fun us v => [], fun us v => [], fun us v => [], fun us v => [], fun us v => [], fun us v => []]) mixed rfl rfl (by kernel_rfl) ?_ ?_
          · refine stepsP.cons (fun vals R hpZ => ?_) ?_
            · refine XG.op (XOp.fieldP (b := b1) (0) Tryz.runUnderlying37 rfl Tryz.sizeOf34 (by decide) rfl rfl ?_)
              exact ⟨rfl, rfl, rfl⟩
            refine stepsP.cons (fun vals R hpZ => ?_) ?_
            · rw [(envs_of_sat (l := [(0, ptr b1 0)]) ⟨hpZ 0 (by decide), trivial⟩).symm]
              refine XG.op (XOp.loadN [arv] Tryz.isAgg34 Tryz.sizeOf34 rfl rfl (Rd.ownN [] rfl rfl) ?_)
              exact ⟨rfl, rfl, rfl⟩
            refine stepsP.cons (fun vals R hpZ => ?_) ?_
            · refine XG.op (XOp.move (tsv) rfl ?_)
              exact ⟨rfl, rfl, rfl⟩
            refine stepsP.cons (fun vals R hpZ => ?_) ?_
            · refine XG.op (XOp.move (.int .i64 (((k : Nat) : Int))) rfl ?_)
              exact ⟨rfl, rfl, rfl⟩
            refine stepsP.cons (fun vals R hpZ => ?_) ?_
            · rw [(envs_of_sat (l := [(2, tsv), (3, (.int .i64 (((k : Nat) : Int)) : Value))]) ⟨hpZ 2 (by decide), hpZ 3 (by decide), trivial⟩).symm]
              refine XG.op (XOp.indexS (v := tsv) (i := ((k : Nat) : Int)) (n := (ts).length) k Tryz.runUnderlying54 Tryz.sizeOf22 rfl rfl rfl hts.slv (by omega) (Nat.mul_one _) ?_)
              exact ⟨rfl, rfl, rfl⟩
            refine stepsP.cons (fun vals R hpZ => ?_) ?_
            · rw [(envs_of_sat (l := [(4, (.pointer (some (elemA tsv (k))) : Value))]) ⟨hpZ 4 (by decide), trivial⟩).symm]
              refine XG.op (XOp.load1 (v := a1) Tryz.isAgg22 rfl (hr1 _) ?_)
              exact ⟨rfl, rfl, rfl⟩
            exact stepsP.nil
          · intro vals hphi
            have e0 : vals 0 = ptr b1 0 := hphi 0 (by decide)
            have e1 : vals 1 = (.agg #[arv] : Value) := hphi 1 (by decide)
            have e2 : vals 2 = tsv := hphi 2 (by decide)
            have e3 : vals 3 = (.int .i64 (((k : Nat) : Int)) : Value) := hphi 3 (by decide)
            have e4 : vals 4 = (.pointer (some (elemA tsv (k))) : Value) := hphi 4 (by decide)
            have e5 : vals 5 = a1 := hphi 5 (by decide)
            rw [(envs_of_sat (l := [(0, ptr b1 0), (1, (.agg #[arv] : Value)), (2, tsv), (3, (.int .i64 (((k : Nat) : Int)) : Value)), (4, (.pointer (some (elemA tsv (k))) : Value)), (5, a1)]) ⟨e0, e1, e2, e3, e4, e5, trivial⟩).symm]
            show XL _ _ _ _ _ _ _ (cellsH b1 [arv, rsv] 37 :: L)
            refine XL.cons (XOp.call (args := [.agg #[arv], a1]) Tryz.call87 rfl (sTermOk_spec har ha1 (hla := (by first | assumption | rfl | omega | (left; simp; done) | (right; simp; done))) (hlt := (by first | assumption | rfl | omega | (left; simp; done) | (right; simp; done)))) ?_)
            rintro _ _ _ _ ⟨rfl, rfl, rfl⟩
            refine XL.cons (XOp.notB (b := termOk ar ((ts.getD k []))) rfl ?_)
            refine XL.nil ?_
            refine X.cond (t := !(termOk ar ((ts.getD k [])))) rfl (fun h5 => ?_) (fun h5 => ?_)
            · refine X.seq ?_
              refine X.region ?_
              refine XL.cons (XOp.assign (.bool (false)) rfl ?_)
              refine XL.nil ?_
              refine X.ret (blockQ_ret (thenQ_ret (thenQ_ret (blockQ_ret (thenQ_ret (retEnd (L' := L) [.bool (false)] (.bool (false)) (.tmp rfl .nil) rfl (FLe.refl _) (FLe.refl _) (Sub.drop (Sub.refl _)) ?_))))))
              exact ⟨(congrArg Value.bool (by rw [allOk, all_fail [] (k := k) (by omega) (by simp_all)]; simp)), rfl, rfl⟩
            · refine X.skip ?_
              refine X.region ?_
              refine XL.cons (XOp.move (.int .i64 (((k : Nat) : Int))) rfl ?_)
              refine XL.cons (XOp.addR (a := ((k : Nat) : Int)) (b := 1) (((k + 1 : Nat) : Int)) rfl rfl (by omega) (by omega) ?_)
              refine XL.cons (XOp.assign (.int .i64 (((k + 1 : Nat) : Int))) rfl ?_)
              refine XL.nil ?_
              exact ⟨k + 1, _, FLe.refl _, (FLe.refl _), ⟨rfl, rfl, rfl, trivial⟩, (Sub.cons (Sub.refl _)), ⟨rfl, (by (try dsimp only) <;> omega), (fun i hi => (Nat.lt_or_ge i k).elim (fun h => hall i h) (fun h => by obtain rfl : i = k := (by omega); simp_all))⟩, (by omega)⟩
        · refine X.exit (thenQ_exit (thenQ_exit (blockQ_exit ?_)))
          refine X.seq ?_
          refine X.region ?_
          refine XL.cons (XOp.assign (.bool (true)) rfl ?_)
          refine XL.nil ?_
          refine X.ret (retEnd (L' := L) [.bool (true)] (.bool (true)) (.tmp rfl .nil) rfl (FLe.refl _) (FLe.refl _) (Sub.drop (Sub.refl _)) ?_)
          exact ⟨(congrArg Value.bool (by rw [allOk, (all_getD_iff []).2 (fun i hi => hall i (by omega))]; simp_all <;> omega)), rfl, rfl⟩
end Go.Proofs.YtbooflphoaaoeaaGreat
