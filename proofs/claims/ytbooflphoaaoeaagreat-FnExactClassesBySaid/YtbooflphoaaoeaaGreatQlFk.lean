/-
  Walks: picking, as the program and as the reference does it.
-/
import Derived.Test.YtbooflphoaaoeaaGreatQlFj
set_option linter.unusedSimpArgs false
set_option linter.unusedVariables false
namespace Go.Proofs.YtbooflphoaaoeaaGreat
open Go X M

/- spec.PickBy -/
theorem sPickBy_spec {F : FH} {L : List HP} {arv : Value} {ar : List Int} (har : IntsF F arv ar) {rsv : Value} {rs : List (List Int × List Int)} (hrs : PairsF F rsv rs) {tv : Value} {t : List Int} (ht : IntsF F tv t) {st : Int} (hla : ar.length ≤ 4000000) (hlr : rs.length ≤ 4000000) (hrb : ∀ i, i < rs.length → (rs.getD i ([], [])).1.length ≤ 4000000 ∧ (rs.getD i ([], [])).2.length ≤ 4000000) (hlt : t.length ≤ 4000000) :
    Does Tryz.prog 107 [.agg #[arv, rsv], tv, .int .i64 (st)] F (L) (fun v F' L' => (.tuple #[.int .i64 (pickAt ar rs t st), .int .i64 (pickRule ar rs t st), .bool (pickB ar rs t st)] : Value) = v ∧ F = F' ∧ L = L') := by
  refine Does.of_X Tryz.func107 rfl rfl rfl ?_
  refine X.seq ?_
  refine X.region ?_
  refine XL.cons (XOp.box [arv, rsv] rfl rfl ?_)
  intro b1
  refine XL.cons (XOp.assign (.int .i64 (0)) rfl ?_)
  refine XL.cons (XOp.assign (.int .i64 (0)) rfl ?_)
  refine XL.cons (XOp.assign (.bool (false)) rfl ?_)
  refine XL.nil ?_
  refine X.seq ?_
  refine X.seq ?_
  refine X.region ?_
  refine XL.cons (XOp.loadN [arv, rsv] Tryz.isAgg37 Tryz.sizeOf37 rfl rfl (Rd.ownN [] rfl rfl) ?_)
  refine XL.cons (XOp.move (tv) rfl ?_)
  refine XL.cons (XOp.move (.int .i64 (st)) rfl ?_)
  refine XL.cons (XOp.call (args := [.agg #[arv, rsv], tv, .int .i64 (st)]) Tryz.call105 rfl (l8Right_spec (st := st) har hrs ht (hla := (by first | assumption | rfl | omega | (left; simp; done) | (right; simp; done))) (hlr := (by first | assumption | rfl | omega | (left; simp; done) | (right; simp; done))) (hrb := (by first | assumption | rfl | omega | (left; simp; done) | (right; simp; done))) (hlt := (by first | assumption | rfl | omega | (left; simp; done) | (right; simp; done)))) ?_)
  rintro _ _ _ _ ⟨rfl, rfl, rfl⟩
  refine XL.cons (XOp.notB (b := (rightB ar rs t && decide (1 ≤ st ∧ st ≤ 3))) rfl ?_)
  refine XL.nil ?_
  refine X.cond (t := !((rightB ar rs t && decide (1 ≤ st ∧ st ≤ 3)))) rfl (fun h1 => ?_) (fun h1 => ?_)
  · refine X.seq ?_
    refine X.region ?_
    refine XL.cons (XOp.assign (.int .i64 (0)) rfl ?_)
    refine XL.cons (XOp.assign (.int .i64 (0)) rfl ?_)
    refine XL.cons (XOp.assign (.bool (false)) rfl ?_)
    refine XL.nil ?_
    refine X.ret (thenQ_ret (retEnd (L' := L) [.int .i64 (0), .int .i64 (0), .bool (false)] (.tuple #[.int .i64 (0), .int .i64 (0), .bool (false)]) (.tmp rfl (.tmp rfl (.tmp rfl .nil))) rfl (FLe.refl _) (FLe.refl _) (Sub.drop (Sub.refl _)) ?_))
    refine ⟨?_, rfl, rfl⟩
    have hz : pickB ar rs t st = false := pickB_no (by intro h; simp_all)
    rw [pickAt, pickRule, hz]; rfl
  · have hri : rightB ar rs t = true ∧ (1 ≤ st ∧ st ≤ 3) := by simpa using h1
    have hsys := (right_iff.1 hri.1).1
    have ho := (right_iff.1 hri.1).2
    refine X.skip ?_
    refine X.seq ?_
    refine X.region ?_
    refine XL.cons (XOp.loadN [arv, rsv] Tryz.isAgg37 Tryz.sizeOf37 rfl rfl (Rd.ownN [] rfl rfl) ?_)
    refine XL.cons (XOp.move (tv) rfl ?_)
    refine XL.cons (XOp.move (.int .i64 (st)) rfl ?_)
    refine XL.cons (XOp.call (args := [.agg #[arv, rsv], tv, .int .i64 (st)]) Tryz.call146 rfl (l8Places_spec (st := st) har hrs ht (hla := (by first | assumption | rfl | omega | (left; simp; done) | (right; simp; done))) (hlr := (by first | assumption | rfl | omega | (left; simp; done) | (right; simp; done))) (hrb := (by first | assumption | rfl | omega | (left; simp; done) | (right; simp; done))) (hlt := (by first | assumption | rfl | omega | (left; simp; done) | (right; simp; done)))) ?_)
    rintro _ F1 _ le1 ⟨x1, rfl, hr1, rfl⟩
    replace har := har.mono le1
    replace hrs := hrs.mono le1
    replace ht := ht.mono le1
    refine XL.cons (XOp.assign (x1) rfl ?_)
    refine XL.nil ?_
    refine X.seq ?_
    refine X.seq ?_
    refine X.region ?_
    refine XL.cons (XOp.move (x1) rfl ?_)
    refine XL.cons (XOp.lenS (v := x1) (n := (placesL ar rs t st).length) Tryz.runUnderlying22 rfl hr1.slv ?_)
    refine XL.cons (XOp.eql (a := (((placesL ar rs t st).length : Nat) : Int)) (b := 0) rfl rfl ?_)
    refine XL.nil ?_
    refine X.condD (p := ((((placesL ar rs t st).length : Nat) : Int) : Int) = 0) rfl (fun h2 => ?_) (fun h2 => ?_)
    · refine X.seq ?_
      refine X.region ?_
      refine XL.cons (XOp.assign (.int .i64 (0)) rfl ?_)
      refine XL.cons (XOp.assign (.int .i64 (0)) rfl ?_)
      refine XL.cons (XOp.assign (.bool (false)) rfl ?_)
      refine XL.nil ?_
      refine X.ret (thenQ_ret (retEnd (L' := L) [.int .i64 (0), .int .i64 (0), .bool (false)] (.tuple #[.int .i64 (0), .int .i64 (0), .bool (false)]) (.tmp rfl (.tmp rfl (.tmp rfl .nil))) rfl (FLe.refl _) le1 (Sub.drop (Sub.refl _)) ?_))
      refine ⟨?_, rfl, rfl⟩
      have hz : pickB ar rs t st = false := pickB_no (by intro h; exact h.2.2 ((places_nil st hri.1).1 (List.eq_nil_of_length_eq_zero (by omega))))
      rw [pickAt, pickRule, hz]; rfl
    · have hne : redL ar rs t ≠ [] := fun e => by have := congrArg List.length ((places_nil st hri.1).2 e); simp only [List.length_nil] at this; omega
      have hpp := places_pick st hri.1 hne
      obtain ⟨q, hq1, hq2, hq3, _⟩ := (pick_spec (ar := ar) (rs := rs) (t := t) st).resolve_left (fun h => hne h.2)
      refine X.skip ?_
      refine X.seq ?_
      refine X.draw [cellsH b1 [arv, rsv] 37] L 9 [[], [], [], [], [], [], [], [], []] [[], [0], [1], [], [], [], [5], [6], [3, 4, 7]] (phiL [fun us v => v = x1, fun us v => v = (.pointer (some (elemA x1 (0))) : Value), fun us v => v = (.int .i64 ((placesL ar rs t st).getD 0 0) : Value), fun us v => v = (.agg #[arv, rsv] : Value), fun us v => v = tv, fun us v => v = x1, fun us v => v = (.pointer (some (elemA x1 (0))) : Value), fun us v => v = (.int .i64 ((placesL ar rs t st).getD 0 0) : Value), fun us v => v = (.int .i64 (ruleAtL ar rs t (((placesL ar rs t st).getD 0 0).toNat)) : Value)]) (ownL [fun us v => [], fun us v => [], fun us v => [], fun us v => [], fun us v => [], fun us v => [], fun us v => [], fun us v => [], fun us v => []]) mixed rfl rfl (by kernel_rfl) ?_ ?_
      · refine stepsP.cons (fun vals R hpZ => ?_) ?_
        · refine XG.op (XOp.move (x1) rfl ?_)
          exact ⟨rfl, rfl, rfl⟩
        refine stepsP.cons (fun vals R hpZ => ?_) ?_
        · rw [(envs_of_sat (l := [(0, x1)]) ⟨hpZ 0 (by decide), trivial⟩).symm]
          refine XG.op (XOp.indexS (v := x1) (i := 0) (n := (placesL ar rs t st).length) 0 Tryz.runUnderlying22 Tryz.sizeOf2 rfl rfl rfl hr1.slv (by omega) (Nat.mul_one _) ?_)
          exact ⟨rfl, rfl, rfl⟩
        refine stepsP.cons (fun vals R hpZ => ?_) ?_
        · rw [(envs_of_sat (l := [(1, (.pointer (some (elemA x1 (0))) : Value))]) ⟨hpZ 1 (by decide), trivial⟩).symm]
          refine XG.op (XOp.load1 (v := .int .i64 ((placesL ar rs t st).getD 0 0)) Tryz.isAgg2 rfl (hr1.rd (by omega)) ?_)
          exact ⟨rfl, rfl, rfl⟩
        refine stepsP.cons (fun vals R hpZ => ?_) ?_
        · refine XG.op (XOp.loadN [arv, rsv] Tryz.isAgg37 Tryz.sizeOf37 rfl rfl (Rd.ownN [] rfl rfl) ?_)
          exact ⟨rfl, rfl, rfl⟩
        refine stepsP.cons (fun vals R hpZ => ?_) ?_
        · refine XG.op (XOp.move (tv) rfl ?_)
          exact ⟨rfl, rfl, rfl⟩
        refine stepsP.cons (fun vals R hpZ => ?_) ?_
        · refine XG.op (XOp.move (x1) rfl ?_)
          exact ⟨rfl, rfl, rfl⟩
        refine stepsP.cons (fun vals R hpZ => ?_) ?_
        · rw [(envs_of_sat (l := [(5, x1)]) ⟨hpZ 5 (by decide), trivial⟩).symm]
          refine XG.op (XOp.indexS (v := x1) (i := 0) (n := (placesL ar rs t st).length) 0 Tryz.runUnderlying22 Tryz.sizeOf2 rfl rfl rfl hr1.slv (by omega) (Nat.mul_one _) ?_)
          exact ⟨rfl, rfl, rfl⟩
        refine stepsP.cons (fun vals R hpZ => ?_) ?_
        · rw [(envs_of_sat (l := [(6, (.pointer (some (elemA x1 (0))) : Value))]) ⟨hpZ 6 (by decide), trivial⟩).symm]
          refine XG.op (XOp.load1 (v := .int .i64 ((placesL ar rs t st).getD 0 0)) Tryz.isAgg2 rfl (hr1.rd (by omega)) ?_)
          exact ⟨rfl, rfl, rfl⟩
        refine stepsP.cons (fun vals R hpZ => ?_) ?_
        · rw [(envs_of_sat (l := [(3, (.agg #[arv, rsv] : Value)), (4, tv), (7, (.int .i64 ((placesL ar rs t st).getD 0 0) : Value))]) ⟨hpZ 3 (by decide), hpZ 4 (by decide), hpZ 7 (by decide), trivial⟩).symm]
          refine XG.op (XOp.call (args := [.agg #[arv, rsv], tv, .int .i64 ((((placesL ar rs t st).getD 0 0).toNat : Nat) : Int)]) Tryz.call147 (by rw [show ((((placesL ar rs t st).getD 0 0).toNat : Nat) : Int) = (placesL ar rs t st).getD 0 0 from by omega]; rfl) (l8Redex_spec (p := ((placesL ar rs t st).getD 0 0).toNat) har hrs ht (hsys := (by first | assumption | rfl | omega | (left; simp; done) | (right; simp; done))) (ho := (by first | assumption | rfl | omega | (left; simp; done) | (right; simp; done))) (hp := (by first | assumption | rfl | omega | (left; simp; done) | (right; simp; done)))) ?_)
          rintro _ _ _ _ ⟨rfl, rfl, rfl⟩
          exact ⟨rfl, rfl, rfl⟩
        exact stepsP.nil
      · intro vals hphi
        have e0 : vals 0 = x1 := hphi 0 (by decide)
        have e1 : vals 1 = (.pointer (some (elemA x1 (0))) : Value) := hphi 1 (by decide)
        have e2 : vals 2 = (.int .i64 ((placesL ar rs t st).getD 0 0) : Value) := hphi 2 (by decide)
        have e3 : vals 3 = (.agg #[arv, rsv] : Value) := hphi 3 (by decide)
        have e4 : vals 4 = tv := hphi 4 (by decide)
        have e5 : vals 5 = x1 := hphi 5 (by decide)
        have e6 : vals 6 = (.pointer (some (elemA x1 (0))) : Value) := hphi 6 (by decide)
        have e7 : vals 7 = (.int .i64 ((placesL ar rs t st).getD 0 0) : Value) := hphi 7 (by decide)
        have e8 : vals 8 = (.int .i64 (ruleAtL ar rs t (((placesL ar rs t st).getD 0 0).toNat)) : Value) := hphi 8 (by decide)
        rw [(envs_of_sat (l := [(0, x1), (1, (.pointer (some (elemA x1 (0))) : Value)), (2, (.int .i64 ((placesL ar rs t st).getD 0 0) : Value)), (3, (.agg #[arv, rsv] : Value)), (4, tv), (5, x1), (6, (.pointer (some (elemA x1 (0))) : Value)), (7, (.int .i64 ((placesL ar rs t st).getD 0 0) : Value)), (8, (.int .i64 (ruleAtL ar rs t (((placesL ar rs t st).getD 0 0).toNat)) : Value))]) ⟨e0, e1, e2, e3, e4, e5, e6, e7, e8, trivial⟩).symm]
        show XL _ _ _ _ _ _ _ (cellsH b1 [arv, rsv] 37 :: L)
        refine XL.cons (XOp.assign (.int .i64 ((placesL ar rs t st).getD 0 0)) rfl ?_)
        refine XL.cons (XOp.assign (.int .i64 (ruleAtL ar rs t (((placesL ar rs t st).getD 0 0).toNat))) rfl ?_)
        refine XL.cons (XOp.assign (.bool (true)) rfl ?_)
        refine XL.nil ?_
        refine X.ret (retEnd (L' := L) [.int .i64 ((placesL ar rs t st).getD 0 0), .int .i64 (ruleAtL ar rs t (((placesL ar rs t st).getD 0 0).toNat)), .bool (true)] (.tuple #[.int .i64 ((placesL ar rs t st).getD 0 0), .int .i64 (ruleAtL ar rs t (((placesL ar rs t st).getD 0 0).toNat)), .bool (true)]) (.tmp rfl (.tmp rfl (.tmp rfl .nil))) rfl (FLe.refl _) le1 (Sub.drop (Sub.refl _)) ?_)
        refine ⟨?_, rfl, rfl⟩
        have hz : pickB ar rs t st = true := pickB_iff.2 ⟨hri.1, hri.2, hne⟩
        rw [pickAt, pickRule, hz, if_pos rfl, if_pos rfl, hpp]
end Go.Proofs.YtbooflphoaaoeaaGreat
