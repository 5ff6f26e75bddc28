/-
  Walks: redexes.
-/
import Derived.Test.YtbooflphoaaoeaaGreatQlFf
import Derived.Test.YtbooflphoaaoeaaGreatP4
set_option linter.unusedSimpArgs false
set_option linter.unusedVariables false
namespace Go.Proofs.YtbooflphoaaoeaaGreat
open Go X M

/- impl.instance -/
theorem instance_spec {F : FH} {L : List HP} {arv : Value} {ar : List Int} (har : IntsF F arv ar) {pv : Value} {p : List Int} (hp : IntsF F pv p) {tv : Value} {t : List Int} (ht : IntsF F tv t) (ho : termOk ar t = true) (hpo : termOk ar p = true) :
    Does Tryz.prog 175 [.agg #[arv], pv, tv] F (L) (fun v F' L' => (.bool ((matchB ar p t).isSome) : Value) = v ∧ F = F' ∧ L = L') := by
  refine Does.of_X Tryz.func175 rfl rfl rfl ?_
  refine X.seq ?_
  refine X.region ?_
  refine XL.cons (XOp.box [arv] rfl rfl ?_)
  intro b1
  refine XL.cons (XOp.assign (.bool (false)) rfl ?_)
  refine XL.nil ?_
  refine X.seq ?_
  refine X.region ?_
  refine XL.cons (XOp.loadN [arv] Tryz.isAgg34 Tryz.sizeOf34 rfl rfl (Rd.ownN [] rfl rfl) ?_)
  refine XL.cons (XOp.move (pv) rfl ?_)
  refine XL.cons (XOp.move (tv) rfl ?_)
  refine XL.cons (XOp.call (args := [.agg #[arv], pv, tv]) Tryz.call157 rfl (match_spec har hp ht (ho := (by first | assumption | rfl | omega | (left; simp; done) | (right; simp; done))) (hpo := (by first | assumption | rfl | omega | (left; simp; done) | (right; simp; done)))) ?_)
  rintro _ F1 _ le1 ⟨x1, rfl, hr1, rfl⟩
  replace har := har.mono le1
  replace hp := hp.mono le1
  replace ht := ht.mono le1
  refine XL.cons (XOp.move (.tuple #[.agg #[x1], .bool ((matchB ar p t).isSome)]) rfl ?_)
  refine XL.cons (XOp.extract (.agg #[x1]) rfl rfl ?_)
  refine XL.cons (XOp.extract (.bool ((matchB ar p t).isSome)) rfl rfl ?_)
  refine XL.cons (XOp.alloc [(.slice none 0 0)] Tryz.zeroValue118 rfl ?_)
  intro b2
  refine XL.cons (XOp.storeN (vs := [x1]) [] _ [x1] Tryz.sizeOf118 rfl rfl rfl (ones_cons (one_sl (RowsF.isSl hr1)) ones_nil) rfl rfl rfl ?_)
  refine XL.cons (XOp.assign (.bool ((matchB ar p t).isSome)) rfl ?_)
  refine XL.nil ?_
  refine X.seq ?_
  refine X.region ?_
  refine XL.cons (XOp.move (.bool ((matchB ar p t).isSome)) rfl ?_)
  refine XL.cons (XOp.assign (.bool ((matchB ar p t).isSome)) rfl ?_)
  refine XL.nil ?_
  refine X.ret (retEnd (L' := L) [.bool ((matchB ar p t).isSome)] (.bool ((matchB ar p t).isSome)) (.tmp rfl .nil) rfl (FLe.refl _) le1 (Sub.drop (Sub.drop (Sub.refl _))) ?_)
  exact ⟨rfl, rfl, rfl⟩

/- impl.redex -/
theorem redex_spec {F : FH} {L : List HP} {arv : Value} {ar : List Int} (har : IntsF F arv ar) {rsv : Value} {rs : List (List Int × List Int)} (hrs : PairsF F rsv rs) {tv : Value} {t : List Int} (ht : IntsF F tv t) {p : Nat} {r : Nat} (hsys : sysOk ar rs = true) (ho : termOk ar t = true) (hp : p < t.length) (hr : r < rs.length) :
    Does Tryz.prog 156 [.agg #[arv, rsv], tv, .int .i64 (((p : Nat) : Int)), .int .i64 (((r : Nat) : Int))] F (L) (fun v F' L' => (.bool (isRedex ar rs t p r) : Value) = v ∧ F = F' ∧ L = L') := by
  refine Does.of_X Tryz.func156 rfl rfl rfl ?_
  have hnn := notNil_of_pos ht (by have := termOk_len ho; omega)
  have htl := termOk_len ho
  have hrl := (sysOk_iff.1 hsys).2.1
  have hsig := (sysOk_iff.1 hsys).1
  have hsl := sigOk_spec hsig
  have hR := ruleOk_iff.1 ((sysOk_iff.1 hsys).2.2 r hr)
  have hRl := hR.left
  have hRr := hR.right
  have hso := sub_ok ho hp
  refine X.seq ?_
  refine X.region ?_
  refine XL.cons (XOp.box [arv, rsv] rfl rfl ?_)
  intro b1
  refine XL.cons (XOp.assign (.bool (false)) rfl ?_)
  refine XL.nil ?_
  refine X.seq ?_
  obtain ⟨a1, a2, ha1, ha2, hr1, hr2⟩ := hrs.rd (i := r) (by omega)
  refine X.drawG [cellsH b1 [arv, rsv] 37] L 13 [[], [], [], [], [], [], [], [], [], [], [], [], []] [[], [0], [], [2], [], [3, 4], [5], [6], [], [8], [], [], [9, 10, 11]] [[], [], [], [], [], [], [], [], [], [], [], [], []] (phiG [fun FF us v => v = ptr b1 0, fun FF us v => v = (.agg #[arv] : Value), fun FF us v => v = ptr b1 1, fun FF us v => v = rsv, fun FF us v => v = (.int .i64 (((r : Nat) : Int)) : Value), fun FF us v => v = (.pointer (some (elemA rsv (r * 2))) : Value), fun FF us v => v = (.pointer (some (elemA rsv (r * 2))) : Value), fun FF us v => v = a1, fun FF us v => v = ptr b1 0, fun FF us v => v = (.agg #[arv] : Value), fun FF us v => v = tv, fun FF us v => v = (.int .i64 (((p : Nat) : Int)) : Value), fun FF us v => ((v) : Value) = v ∧ (IntsF FF (v) (sub ar t p)) ∧ (isNil (v) = false)]) (ownL [fun us v => [], fun us v => [], fun us v => [], fun us v => [], fun us v => [], fun us v => [], fun us v => [], fun us v => [], fun us v => [], fun us v => [], fun us v => [], fun us v => [], fun us v => []]) mixed rfl rfl (by kernel_rfl) (by kernel_rfl) (MonoG.get (MonoG.cons (fun le h => h) (MonoG.cons (fun le h => h) (MonoG.cons (fun le h => h) (MonoG.cons (fun le h => h) (MonoG.cons (fun le h => h) (MonoG.cons (fun le h => h) (MonoG.cons (fun le h => h) (MonoG.cons (fun le h => h) (MonoG.cons (fun le h => h) (MonoG.cons (fun le h => h) (MonoG.cons (fun le h => h) (MonoG.cons (fun le h => h) (MonoG.cons (fun le h => ⟨h.1, h.2.1.mono le, h.2.2⟩) MonoG.nil)))))))))))))) ?_ ?_
  · refine stepsG.cons (fun vals Fs R leFs hpZ => ?_) ?_
    · refine XG.op (XOp.fieldP (b := b1) (0) Tryz.runUnderlying37 rfl Tryz.sizeOf34 (by decide) rfl rfl ?_)
      exact ⟨rfl, rfl⟩
    refine stepsG.cons (fun vals Fs R leFs hpZ => ?_) ?_
    · have e0 : vals 0 = ptr b1 0 := hpZ 0 (by decide)
      replace har := har.mono leFs
      replace hrs := hrs.mono leFs
      replace ht := ht.mono leFs
      replace ha1 := ha1.mono leFs
      replace ha2 := ha2.mono leFs
      replace hr1 := Rd.monoA hr1 leFs
      replace hr2 := Rd.monoA hr2 leFs
      rw [(envs_of_sat (l := [(0, ptr b1 0)]) ⟨e0, trivial⟩).symm]
      refine XG.op (XOp.loadN [arv] Tryz.isAgg34 Tryz.sizeOf34 rfl rfl (Rd.ownN [] rfl rfl) ?_)
      exact ⟨rfl, rfl⟩
    refine stepsG.cons (fun vals Fs R leFs hpZ => ?_) ?_
    · refine XG.op (XOp.fieldP (b := b1) (1) Tryz.runUnderlying37 rfl Tryz.sizeOf35 (by decide) rfl rfl ?_)
      exact ⟨rfl, rfl⟩
    refine stepsG.cons (fun vals Fs R leFs hpZ => ?_) ?_
    · have e2 : vals 2 = ptr b1 1 := hpZ 2 (by decide)
      replace har := har.mono leFs
      replace hrs := hrs.mono leFs
      replace ht := ht.mono leFs
      replace ha1 := ha1.mono leFs
      replace ha2 := ha2.mono leFs
      replace hr1 := Rd.monoA hr1 leFs
      replace hr2 := Rd.monoA hr2 leFs
      rw [(envs_of_sat (l := [(2, ptr b1 1)]) ⟨e2, trivial⟩).symm]
      refine XG.op (XOp.load1 (v := rsv) Tryz.isAgg35 rfl (Rd.own [] rfl rfl) ?_)
      exact ⟨rfl, rfl⟩
    refine stepsG.cons (fun vals Fs R leFs hpZ => ?_) ?_
    · refine XG.op (XOp.move (.int .i64 (((r : Nat) : Int))) rfl ?_)
      exact ⟨rfl, rfl⟩
    refine stepsG.cons (fun vals Fs R leFs hpZ => ?_) ?_
    · have e3 : vals 3 = rsv := hpZ 3 (by decide)
      have e4 : vals 4 = (.int .i64 (((r : Nat) : Int)) : Value) := hpZ 4 (by decide)
      replace har := har.mono leFs
      replace hrs := hrs.mono leFs
      replace ht := ht.mono leFs
      replace ha1 := ha1.mono leFs
      replace ha2 := ha2.mono leFs
      replace hr1 := Rd.monoA hr1 leFs
      replace hr2 := Rd.monoA hr2 leFs
      rw [(envs_of_sat (l := [(3, rsv), (4, (.int .i64 (((r : Nat) : Int)) : Value))]) ⟨e3, e4, trivial⟩).symm]
      refine XG.op (XOp.indexS (v := rsv) (i := ((r : Nat) : Int)) (n := (rs).length) r Tryz.runUnderlying35 Tryz.sizeOf135 rfl rfl rfl hrs.slv (by omega) rfl ?_)
      exact ⟨rfl, rfl⟩
    refine stepsG.cons (fun vals Fs R leFs hpZ => ?_) ?_
    · have e5 : vals 5 = (.pointer (some (elemA rsv (r * 2))) : Value) := hpZ 5 (by decide)
      rw [(envs_of_sat (l := [(5, (.pointer (some (elemA rsv (r * 2))) : Value))]) ⟨e5, trivial⟩).symm]
      refine XG.op (XOp.fieldE (v := rsv) (r * 2) Tryz.runUnderlying135 rfl Tryz.sizeOf22 (by decide) rfl rfl ?_)
      exact ⟨rfl, rfl⟩
    refine stepsG.cons (fun vals Fs R leFs hpZ => ?_) ?_
    · have e6 : vals 6 = (.pointer (some (elemA rsv (r * 2))) : Value) := hpZ 6 (by decide)
      replace har := har.mono leFs
      replace hrs := hrs.mono leFs
      replace ht := ht.mono leFs
      replace ha1 := ha1.mono leFs
      replace ha2 := ha2.mono leFs
      replace hr1 := Rd.monoA hr1 leFs
      replace hr2 := Rd.monoA hr2 leFs
      rw [(envs_of_sat (l := [(6, (.pointer (some (elemA rsv (r * 2))) : Value))]) ⟨e6, trivial⟩).symm]
      refine XG.op (XOp.load1 (v := a1) Tryz.isAgg22 rfl (hr1 _) ?_)
      exact ⟨rfl, rfl⟩
    refine stepsG.cons (fun vals Fs R leFs hpZ => ?_) ?_
    · refine XG.op (XOp.fieldP (b := b1) (0) Tryz.runUnderlying37 rfl Tryz.sizeOf34 (by decide) rfl rfl ?_)
      exact ⟨rfl, rfl⟩
    refine stepsG.cons (fun vals Fs R leFs hpZ => ?_) ?_
    · have e8 : vals 8 = ptr b1 0 := hpZ 8 (by decide)
      replace har := har.mono leFs
      replace hrs := hrs.mono leFs
      replace ht := ht.mono leFs
      replace ha1 := ha1.mono leFs
      replace ha2 := ha2.mono leFs
      replace hr1 := Rd.monoA hr1 leFs
      replace hr2 := Rd.monoA hr2 leFs
      rw [(envs_of_sat (l := [(8, ptr b1 0)]) ⟨e8, trivial⟩).symm]
      refine XG.op (XOp.loadN [arv] Tryz.isAgg34 Tryz.sizeOf34 rfl rfl (Rd.ownN [] rfl rfl) ?_)
      exact ⟨rfl, rfl⟩
    refine stepsG.cons (fun vals Fs R leFs hpZ => ?_) ?_
    · refine XG.op (XOp.move (tv) rfl ?_)
      exact ⟨rfl, rfl⟩
    refine stepsG.cons (fun vals Fs R leFs hpZ => ?_) ?_
    · refine XG.op (XOp.move (.int .i64 (((p : Nat) : Int))) rfl ?_)
      exact ⟨rfl, rfl⟩
    refine stepsG.cons (fun vals Fs R leFs hpZ => ?_) ?_
    · have e9 : vals 9 = (.agg #[arv] : Value) := hpZ 9 (by decide)
      have e10 : vals 10 = tv := hpZ 10 (by decide)
      have e11 : vals 11 = (.int .i64 (((p : Nat) : Int)) : Value) := hpZ 11 (by decide)
      replace har := har.mono leFs
      replace hrs := hrs.mono leFs
      replace ht := ht.mono leFs
      replace ha1 := ha1.mono leFs
      replace ha2 := ha2.mono leFs
      replace hr1 := Rd.monoA hr1 leFs
      replace hr2 := Rd.monoA hr2 leFs
      rw [(envs_of_sat (l := [(9, (.agg #[arv] : Value)), (10, tv), (11, (.int .i64 (((p : Nat) : Int)) : Value))]) ⟨e9, e10, e11, trivial⟩).symm]
      refine XG.op (XOp.call (args := [.agg #[arv], tv, .int .i64 ((p : Nat) : Int)]) Tryz.call158 rfl (subAt_spec (p := p) har ht (ho := (by first | assumption | rfl | omega | (left; simp; done) | (right; simp; done))) (hp := (by first | assumption | rfl | omega | (left; simp; done) | (right; simp; done))) (hnn := (by first | assumption | rfl | omega | (left; simp; done) | (right; simp; done)))) ?_)
      rintro v2 _ _ _ ⟨rfl, rfl, hv2, hn2⟩
      exact ⟨⟨rfl, hv2, hn2⟩, rfl⟩
    exact stepsG.nil
  · intro vals F1 le1 hphi
    have e0 : vals 0 = ptr b1 0 := hphi 0 (by decide)
    have e1 : vals 1 = (.agg #[arv] : Value) := hphi 1 (by decide)
    have e2 : vals 2 = ptr b1 1 := hphi 2 (by decide)
    have e3 : vals 3 = rsv := hphi 3 (by decide)
    have e4 : vals 4 = (.int .i64 (((r : Nat) : Int)) : Value) := hphi 4 (by decide)
    have e5 : vals 5 = (.pointer (some (elemA rsv (r * 2))) : Value) := hphi 5 (by decide)
    have e6 : vals 6 = (.pointer (some (elemA rsv (r * 2))) : Value) := hphi 6 (by decide)
    have e7 : vals 7 = a1 := hphi 7 (by decide)
    have e8 : vals 8 = ptr b1 0 := hphi 8 (by decide)
    have e9 : vals 9 = (.agg #[arv] : Value) := hphi 9 (by decide)
    have e10 : vals 10 = tv := hphi 10 (by decide)
    have e11 : vals 11 = (.int .i64 (((p : Nat) : Int)) : Value) := hphi 11 (by decide)
    obtain ⟨e12, f12_1ha, f12_1hn⟩ := hphi 12 (by decide)
    generalize hu1 : ((vals 12)) = u1 at e0 e1 e2 e3 e4 e5 e6 e7 e8 e9 e10 e11 e12 f12_1ha f12_1hn
    rw [(envs_of_sat (l := [(0, ptr b1 0), (1, (.agg #[arv] : Value)), (2, ptr b1 1), (3, rsv), (4, (.int .i64 (((r : Nat) : Int)) : Value)), (5, (.pointer (some (elemA rsv (r * 2))) : Value)), (6, (.pointer (some (elemA rsv (r * 2))) : Value)), (7, a1), (8, ptr b1 0), (9, (.agg #[arv] : Value)), (10, tv), (11, (.int .i64 (((p : Nat) : Int)) : Value)), (12, u1)]) ⟨e0, e1, e2, e3, e4, e5, e6, e7, e8, e9, e10, e11, hu1, trivial⟩).symm]
    replace har := har.mono le1
    replace hrs := hrs.mono le1
    replace ht := ht.mono le1
    replace ha1 := ha1.mono le1
    replace ha2 := ha2.mono le1
    replace hr1 := Rd.monoA hr1 le1
    replace hr2 := Rd.monoA hr2 le1
    show XL _ _ _ _ _ _ _ (cellsH b1 [arv, rsv] 37 :: L)
    refine XL.cons (XOp.call (args := [.agg #[arv], a1, u1]) Tryz.call175 rfl (instance_spec har ha1 f12_1ha (ho := (by first | assumption | rfl | omega | (left; simp; done) | (right; simp; done))) (hpo := (by first | assumption | rfl | omega | (left; simp; done) | (right; simp; done)))) ?_)
    rintro _ _ _ _ ⟨rfl, rfl, rfl⟩
    refine XL.cons (XOp.assign (.bool ((matchB ar ((rs.getD r ([], [])).1) ((sub ar t p))).isSome)) rfl ?_)
    refine XL.nil ?_
    refine X.ret (retEnd (L' := L) [.bool ((matchB ar ((rs.getD r ([], [])).1) ((sub ar t p))).isSome)] (.bool ((matchB ar ((rs.getD r ([], [])).1) ((sub ar t p))).isSome)) (.tmp rfl .nil) rfl (FLe.refl _) le1 (Sub.drop (Sub.refl _)) ?_)
    exact ⟨rfl, rfl, rfl⟩

/- impl.ruleAt -/
theorem ruleAt_spec {F : FH} {L : List HP} {arv : Value} {ar : List Int} (har : IntsF F arv ar) {rsv : Value} {rs : List (List Int × List Int)} (hrs : PairsF F rsv rs) {tv : Value} {t : List Int} (ht : IntsF F tv t) {p : Nat} (hsys : sysOk ar rs = true) (ho : termOk ar t = true) (hp : p < t.length) :
    Does Tryz.prog 113 [.agg #[arv, rsv], tv, .int .i64 (((p : Nat) : Int))] F (L) (fun v F' L' => (.int .i64 (ruleAtL ar rs t p) : Value) = v ∧ F = F' ∧ L = L') := by
  refine Does.of_X Tryz.func113 rfl rfl rfl ?_
  have hnn := notNil_of_pos ht (by have := termOk_len ho; omega)
  have htl := termOk_len ho
  have hrl := (sysOk_iff.1 hsys).2.1
  have hsig := (sysOk_iff.1 hsys).1
  have hsl := sigOk_spec hsig
  refine X.seq ?_
  refine X.region ?_
  refine XL.cons (XOp.box [arv, rsv] rfl rfl ?_)
  intro b1
  refine XL.cons (XOp.assign (.int .i64 (0)) rfl ?_)
  refine XL.nil ?_
  refine X.seq ?_
  refine X.seq ?_
  refine X.region ?_
  refine XL.cons (XOp.fieldP (b := b1) (1) Tryz.runUnderlying37 rfl Tryz.sizeOf35 (by decide) rfl rfl ?_)
  refine XL.cons (XOp.load1 (v := rsv) Tryz.isAgg35 rfl (Rd.own [] rfl rfl) ?_)
  refine XL.cons (XOp.lenS (v := rsv) (n := (rs).length) Tryz.runUnderlying35 rfl hrs.slv ?_)
  refine XL.cons (XOp.move (.int .i64 (0)) rfl ?_)
  refine XL.nil ?_
  refine X.block ?_
  refine X.loop (α := Nat) (fun r => [(1, tv), (2, .int .i64 (((p : Nat) : Int))), (3, ptr b1 0), (10, .int .i64 ((((rs).length : Nat) : Int))), (11, .int .i64 (((r : Nat) : Int)))]) (fun r => cellsH b1 [arv, rsv] 37 :: L) (fun r F' => F = F' ∧ (r ≤ rs.length) ∧ (ruleAtL ar rs t p = ruleAtGo ar rs t p (rs.length - r) r)) (fun r => rs.length - r) 0 ⟨rfl, rfl, rfl, rfl, rfl, trivial⟩ (Sub.cons (Sub.refl _)) ⟨rfl, (by omega), (rfl)⟩ ?_
  rintro r rE _ _ ⟨rfl, hr, hm⟩
  show X _ _ _ _ (envs [(1, tv), (2, .int .i64 (((p : Nat) : Int))), (3, ptr b1 0), (10, .int .i64 ((((rs).length : Nat) : Int))), (11, .int .i64 (((r : Nat) : Int)))] rE) _ (cellsH b1 [arv, rsv] 37 :: L)
  refine X.seq ?_
  refine X.region ?_
  refine XL.cons (XOp.lss (a := ((r : Nat) : Int)) (b := (((rs).length : Nat) : Int)) rfl rfl ?_)
  refine XL.nil ?_
  refine X.seq ?_
  refine X.condD (p := (((r : Nat) : Int) : Int) < (((rs).length : Nat) : Int)) rfl (fun h1 => ?_) (fun h1 => ?_)
  · refine X.skip ?_
    refine X.seq ?_
    refine X.block ?_
    refine X.seq ?_
    refine X.region ?_
    refine XL.cons (XOp.move (.int .i64 (((r : Nat) : Int))) rfl ?_)
    refine XL.cons (XOp.assign (.int .i64 (((r : Nat) : Int))) rfl ?_)
    refine XL.nil ?_
    refine X.seq ?_
    refine X.region ?_
    refine XL.cons (XOp.loadN [arv, rsv] Tryz.isAgg37 Tryz.sizeOf37 rfl rfl (Rd.ownN [] rfl rfl) ?_)
    refine XL.cons (XOp.move (tv) rfl ?_)
    refine XL.cons (XOp.move (.int .i64 (((p : Nat) : Int))) rfl ?_)
    refine XL.cons (XOp.move (.int .i64 (((r : Nat) : Int))) rfl ?_)
    refine XL.cons (XOp.call (args := [.agg #[arv, rsv], tv, .int .i64 ((p : Nat) : Int), .int .i64 ((r : Nat) : Int)]) Tryz.call156 rfl (redex_spec (p := p) (r := r) har hrs ht (hsys := (by first | assumption | rfl | omega | (left; simp; done) | (right; simp; done))) (ho := (by first | assumption | rfl | omega | (left; simp; done) | (right; simp; done))) (hp := (by first | assumption | rfl | omega | (left; simp; done) | (right; simp; done))) (hr := (by first | assumption | rfl | omega | (left; simp; done) | (right; simp; done)))) ?_)
    rintro _ _ _ _ ⟨rfl, rfl, rfl⟩
    refine XL.nil ?_
    refine X.cond (t := isRedex ar rs t p r) rfl (fun h2 => ?_) (fun h2 => ?_)
    · refine X.seq ?_
      refine X.region ?_
      refine XL.cons (XOp.move (.int .i64 (((r : Nat) : Int))) rfl ?_)
      refine XL.cons (XOp.assign (.int .i64 (((r : Nat) : Int))) rfl ?_)
      refine XL.nil ?_
      refine X.ret (blockQ_ret (thenQ_ret (thenQ_ret (blockQ_ret (thenQ_ret (retEnd (L' := L) [.int .i64 (((r : Nat) : Int))] (.int .i64 (((r : Nat) : Int))) (.tmp rfl .nil) rfl (FLe.refl _) (FLe.refl _) (Sub.drop (Sub.refl _)) ?_))))))
      exact ⟨(congrArg (Value.int .i64) (hm.trans (ruleAt_hit (by omega) (by assumption)))), rfl, rfl⟩
    · refine X.skip ?_
      refine X.region ?_
      refine XL.cons (XOp.addR (a := ((r : Nat) : Int)) (b := 1) (((r + 1 : Nat) : Int)) rfl rfl (by omega) (by omega) ?_)
      refine XL.cons (XOp.move (.int .i64 (((r + 1 : Nat) : Int))) rfl ?_)
      refine XL.nil ?_
      exact ⟨r + 1, _, FLe.refl _, (FLe.refl _), ⟨rfl, rfl, rfl, rfl, rfl, trivial⟩, (Sub.cons (Sub.refl _)), ⟨rfl, (by (try dsimp only) <;> omega), (hm.trans (ruleAt_miss (by omega) (by assumption)))⟩, (by omega)⟩
  · refine X.exit (thenQ_exit (thenQ_exit (blockQ_exit ?_)))
    refine X.seq ?_
    refine X.region ?_
    refine XL.cons (XOp.assign (.int .i64 (-1)) rfl ?_)
    refine XL.nil ?_
    refine X.ret (retEnd (L' := L) [.int .i64 (-1)] (.int .i64 (-1)) (.tmp rfl .nil) rfl (FLe.refl _) (FLe.refl _) (Sub.drop (Sub.refl _)) ?_)
    exact ⟨(congrArg (Value.int .i64) (hm.trans (ruleAt_end (by omega)))), rfl, rfl⟩

/- impl.redexes -/
theorem redexes_spec {F : FH} {L : List HP} {arv : Value} {ar : List Int} (har : IntsF F arv ar) {rsv : Value} {rs : List (List Int × List Int)} (hrs : PairsF F rsv rs) {tv : Value} {t : List Int} (ht : IntsF F tv t) (hsys : sysOk ar rs = true) (ho : termOk ar t = true) :
    Does Tryz.prog 152 [.agg #[arv, rsv], tv] F (L) (fun v F' L' => F = F' ∧ IsSl v ∧ intsH 3 v (redL ar rs t) :: L = L') := by
  refine Does.of_X Tryz.func152 rfl rfl rfl ?_
  have hnn := notNil_of_pos ht (by have := termOk_len ho; omega)
  have htl := termOk_len ho
  have hrl := (sysOk_iff.1 hsys).2.1
  have hsig := (sysOk_iff.1 hsys).1
  have hsl := sigOk_spec hsig
  refine X.seq ?_
  refine X.region ?_
  refine XL.cons (XOp.box [arv, rsv] rfl rfl ?_)
  intro b1
  refine XL.cons (XOp.assign ((.slice none 0 0)) rfl ?_)
  refine XL.nil ?_
  refine X.seq ?_
  refine X.region ?_
  refine XL.cons (XOp.assign ((.slice none 0 0)) rfl ?_)
  refine XL.nil ?_
  refine X.seq ?_
  refine X.seq ?_
  refine X.region ?_
  refine XL.cons (XOp.move (tv) rfl ?_)
  refine XL.cons (XOp.lenS (v := tv) (n := (t).length) Tryz.runUnderlying22 rfl ht.slv ?_)
  refine XL.cons (XOp.move (.int .i64 (0)) rfl ?_)
  refine XL.nil ?_
  refine X.block ?_
  refine X.loop (α := Nat × Value × List Int) (fun xQ => [(1, tv), (2, ptr b1 0), (5, xQ.2.1), (8, tv), (9, .int .i64 ((((t).length : Nat) : Int))), (10, .int .i64 (((xQ.1 : Nat) : Int)))]) (fun xQ => intsH 3 xQ.2.1 xQ.2.2 :: cellsH b1 [arv, rsv] 37 :: L) (fun xQ F' => F = F' ∧ (IsSl xQ.2.1) ∧ (xQ.1 ≤ t.length) ∧ (xQ.2.2 = redTo ar rs t xQ.1)) (fun xQ => t.length - xQ.1) (0, (.slice none 0 0), []) ⟨rfl, rfl, rfl, rfl, rfl, rfl, trivial⟩ (Sub.trans (intsH.addNil 3 none _) (Sub.cons (Sub.cons (Sub.refl _)))) ⟨rfl, (⟨_, _, _, rfl⟩), (by (try dsimp only) <;> omega), (rfl)⟩ ?_
  rintro ⟨k, ov, os⟩ rE _ _ ⟨rfl, hov, hk, hos⟩
  show X _ _ _ _ (envs [(1, tv), (2, ptr b1 0), (5, ov), (8, tv), (9, .int .i64 ((((t).length : Nat) : Int))), (10, .int .i64 (((k : Nat) : Int)))] rE) _ (intsH 3 ov os :: cellsH b1 [arv, rsv] 37 :: L)
  dsimp only at hov hk hos
  have hol : os.length ≤ k := by rw [hos]; exact redTo_len
  refine X.seq ?_
  refine X.region ?_
  refine XL.cons (XOp.lss (a := ((k : Nat) : Int)) (b := (((t).length : Nat) : Int)) rfl rfl ?_)
  refine XL.nil ?_
  refine X.seq ?_
  refine X.condD (p := (((k : Nat) : Int) : Int) < (((t).length : Nat) : Int)) rfl (fun h1 => ?_) (fun h1 => ?_)
  · refine X.skip ?_
    refine X.seq ?_
    refine X.block ?_
    refine X.seq ?_
    refine X.region ?_
    refine XL.cons (XOp.move (.int .i64 (((k : Nat) : Int))) rfl ?_)
    refine XL.cons (XOp.indexS (v := tv) (i := ((k : Nat) : Int)) (n := (t).length) k Tryz.runUnderlying22 Tryz.sizeOf2 rfl rfl rfl ht.slv (by omega) (Nat.mul_one _) ?_)
    refine XL.cons (XOp.load1 (v := .int .i64 (t.getD k 0)) Tryz.isAgg2 rfl (ht.rd (by omega)) ?_)
    refine XL.cons (XOp.assign (.int .i64 (((k : Nat) : Int))) rfl ?_)
    refine XL.cons (XOp.assign (.int .i64 (t.getD k 0)) rfl ?_)
    refine XL.nil ?_
    refine X.seq ?_
    refine X.region ?_
    refine XL.cons (XOp.move (.int .i64 (t.getD k 0)) rfl ?_)
    refine XL.cons (XOp.geq (a := t.getD k 0) (b := 0) rfl rfl ?_)
    refine XL.cons (XOp.move (.bool (decide ((t.getD k 0 : Int) ≥ 0))) rfl ?_)
    by_cases h2 : (t.getD k 0 : Int) ≥ 0
    · refine XL.yes (t := 17) rfl (congrArg Value.bool (decide_eq_true h2)) (XOp.loadN [arv, rsv] Tryz.isAgg37 Tryz.sizeOf37 rfl rfl (Rd.ownN [_] rfl rfl) ?_)
      refine XL.yes (t := 17) rfl (congrArg Value.bool (decide_eq_true h2)) (XOp.move (tv) rfl ?_)
      refine XL.yes (t := 17) rfl (congrArg Value.bool (decide_eq_true h2)) (XOp.move (.int .i64 (((k : Nat) : Int))) rfl ?_)
      refine XL.yes (t := 17) rfl (congrArg Value.bool (decide_eq_true h2)) (XOp.call (args := [.agg #[arv, rsv], tv, .int .i64 ((k : Nat) : Int)]) Tryz.call113 rfl (ruleAt_spec (p := k) har hrs ht (hsys := (by first | assumption | rfl | omega | (left; simp; done) | (right; simp; done))) (ho := (by first | assumption | rfl | omega | (left; simp; done) | (right; simp; done))) (hp := (by first | assumption | rfl | omega | (left; simp; done) | (right; simp; done)))) ?_)
      rintro _ _ _ _ ⟨rfl, rfl, rfl⟩
      refine XL.yes (t := 17) rfl (congrArg Value.bool (decide_eq_true h2)) (XOp.geq (a := ruleAtL ar rs t k) (b := 0) rfl rfl ?_)
      refine XL.cons (XOp.pickT (.bool (decide ((ruleAtL ar rs t k : Int) ≥ 0))) (congrArg Value.bool (decide_eq_true h2)) rfl ?_)
      refine XL.nil ?_
      refine X.condD (p := (ruleAtL ar rs t k : Int) ≥ 0) rfl (fun h3 => ?_) (fun h3 => ?_)
      · refine X.region ?_
        refine XL.cons (XOp.move (ov) rfl ?_)
        refine XL.cons (XOp.move (.int .i64 (((k : Nat) : Int))) rfl ?_)
        refine XL.cons (XOp.buildSlice (s := 1) [.int .i64 (((k : Nat) : Int))] [.int .i64 (0)] [(0, [.int .i64 (((k : Nat) : Int))])] Tryz.runUnderlying176 Tryz.sizeOf3 Tryz.zeroValue3 rfl (by decide) rfl (.cons rfl CellsAre.nil) rfl ?_)
        intro v1 hv1
        refine XL.cons (XOp.append1 (u := ((k : Nat) : Int)) [_] _ Tryz.runUnderlying176 Tryz.typeInfo3 rfl rfl rfl rfl rfl rfl (SlV.own [] rfl) (Rd.sl [] rfl rfl) (by (try simp only [List.length_append, List.length_nil, List.length_cons, List.length_singleton, List.length_take, List.length_drop]); omega) ?_)
        intro v2 hs1 hn1
        refine XL.cons (XOp.assign (v2) rfl ?_)
        refine XL.nil ?_
        refine X.region ?_
        refine XL.cons (XOp.addR (a := ((k : Nat) : Int)) (b := 1) (((k + 1 : Nat) : Int)) rfl rfl (by omega) (by omega) ?_)
        refine XL.cons (XOp.move (.int .i64 (((k + 1 : Nat) : Int))) rfl ?_)
        refine XL.nil ?_
        exact ⟨(k + 1, v2, os ++ [((k : Nat) : Int)]), _, FLe.refl _, (FLe.refl _), ⟨rfl, rfl, rfl, rfl, rfl, rfl, trivial⟩, (Sub.drop (Sub.cons (Sub.cons (Sub.refl _)))), ⟨rfl, (hs1), (by (try dsimp only) <;> omega), ((by dsimp only; rw [hos]; first | exact (redTo_yes (by omega)).symm | exact (redTo_no (by omega)).symm | exact (redTo_no (by rw [ruleAt_var hsys ho (by omega) (by omega)]; omega)).symm))⟩, (by omega)⟩
      · refine X.skip ?_
        refine X.region ?_
        refine XL.cons (XOp.addR (a := ((k : Nat) : Int)) (b := 1) (((k + 1 : Nat) : Int)) rfl rfl (by omega) (by omega) ?_)
        refine XL.cons (XOp.move (.int .i64 (((k + 1 : Nat) : Int))) rfl ?_)
        refine XL.nil ?_
        exact ⟨(k + 1, ov, os), _, FLe.refl _, (FLe.refl _), ⟨rfl, rfl, rfl, rfl, rfl, rfl, trivial⟩, (Sub.cons (Sub.cons (Sub.refl _))), ⟨rfl, (hov), (by (try dsimp only) <;> omega), ((by dsimp only; rw [hos]; first | exact (redTo_yes (by omega)).symm | exact (redTo_no (by omega)).symm | exact (redTo_no (by rw [ruleAt_var hsys ho (by omega) (by omega)]; omega)).symm))⟩, (by omega)⟩
    · refine XL.no (t := 17) rfl (congrArg Value.bool (decide_eq_false h2)) ?_
      refine XL.no (t := 17) rfl (congrArg Value.bool (decide_eq_false h2)) ?_
      refine XL.no (t := 17) rfl (congrArg Value.bool (decide_eq_false h2)) ?_
      refine XL.no (t := 17) rfl (congrArg Value.bool (decide_eq_false h2)) ?_
      refine XL.no (t := 17) rfl (congrArg Value.bool (decide_eq_false h2)) ?_
      refine XL.cons (XOp.pickF (.bool (false)) (congrArg Value.bool (decide_eq_false h2)) rfl ?_)
      refine XL.nil ?_
      refine X.condF rfl ?_
      refine X.skip ?_
      refine X.region ?_
      refine XL.cons (XOp.addR (a := ((k : Nat) : Int)) (b := 1) (((k + 1 : Nat) : Int)) rfl rfl (by omega) (by omega) ?_)
      refine XL.cons (XOp.move (.int .i64 (((k + 1 : Nat) : Int))) rfl ?_)
      refine XL.nil ?_
      exact ⟨(k + 1, ov, os), _, FLe.refl _, (FLe.refl _), ⟨rfl, rfl, rfl, rfl, rfl, rfl, trivial⟩, (Sub.cons (Sub.cons (Sub.refl _))), ⟨rfl, (hov), (by (try dsimp only) <;> omega), ((by dsimp only; rw [hos]; first | exact (redTo_yes (by omega)).symm | exact (redTo_no (by omega)).symm | exact (redTo_no (by rw [ruleAt_var hsys ho (by omega) (by omega)]; omega)).symm))⟩, (by omega)⟩
  · refine X.exit (thenQ_exit (thenQ_exit (blockQ_exit ?_)))
    refine X.seq ?_
    refine X.region ?_
    refine XL.cons (XOp.move (ov) rfl ?_)
    refine XL.cons (XOp.assign (ov) rfl ?_)
    refine XL.nil ?_
    refine X.ret (retEnd (L' := intsH 3 ov os :: L) [ov] (ov) (.tmp rfl .nil) rfl (FLe.refl _) (FLe.refl _) (Sub.cons (Sub.drop (Sub.refl _))) ?_)
    refine ⟨rfl, hov, ?_⟩
    have hxs : (redL ar rs t : List Int) = os := by rw [hos, redL, show k = t.length from by omega]
    exact congrArg (fun z => intsH 3 _ z :: L) hxs

/- impl.inmost -/
theorem inmost_spec {F : FH} {L : List HP} {arv : Value} {ar : List Int} (har : IntsF F arv ar) {rsv : Value} {rs : List (List Int × List Int)} (hrs : PairsF F rsv rs) {tv : Value} {t : List Int} (ht : IntsF F tv t) (hsys : sysOk ar rs = true) (ho : termOk ar t = true) :
    Does Tryz.prog 174 [.agg #[arv, rsv], tv] F (L) (fun v F' L' => F = F' ∧ IsSl v ∧ intsH 3 v (inL ar rs t) :: L = L') := by
  refine Does.of_X Tryz.func174 rfl rfl rfl ?_
  have hnn := notNil_of_pos ht (by have := termOk_len ho; omega)
  have htl := termOk_len ho
  have hrl := (sysOk_iff.1 hsys).2.1
  have hsig := (sysOk_iff.1 hsys).1
  have hsl := sigOk_spec hsig
  have hrd := redL_len (ar := ar) (rs := rs) (t := t)
  refine X.seq ?_
  refine X.region ?_
  refine XL.cons (XOp.box [arv, rsv] rfl rfl ?_)
  intro b1
  refine XL.cons (XOp.assign ((.slice none 0 0)) rfl ?_)
  refine XL.nil ?_
  refine X.seq ?_
  refine X.region ?_
  refine XL.cons (XOp.loadN [arv, rsv] Tryz.isAgg37 Tryz.sizeOf37 rfl rfl (Rd.ownN [] rfl rfl) ?_)
  refine XL.cons (XOp.move (tv) rfl ?_)
  refine XL.cons (XOp.frzF <| XOp.call (args := [.agg #[arv, rsv], tv]) Tryz.call152 rfl (redexes_spec har hrs ht (hsys := (by first | assumption | rfl | omega | (left; simp; done) | (right; simp; done))) (ho := (by first | assumption | rfl | omega | (left; simp; done) | (right; simp; done)))) ?_)
  rintro v1 _ _ _ ⟨rfl, hs1, rfl⟩
  refine ⟨_, _, rfl, fun F1 le1 hz1 => ?_⟩
  replace har := har.mono le1
  replace hrs := hrs.mono le1
  replace ht := ht.mono le1
  have hf1 : IntsF F1 v1 ((redL ar rs t)) := intsH.fz (xs := (redL ar rs t)) hz1.fz
  refine XL.cons (XOp.assign (v1) rfl ?_)
  refine XL.nil ?_
  refine X.seq ?_
  refine X.region ?_
  refine XL.cons (XOp.assign ((.slice none 0 0)) rfl ?_)
  refine XL.nil ?_
  refine X.seq ?_
  refine X.seq ?_
  refine X.region ?_
  refine XL.cons (XOp.move (v1) rfl ?_)
  refine XL.cons (XOp.lenS (v := v1) (n := ((redL ar rs t)).length) Tryz.runUnderlying176 rfl hf1.slv ?_)
  refine XL.cons (XOp.move (.int .i64 (0)) rfl ?_)
  refine XL.nil ?_
  refine X.block ?_
  refine X.loop (α := Nat × Value × List Int) (fun xQ => [(1, tv), (2, ptr b1 0), (5, v1), (6, xQ.2.1), (12, v1), (13, .int .i64 (((((redL ar rs t)).length : Nat) : Int))), (14, .int .i64 (((xQ.1 : Nat) : Int)))]) (fun xQ => intsH 3 xQ.2.1 xQ.2.2 :: cellsH b1 [arv, rsv] 37 :: L) (fun xQ F' => F1 = F' ∧ (IsSl xQ.2.1) ∧ (xQ.1 ≤ (redL ar rs t).length) ∧ (xQ.2.2 = inTo ar t (redL ar rs t) xQ.1)) (fun xQ => (redL ar rs t).length - xQ.1) (0, (.slice none 0 0), []) ⟨rfl, rfl, rfl, rfl, rfl, rfl, rfl, trivial⟩ (Sub.trans (intsH.addNil 3 none _) (Sub.cons (Sub.cons (Sub.refl _)))) ⟨rfl, (⟨_, _, _, rfl⟩), (by (try dsimp only) <;> omega), (rfl)⟩ ?_
  rintro ⟨k, ov, os⟩ rE _ _ ⟨rfl, hov, hk, hos⟩
  show X _ _ _ _ (envs [(1, tv), (2, ptr b1 0), (5, v1), (6, ov), (12, v1), (13, .int .i64 (((((redL ar rs t)).length : Nat) : Int))), (14, .int .i64 (((k : Nat) : Int)))] rE) _ (intsH 3 ov os :: cellsH b1 [arv, rsv] 37 :: L)
  dsimp only at hov hk hos
  have hol : os.length ≤ k := by rw [hos]; exact inTo_len
  have hsp := fun h => redL_spec (ar := ar) (rs := rs) (t := t) 0 k h
  have has := fun h => redL_asc (ar := ar) (rs := rs) (t := t) (i := k) h
  refine X.seq ?_
  refine X.region ?_
  refine XL.cons (XOp.lss (a := ((k : Nat) : Int)) (b := ((((redL ar rs t)).length : Nat) : Int)) rfl rfl ?_)
  refine XL.nil ?_
  refine X.seq ?_
  refine X.condD (p := (((k : Nat) : Int) : Int) < ((((redL ar rs t)).length : Nat) : Int)) rfl (fun h1 => ?_) (fun h1 => ?_)
  · refine X.skip ?_
    refine X.seq ?_
    refine X.block ?_
    refine X.seq ?_
    refine X.region ?_
    refine XL.cons (XOp.move (.int .i64 (((k : Nat) : Int))) rfl ?_)
    refine XL.cons (XOp.indexS (v := v1) (i := ((k : Nat) : Int)) (n := ((redL ar rs t)).length) k Tryz.runUnderlying176 Tryz.sizeOf3 rfl rfl rfl hf1.slv (by omega) (Nat.mul_one _) ?_)
    refine XL.cons (XOp.load1 (v := .int .i64 (((redL ar rs t)).getD k 0)) Tryz.isAgg3 rfl (hf1.rd (by omega)) ?_)
    refine XL.cons (XOp.assign (.int .i64 (((k : Nat) : Int))) rfl ?_)
    refine XL.cons (XOp.assign (.int .i64 (((redL ar rs t)).getD k 0)) rfl ?_)
    refine XL.nil ?_
    refine X.seq ?_
    by_cases h2 : (((k + 1 : Nat) : Int) : Int) = ((((redL ar rs t)).length : Nat) : Int)
    · refine X.draw [intsH 3 ov os, cellsH b1 [arv, rsv] 37] L 15 [[], [], [], [], [], [], [], [], [], [], [], [], [], [], []] [[], [0], [], [2], [1, 3], [4], [5], [5, 6], [5], [5], [5], [5], [5, 11], [5, 10, 12], [5, 13]] (phiL [fun us v => v = (.int .i64 (((k : Nat) : Int)) : Value), fun us v => v = (.int .i64 (((k + 1 : Nat) : Int)) : Value), fun us v => v = v1, fun us v => v = (.int .i64 (((((redL ar rs t)).length : Nat) : Int)) : Value), fun us v => v = (.bool (decide ((((k + 1 : Nat) : Int) : Int) = ((((redL ar rs t)).length : Nat) : Int))) : Value), fun us v => v = (.bool (decide ((((k + 1 : Nat) : Int) : Int) = ((((redL ar rs t)).length : Nat) : Int))) : Value), fun us v => v = undef, fun us v => v = undef, fun us v => v = undef, fun us v => v = undef, fun us v => v = undef, fun us v => v = undef, fun us v => v = undef, fun us v => v = undef, fun us v => v = undef]) (ownL [fun us v => [], fun us v => [], fun us v => [], fun us v => [], fun us v => [], fun us v => [], fun us v => [], fun us v => [], fun us v => [], fun us v => [], fun us v => [], fun us v => [], fun us v => [], fun us v => [], fun us v => []]) mixed rfl rfl (by kernel_rfl) ?_ ?_
      · refine stepsP.cons (fun vals R hpZ => ?_) ?_
        · refine XG.op (XOp.move (.int .i64 (((k : Nat) : Int))) rfl ?_)
          exact ⟨rfl, rfl, rfl⟩
        refine stepsP.cons (fun vals R hpZ => ?_) ?_
        · rw [(envs_of_sat (l := [(0, (.int .i64 (((k : Nat) : Int)) : Value))]) ⟨hpZ 0 (by decide), trivial⟩).symm]
          refine XG.op (XOp.addR (a := ((k : Nat) : Int)) (b := 1) (((k + 1 : Nat) : Int)) rfl rfl (by omega) (by omega) ?_)
          exact ⟨rfl, rfl, rfl⟩
        refine stepsP.cons (fun vals R hpZ => ?_) ?_
        · refine XG.op (XOp.move (v1) rfl ?_)
          exact ⟨rfl, rfl, rfl⟩
        refine stepsP.cons (fun vals R hpZ => ?_) ?_
        · rw [(envs_of_sat (l := [(2, v1)]) ⟨hpZ 2 (by decide), trivial⟩).symm]
          refine XG.op (XOp.lenS (v := v1) (n := ((redL ar rs t)).length) Tryz.runUnderlying176 rfl hf1.slv ?_)
          exact ⟨rfl, rfl, rfl⟩
        refine stepsP.cons (fun vals R hpZ => ?_) ?_
        · rw [(envs_of_sat (l := [(1, (.int .i64 (((k + 1 : Nat) : Int)) : Value)), (3, (.int .i64 (((((redL ar rs t)).length : Nat) : Int)) : Value))]) ⟨hpZ 1 (by decide), hpZ 3 (by decide), trivial⟩).symm]
          refine XG.op (XOp.eql (a := ((k + 1 : Nat) : Int)) (b := ((((redL ar rs t)).length : Nat) : Int)) rfl rfl ?_)
          exact ⟨rfl, rfl, rfl⟩
        refine stepsP.cons (fun vals R hpZ => ?_) ?_
        · rw [(envs_of_sat (l := [(4, (.bool (decide ((((k + 1 : Nat) : Int) : Int) = ((((redL ar rs t)).length : Nat) : Int))) : Value))]) ⟨hpZ 4 (by decide), trivial⟩).symm]
          refine XG.op (XOp.move (.bool (decide ((((k + 1 : Nat) : Int) : Int) = ((((redL ar rs t)).length : Nat) : Int)))) rfl ?_)
          exact ⟨rfl, rfl, rfl⟩
        refine stepsP.cons (fun vals R hpZ => ?_) ?_
        · rw [(envs_of_sat (l := [(5, (.bool (decide ((((k + 1 : Nat) : Int) : Int) = ((((redL ar rs t)).length : Nat) : Int))) : Value))]) ⟨hpZ 5 (by decide), trivial⟩).symm]
          exact XG.no (t := 24) rfl (congrArg Value.bool (decide_eq_true h2)) ⟨rfl, rfl, rfl⟩
        refine stepsP.cons (fun vals R hpZ => ?_) ?_
        · rw [(envs_of_sat (l := [(5, (.bool (decide ((((k + 1 : Nat) : Int) : Int) = ((((redL ar rs t)).length : Nat) : Int))) : Value)), (6, undef)]) ⟨hpZ 5 (by decide), hpZ 6 (by decide), trivial⟩).symm]
          exact XG.no (t := 24) rfl (congrArg Value.bool (decide_eq_true h2)) ⟨rfl, rfl, rfl⟩
        refine stepsP.cons (fun vals R hpZ => ?_) ?_
        · rw [(envs_of_sat (l := [(5, (.bool (decide ((((k + 1 : Nat) : Int) : Int) = ((((redL ar rs t)).length : Nat) : Int))) : Value))]) ⟨hpZ 5 (by decide), trivial⟩).symm]
          exact XG.no (t := 24) rfl (congrArg Value.bool (decide_eq_true h2)) ⟨rfl, rfl, rfl⟩
        refine stepsP.cons (fun vals R hpZ => ?_) ?_
        · rw [(envs_of_sat (l := [(5, (.bool (decide ((((k + 1 : Nat) : Int) : Int) = ((((redL ar rs t)).length : Nat) : Int))) : Value))]) ⟨hpZ 5 (by decide), trivial⟩).symm]
          exact XG.no (t := 24) rfl (congrArg Value.bool (decide_eq_true h2)) ⟨rfl, rfl, rfl⟩
        refine stepsP.cons (fun vals R hpZ => ?_) ?_
        · rw [(envs_of_sat (l := [(5, (.bool (decide ((((k + 1 : Nat) : Int) : Int) = ((((redL ar rs t)).length : Nat) : Int))) : Value))]) ⟨hpZ 5 (by decide), trivial⟩).symm]
          exact XG.no (t := 24) rfl (congrArg Value.bool (decide_eq_true h2)) ⟨rfl, rfl, rfl⟩
        refine stepsP.cons (fun vals R hpZ => ?_) ?_
        · rw [(envs_of_sat (l := [(5, (.bool (decide ((((k + 1 : Nat) : Int) : Int) = ((((redL ar rs t)).length : Nat) : Int))) : Value))]) ⟨hpZ 5 (by decide), trivial⟩).symm]
          exact XG.no (t := 24) rfl (congrArg Value.bool (decide_eq_true h2)) ⟨rfl, rfl, rfl⟩
        refine stepsP.cons (fun vals R hpZ => ?_) ?_
        · rw [(envs_of_sat (l := [(5, (.bool (decide ((((k + 1 : Nat) : Int) : Int) = ((((redL ar rs t)).length : Nat) : Int))) : Value)), (11, undef)]) ⟨hpZ 5 (by decide), hpZ 11 (by decide), trivial⟩).symm]
          exact XG.no (t := 24) rfl (congrArg Value.bool (decide_eq_true h2)) ⟨rfl, rfl, rfl⟩
        refine stepsP.cons (fun vals R hpZ => ?_) ?_
        · rw [(envs_of_sat (l := [(5, (.bool (decide ((((k + 1 : Nat) : Int) : Int) = ((((redL ar rs t)).length : Nat) : Int))) : Value)), (10, undef), (12, undef)]) ⟨hpZ 5 (by decide), hpZ 10 (by decide), hpZ 12 (by decide), trivial⟩).symm]
          exact XG.no (t := 24) rfl (congrArg Value.bool (decide_eq_true h2)) ⟨rfl, rfl, rfl⟩
        refine stepsP.cons (fun vals R hpZ => ?_) ?_
        · rw [(envs_of_sat (l := [(5, (.bool (decide ((((k + 1 : Nat) : Int) : Int) = ((((redL ar rs t)).length : Nat) : Int))) : Value)), (13, undef)]) ⟨hpZ 5 (by decide), hpZ 13 (by decide), trivial⟩).symm]
          exact XG.no (t := 24) rfl (congrArg Value.bool (decide_eq_true h2)) ⟨rfl, rfl, rfl⟩
        exact stepsP.nil
      · intro vals hphi
        have e0 : vals 0 = (.int .i64 (((k : Nat) : Int)) : Value) := hphi 0 (by decide)
        have e1 : vals 1 = (.int .i64 (((k + 1 : Nat) : Int)) : Value) := hphi 1 (by decide)
        have e2 : vals 2 = v1 := hphi 2 (by decide)
        have e3 : vals 3 = (.int .i64 (((((redL ar rs t)).length : Nat) : Int)) : Value) := hphi 3 (by decide)
        have e4 : vals 4 = (.bool (decide ((((k + 1 : Nat) : Int) : Int) = ((((redL ar rs t)).length : Nat) : Int))) : Value) := hphi 4 (by decide)
        have e5 : vals 5 = (.bool (decide ((((k + 1 : Nat) : Int) : Int) = ((((redL ar rs t)).length : Nat) : Int))) : Value) := hphi 5 (by decide)
        have e6 : vals 6 = undef := hphi 6 (by decide)
        have e7 : vals 7 = undef := hphi 7 (by decide)
        have e8 : vals 8 = undef := hphi 8 (by decide)
        have e9 : vals 9 = undef := hphi 9 (by decide)
        have e10 : vals 10 = undef := hphi 10 (by decide)
        have e11 : vals 11 = undef := hphi 11 (by decide)
        have e12 : vals 12 = undef := hphi 12 (by decide)
        have e13 : vals 13 = undef := hphi 13 (by decide)
        have e14 : vals 14 = undef := hphi 14 (by decide)
        rw [(envs_of_sat (l := [(0, (.int .i64 (((k : Nat) : Int)) : Value)), (1, (.int .i64 (((k + 1 : Nat) : Int)) : Value)), (2, v1), (3, (.int .i64 (((((redL ar rs t)).length : Nat) : Int)) : Value)), (4, (.bool (decide ((((k + 1 : Nat) : Int) : Int) = ((((redL ar rs t)).length : Nat) : Int))) : Value)), (5, (.bool (decide ((((k + 1 : Nat) : Int) : Int) = ((((redL ar rs t)).length : Nat) : Int))) : Value)), (6, undef), (7, undef), (8, undef), (9, undef), (10, undef), (11, undef), (12, undef), (13, undef), (14, undef)]) ⟨e0, e1, e2, e3, e4, e5, e6, e7, e8, e9, e10, e11, e12, e13, e14, trivial⟩).symm]
        show XL _ _ _ _ _ _ _ (intsH 3 ov os :: cellsH b1 [arv, rsv] 37 :: L)
        refine XL.no (t := 24) rfl (congrArg Value.bool (decide_eq_true h2)) ?_
        refine XL.no (t := 24) rfl (congrArg Value.bool (decide_eq_true h2)) ?_
        refine XL.cons (XOp.pickT (.bool (true)) (congrArg Value.bool (decide_eq_true h2)) rfl ?_)
        refine XL.nil ?_
        refine X.condT rfl ?_
        refine X.region ?_
        refine XL.cons (XOp.move (ov) rfl ?_)
        refine XL.cons (XOp.move (.int .i64 (((redL ar rs t)).getD k 0)) rfl ?_)
        refine XL.cons (XOp.buildSlice (s := 1) [.int .i64 (((redL ar rs t)).getD k 0)] [.int .i64 (0)] [(0, [.int .i64 (((redL ar rs t)).getD k 0)])] Tryz.runUnderlying176 Tryz.sizeOf3 Tryz.zeroValue3 rfl (by decide) rfl (.cons rfl CellsAre.nil) rfl ?_)
        intro v2 hv1
        refine XL.cons (XOp.append1 (u := ((redL ar rs t)).getD k 0) [_] _ Tryz.runUnderlying176 Tryz.typeInfo3 rfl rfl rfl rfl rfl rfl (SlV.own [] rfl) (Rd.sl [] rfl rfl) (by (try simp only [List.length_append, List.length_nil, List.length_cons, List.length_singleton, List.length_take, List.length_drop]); omega) ?_)
        intro v3 hs2 hn1
        refine XL.cons (XOp.assign (v3) rfl ?_)
        refine XL.nil ?_
        refine X.region ?_
        refine XL.cons (XOp.addR (a := ((k : Nat) : Int)) (b := 1) (((k + 1 : Nat) : Int)) rfl rfl (by omega) (by omega) ?_)
        refine XL.cons (XOp.move (.int .i64 (((k + 1 : Nat) : Int))) rfl ?_)
        refine XL.nil ?_
        exact ⟨(k + 1, v3, os ++ [((redL ar rs t)).getD k 0]), _, FLe.refl _, (FLe.refl _), ⟨rfl, rfl, rfl, rfl, rfl, rfl, rfl, trivial⟩, (Sub.drop (Sub.cons (Sub.cons (Sub.refl _)))), ⟨rfl, (hs2), (by (try dsimp only) <;> omega), ((by dsimp only; rw [hos]; first | exact (inTo_yes (by simp only [inOk, decide_eq_true_eq]; omega)).symm | exact (inTo_no (by simp only [inOk, decide_eq_false_iff_not]; omega)).symm))⟩, (by omega)⟩
    · refine X.draw [intsH 3 ov os, cellsH b1 [arv, rsv] 37] L 15 [[], [], [], [], [], [], [], [], [], [], [], [], [], [], []] [[], [0], [], [2], [1, 3], [4], [5], [5, 6], [5], [5], [5], [5], [5, 11], [5, 10, 12], [5, 13]] (phiL [fun us v => v = (.int .i64 (((k : Nat) : Int)) : Value), fun us v => v = (.int .i64 (((k + 1 : Nat) : Int)) : Value), fun us v => v = v1, fun us v => v = (.int .i64 (((((redL ar rs t)).length : Nat) : Int)) : Value), fun us v => v = (.bool (decide ((((k + 1 : Nat) : Int) : Int) = ((((redL ar rs t)).length : Nat) : Int))) : Value), fun us v => v = (.bool (decide ((((k + 1 : Nat) : Int) : Int) = ((((redL ar rs t)).length : Nat) : Int))) : Value), fun us v => v = ptr b1 0, fun us v => v = (.agg #[arv] : Value), fun us v => v = tv, fun us v => v = (.int .i64 (((redL ar rs t)).getD k 0) : Value), fun us v => v = v1, fun us v => v = (.int .i64 (((k : Nat) : Int)) : Value), fun us v => v = (.int .i64 (((k + 1 : Nat) : Int)) : Value), fun us v => v = (.pointer (some (elemA v1 (k + 1))) : Value), fun us v => v = (.int .i64 (((redL ar rs t)).getD (k + 1) 0) : Value)]) (ownL [fun us v => [], fun us v => [], fun us v => [], fun us v => [], fun us v => [], fun us v => [], fun us v => [], fun us v => [], fun us v => [], fun us v => [], fun us v => [], fun us v => [], fun us v => [], fun us v => [], fun us v => []]) mixed rfl rfl (by kernel_rfl) ?_ ?_
      · refine stepsP.cons (fun vals R hpZ => ?_) ?_
        · refine XG.op (XOp.move (.int .i64 (((k : Nat) : Int))) rfl ?_)
          exact ⟨rfl, rfl, rfl⟩
        refine stepsP.cons (fun vals R hpZ => ?_) ?_
        · rw [(envs_of_sat (l := [(0, (.int .i64 (((k : Nat) : Int)) : Value))]) ⟨hpZ 0 (by decide), trivial⟩).symm]
          refine XG.op (XOp.addR (a := ((k : Nat) : Int)) (b := 1) (((k + 1 : Nat) : Int)) rfl rfl (by omega) (by omega) ?_)
          exact ⟨rfl, rfl, rfl⟩
        refine stepsP.cons (fun vals R hpZ => ?_) ?_
        · refine XG.op (XOp.move (v1) rfl ?_)
          exact ⟨rfl, rfl, rfl⟩
        refine stepsP.cons (fun vals R hpZ => ?_) ?_
        · rw [(envs_of_sat (l := [(2, v1)]) ⟨hpZ 2 (by decide), trivial⟩).symm]
          refine XG.op (XOp.lenS (v := v1) (n := ((redL ar rs t)).length) Tryz.runUnderlying176 rfl hf1.slv ?_)
          exact ⟨rfl, rfl, rfl⟩
        refine stepsP.cons (fun vals R hpZ => ?_) ?_
        · rw [(envs_of_sat (l := [(1, (.int .i64 (((k + 1 : Nat) : Int)) : Value)), (3, (.int .i64 (((((redL ar rs t)).length : Nat) : Int)) : Value))]) ⟨hpZ 1 (by decide), hpZ 3 (by decide), trivial⟩).symm]
          refine XG.op (XOp.eql (a := ((k + 1 : Nat) : Int)) (b := ((((redL ar rs t)).length : Nat) : Int)) rfl rfl ?_)
          exact ⟨rfl, rfl, rfl⟩
        refine stepsP.cons (fun vals R hpZ => ?_) ?_
        · rw [(envs_of_sat (l := [(4, (.bool (decide ((((k + 1 : Nat) : Int) : Int) = ((((redL ar rs t)).length : Nat) : Int))) : Value))]) ⟨hpZ 4 (by decide), trivial⟩).symm]
          refine XG.op (XOp.move (.bool (decide ((((k + 1 : Nat) : Int) : Int) = ((((redL ar rs t)).length : Nat) : Int)))) rfl ?_)
          exact ⟨rfl, rfl, rfl⟩
        refine stepsP.cons (fun vals R hpZ => ?_) ?_
        · rw [(envs_of_sat (l := [(5, (.bool (decide ((((k + 1 : Nat) : Int) : Int) = ((((redL ar rs t)).length : Nat) : Int))) : Value))]) ⟨hpZ 5 (by decide), trivial⟩).symm]
          refine XG.yes (t := 24) rfl (congrArg Value.bool (decide_eq_false h2)) (XOp.fieldP (b := b1) (0) Tryz.runUnderlying37 rfl Tryz.sizeOf34 (by decide) rfl rfl ?_)
          exact ⟨rfl, rfl, rfl⟩
        refine stepsP.cons (fun vals R hpZ => ?_) ?_
        · rw [(envs_of_sat (l := [(5, (.bool (decide ((((k + 1 : Nat) : Int) : Int) = ((((redL ar rs t)).length : Nat) : Int))) : Value)), (6, ptr b1 0)]) ⟨hpZ 5 (by decide), hpZ 6 (by decide), trivial⟩).symm]
          refine XG.yes (t := 24) rfl (congrArg Value.bool (decide_eq_false h2)) (XOp.loadN [arv] Tryz.isAgg34 Tryz.sizeOf34 rfl rfl (Rd.ownN [_] rfl rfl) ?_)
          exact ⟨rfl, rfl, rfl⟩
        refine stepsP.cons (fun vals R hpZ => ?_) ?_
        · rw [(envs_of_sat (l := [(5, (.bool (decide ((((k + 1 : Nat) : Int) : Int) = ((((redL ar rs t)).length : Nat) : Int))) : Value))]) ⟨hpZ 5 (by decide), trivial⟩).symm]
          refine XG.yes (t := 24) rfl (congrArg Value.bool (decide_eq_false h2)) (XOp.move (tv) rfl ?_)
          exact ⟨rfl, rfl, rfl⟩
        refine stepsP.cons (fun vals R hpZ => ?_) ?_
        · rw [(envs_of_sat (l := [(5, (.bool (decide ((((k + 1 : Nat) : Int) : Int) = ((((redL ar rs t)).length : Nat) : Int))) : Value))]) ⟨hpZ 5 (by decide), trivial⟩).symm]
          refine XG.yes (t := 24) rfl (congrArg Value.bool (decide_eq_false h2)) (XOp.move (.int .i64 (((redL ar rs t)).getD k 0)) rfl ?_)
          exact ⟨rfl, rfl, rfl⟩
        refine stepsP.cons (fun vals R hpZ => ?_) ?_
        · rw [(envs_of_sat (l := [(5, (.bool (decide ((((k + 1 : Nat) : Int) : Int) = ((((redL ar rs t)).length : Nat) : Int))) : Value))]) ⟨hpZ 5 (by decide), trivial⟩).symm]
          refine XG.yes (t := 24) rfl (congrArg Value.bool (decide_eq_false h2)) (XOp.move (v1) rfl ?_)
          exact ⟨rfl, rfl, rfl⟩
        refine stepsP.cons (fun vals R hpZ => ?_) ?_
        · rw [(envs_of_sat (l := [(5, (.bool (decide ((((k + 1 : Nat) : Int) : Int) = ((((redL ar rs t)).length : Nat) : Int))) : Value))]) ⟨hpZ 5 (by decide), trivial⟩).symm]
          refine XG.yes (t := 24) rfl (congrArg Value.bool (decide_eq_false h2)) (XOp.move (.int .i64 (((k : Nat) : Int))) rfl ?_)
          exact ⟨rfl, rfl, rfl⟩
        refine stepsP.cons (fun vals R hpZ => ?_) ?_
        · rw [(envs_of_sat (l := [(5, (.bool (decide ((((k + 1 : Nat) : Int) : Int) = ((((redL ar rs t)).length : Nat) : Int))) : Value)), (11, (.int .i64 (((k : Nat) : Int)) : Value))]) ⟨hpZ 5 (by decide), hpZ 11 (by decide), trivial⟩).symm]
          refine XG.yes (t := 24) rfl (congrArg Value.bool (decide_eq_false h2)) (XOp.addR (a := ((k : Nat) : Int)) (b := 1) (((k + 1 : Nat) : Int)) rfl rfl (by omega) (by omega) ?_)
          exact ⟨rfl, rfl, rfl⟩
        refine stepsP.cons (fun vals R hpZ => ?_) ?_
        · rw [(envs_of_sat (l := [(5, (.bool (decide ((((k + 1 : Nat) : Int) : Int) = ((((redL ar rs t)).length : Nat) : Int))) : Value)), (10, v1), (12, (.int .i64 (((k + 1 : Nat) : Int)) : Value))]) ⟨hpZ 5 (by decide), hpZ 10 (by decide), hpZ 12 (by decide), trivial⟩).symm]
          refine XG.yes (t := 24) rfl (congrArg Value.bool (decide_eq_false h2)) (XOp.indexS (v := v1) (i := ((k + 1 : Nat) : Int)) (n := ((redL ar rs t)).length) (k + 1) Tryz.runUnderlying176 Tryz.sizeOf3 rfl rfl rfl hf1.slv (by omega) (Nat.mul_one _) ?_)
          exact ⟨rfl, rfl, rfl⟩
        refine stepsP.cons (fun vals R hpZ => ?_) ?_
        · rw [(envs_of_sat (l := [(5, (.bool (decide ((((k + 1 : Nat) : Int) : Int) = ((((redL ar rs t)).length : Nat) : Int))) : Value)), (13, (.pointer (some (elemA v1 (k + 1))) : Value))]) ⟨hpZ 5 (by decide), hpZ 13 (by decide), trivial⟩).symm]
          refine XG.yes (t := 24) rfl (congrArg Value.bool (decide_eq_false h2)) (XOp.load1 (v := .int .i64 (((redL ar rs t)).getD (k + 1) 0)) Tryz.isAgg3 rfl (hf1.rd (by omega)) ?_)
          exact ⟨rfl, rfl, rfl⟩
        exact stepsP.nil
      · intro vals hphi
        have e0 : vals 0 = (.int .i64 (((k : Nat) : Int)) : Value) := hphi 0 (by decide)
        have e1 : vals 1 = (.int .i64 (((k + 1 : Nat) : Int)) : Value) := hphi 1 (by decide)
        have e2 : vals 2 = v1 := hphi 2 (by decide)
        have e3 : vals 3 = (.int .i64 (((((redL ar rs t)).length : Nat) : Int)) : Value) := hphi 3 (by decide)
        have e4 : vals 4 = (.bool (decide ((((k + 1 : Nat) : Int) : Int) = ((((redL ar rs t)).length : Nat) : Int))) : Value) := hphi 4 (by decide)
        have e5 : vals 5 = (.bool (decide ((((k + 1 : Nat) : Int) : Int) = ((((redL ar rs t)).length : Nat) : Int))) : Value) := hphi 5 (by decide)
        have e6 : vals 6 = ptr b1 0 := hphi 6 (by decide)
        have e7 : vals 7 = (.agg #[arv] : Value) := hphi 7 (by decide)
        have e8 : vals 8 = tv := hphi 8 (by decide)
        have e9 : vals 9 = (.int .i64 (((redL ar rs t)).getD k 0) : Value) := hphi 9 (by decide)
        have e10 : vals 10 = v1 := hphi 10 (by decide)
        have e11 : vals 11 = (.int .i64 (((k : Nat) : Int)) : Value) := hphi 11 (by decide)
        have e12 : vals 12 = (.int .i64 (((k + 1 : Nat) : Int)) : Value) := hphi 12 (by decide)
        have e13 : vals 13 = (.pointer (some (elemA v1 (k + 1))) : Value) := hphi 13 (by decide)
        have e14 : vals 14 = (.int .i64 (((redL ar rs t)).getD (k + 1) 0) : Value) := hphi 14 (by decide)
        rw [(envs_of_sat (l := [(0, (.int .i64 (((k : Nat) : Int)) : Value)), (1, (.int .i64 (((k + 1 : Nat) : Int)) : Value)), (2, v1), (3, (.int .i64 (((((redL ar rs t)).length : Nat) : Int)) : Value)), (4, (.bool (decide ((((k + 1 : Nat) : Int) : Int) = ((((redL ar rs t)).length : Nat) : Int))) : Value)), (5, (.bool (decide ((((k + 1 : Nat) : Int) : Int) = ((((redL ar rs t)).length : Nat) : Int))) : Value)), (6, ptr b1 0), (7, (.agg #[arv] : Value)), (8, tv), (9, (.int .i64 (((redL ar rs t)).getD k 0) : Value)), (10, v1), (11, (.int .i64 (((k : Nat) : Int)) : Value)), (12, (.int .i64 (((k + 1 : Nat) : Int)) : Value)), (13, (.pointer (some (elemA v1 (k + 1))) : Value)), (14, (.int .i64 (((redL ar rs t)).getD (k + 1) 0) : Value))]) ⟨e0, e1, e2, e3, e4, e5, e6, e7, e8, e9, e10, e11, e12, e13, e14, trivial⟩).symm]
        show XL _ _ _ _ _ _ _ (intsH 3 ov os :: cellsH b1 [arv, rsv] 37 :: L)
        refine XL.yes (t := 24) rfl (congrArg Value.bool (decide_eq_false h2)) (XOp.call (args := [.agg #[arv], tv, .int .i64 (((((redL ar rs t)).getD k 0).toNat : Nat) : Int), .int .i64 (((redL ar rs t)).getD (k + 1) 0)]) Tryz.call183 (by rw [show (((((redL ar rs t)).getD k 0).toNat : Nat) : Int) = ((redL ar rs t)).getD k 0 from by omega]; rfl) (inside_spec (p := (((redL ar rs t)).getD k 0).toNat) (q := ((redL ar rs t)).getD (k + 1) 0) har ht (ho := (by first | assumption | rfl | omega | (left; simp; done) | (right; simp; done))) (hp := (by first | assumption | rfl | omega | (left; simp; done) | (right; simp; done)))) ?_)
        rintro _ _ _ _ ⟨rfl, rfl, rfl⟩
        refine XL.yes (t := 24) rfl (congrArg Value.bool (decide_eq_false h2)) (XOp.notD (p := (((((redL ar rs t)).getD k 0).toNat) : Int) ≤ (((redL ar rs t)).getD (k + 1) 0) ∧ (((redL ar rs t)).getD (k + 1) 0) < (endN ar t ((((redL ar rs t)).getD k 0).toNat) : Int)) rfl ?_)
        refine XL.cons (XOp.pickF (.bool (decide (¬((((((redL ar rs t)).getD k 0).toNat) : Int) ≤ (((redL ar rs t)).getD (k + 1) 0) ∧ (((redL ar rs t)).getD (k + 1) 0) < (endN ar t ((((redL ar rs t)).getD k 0).toNat) : Int))))) (congrArg Value.bool (decide_eq_false h2)) rfl ?_)
        refine XL.nil ?_
        refine X.condD (p := ¬((((((redL ar rs t)).getD k 0).toNat) : Int) ≤ (((redL ar rs t)).getD (k + 1) 0) ∧ (((redL ar rs t)).getD (k + 1) 0) < (endN ar t ((((redL ar rs t)).getD k 0).toNat) : Int))) rfl (fun h3 => ?_) (fun h3 => ?_)
        · refine X.region ?_
          refine XL.cons (XOp.move (ov) rfl ?_)
          refine XL.cons (XOp.move (.int .i64 (((redL ar rs t)).getD k 0)) rfl ?_)
          refine XL.cons (XOp.buildSlice (s := 1) [.int .i64 (((redL ar rs t)).getD k 0)] [.int .i64 (0)] [(0, [.int .i64 (((redL ar rs t)).getD k 0)])] Tryz.runUnderlying176 Tryz.sizeOf3 Tryz.zeroValue3 rfl (by decide) rfl (.cons rfl CellsAre.nil) rfl ?_)
          intro v4 hv2
          refine XL.cons (XOp.append1 (u := ((redL ar rs t)).getD k 0) [_] _ Tryz.runUnderlying176 Tryz.typeInfo3 rfl rfl rfl rfl rfl rfl (SlV.own [] rfl) (Rd.sl [] rfl rfl) (by (try simp only [List.length_append, List.length_nil, List.length_cons, List.length_singleton, List.length_take, List.length_drop]); omega) ?_)
          intro v5 hs3 hn2
          refine XL.cons (XOp.assign (v5) rfl ?_)
          refine XL.nil ?_
          refine X.region ?_
          refine XL.cons (XOp.addR (a := ((k : Nat) : Int)) (b := 1) (((k + 1 : Nat) : Int)) rfl rfl (by omega) (by omega) ?_)
          refine XL.cons (XOp.move (.int .i64 (((k + 1 : Nat) : Int))) rfl ?_)
          refine XL.nil ?_
          exact ⟨(k + 1, v5, os ++ [((redL ar rs t)).getD k 0]), _, FLe.refl _, (FLe.refl _), ⟨rfl, rfl, rfl, rfl, rfl, rfl, rfl, trivial⟩, (Sub.drop (Sub.cons (Sub.cons (Sub.refl _)))), ⟨rfl, (hs3), (by (try dsimp only) <;> omega), ((by dsimp only; rw [hos]; first | exact (inTo_yes (by simp only [inOk, decide_eq_true_eq]; omega)).symm | exact (inTo_no (by simp only [inOk, decide_eq_false_iff_not]; omega)).symm))⟩, (by omega)⟩
        · refine X.skip ?_
          refine X.region ?_
          refine XL.cons (XOp.addR (a := ((k : Nat) : Int)) (b := 1) (((k + 1 : Nat) : Int)) rfl rfl (by omega) (by omega) ?_)
          refine XL.cons (XOp.move (.int .i64 (((k + 1 : Nat) : Int))) rfl ?_)
          refine XL.nil ?_
          exact ⟨(k + 1, ov, os), _, FLe.refl _, (FLe.refl _), ⟨rfl, rfl, rfl, rfl, rfl, rfl, rfl, trivial⟩, (Sub.cons (Sub.cons (Sub.refl _))), ⟨rfl, (hov), (by (try dsimp only) <;> omega), ((by dsimp only; rw [hos]; first | exact (inTo_yes (by simp only [inOk, decide_eq_true_eq]; omega)).symm | exact (inTo_no (by simp only [inOk, decide_eq_false_iff_not]; omega)).symm))⟩, (by omega)⟩
  · refine X.exit (thenQ_exit (thenQ_exit (blockQ_exit ?_)))
    refine X.seq ?_
    refine X.region ?_
    refine XL.cons (XOp.move (ov) rfl ?_)
    refine XL.cons (XOp.assign (ov) rfl ?_)
    refine XL.nil ?_
    refine X.ret (retEnd (L' := intsH 3 ov os :: L) [ov] (ov) (.tmp rfl .nil) rfl (FLe.refl _) le1 (Sub.cons (Sub.drop (Sub.refl _))) ?_)
    refine ⟨rfl, hov, ?_⟩
    have hxs : (inL ar rs t : List Int) = os := by rw [hos, inL, show k = (redL ar rs t).length from by omega]
    exact congrArg (fun z => intsH 3 _ z :: L) hxs

/- (impl.choice).inmost -/
theorem chIn_spec {F : FH} {L : List HP} {arv : Value} {ar : List Int} (har : IntsF F arv ar) {rsv : Value} {rs : List (List Int × List Int)} (hrs : PairsF F rsv rs) {tv : Value} {t : List Int} (ht : IntsF F tv t) {allv : Value} {all : List Int} (hall : IntsF F allv all) (hsys : sysOk ar rs = true) (ho : termOk ar t = true) (hae : all = redL ar rs t) (hne : redL ar rs t ≠ []) :
    Does Tryz.prog 153 [.agg #[arv, rsv, tv, allv]] F (L) (fun v F' L' => (.int .i64 ((inL ar rs t).getD 0 0) : Value) = v ∧ F = F' ∧ L = L') := by
  refine Does.of_X Tryz.func153 rfl rfl rfl ?_
  have hnn := notNil_of_pos ht (by have := termOk_len ho; omega)
  have htl := termOk_len ho
  have hrl := (sysOk_iff.1 hsys).2.1
  have hsig := (sysOk_iff.1 hsys).1
  have hsl := sigOk_spec hsig
  have hrd := redL_len (ar := ar) (rs := rs) (t := t)
  have hipos := inL_pos hne
  have hapos : 0 < all.length := by rw [hae]; exact List.length_pos_iff.2 hne
  refine X.seq ?_
  refine X.region ?_
  refine XL.cons (XOp.box [arv, rsv, tv, allv] rfl rfl ?_)
  intro b1
  refine XL.cons (XOp.assign (.int .i64 (0)) rfl ?_)
  refine XL.nil ?_
  refine X.seq ?_
  refine X.region ?_
  refine XL.cons (XOp.fieldP (b := b1) (0) Tryz.runUnderlying179 rfl Tryz.sizeOf37 (by decide) rfl rfl ?_)
  refine XL.cons (XOp.loadN [arv, rsv] Tryz.isAgg37 Tryz.sizeOf37 rfl rfl (Rd.ownN [] rfl rfl) ?_)
  refine XL.cons (XOp.fieldP (b := b1) (2) Tryz.runUnderlying179 rfl Tryz.sizeOf22 (by decide) rfl rfl ?_)
  refine XL.cons (XOp.load1 (v := tv) Tryz.isAgg22 rfl (Rd.own [] rfl rfl) ?_)
  refine XL.cons (XOp.frzF <| XOp.call (args := [.agg #[arv, rsv], tv]) Tryz.call174 rfl (inmost_spec har hrs ht (hsys := (by first | assumption | rfl | omega | (left; simp; done) | (right; simp; done))) (ho := (by first | assumption | rfl | omega | (left; simp; done) | (right; simp; done)))) ?_)
  rintro v1 _ _ _ ⟨rfl, hs1, rfl⟩
  refine ⟨_, _, rfl, fun F1 le1 hz1 => ?_⟩
  replace har := har.mono le1
  replace hrs := hrs.mono le1
  replace ht := ht.mono le1
  replace hall := hall.mono le1
  have hf1 : IntsF F1 v1 ((inL ar rs t)) := intsH.fz (xs := (inL ar rs t)) hz1.fz
  refine XL.cons (XOp.indexS (v := v1) (i := 0) (n := ((inL ar rs t)).length) 0 Tryz.runUnderlying176 Tryz.sizeOf3 rfl rfl rfl hf1.slv (by omega) (Nat.mul_one _) ?_)
  refine XL.cons (XOp.load1 (v := .int .i64 (((inL ar rs t)).getD 0 0)) Tryz.isAgg3 rfl (hf1.rd (by omega)) ?_)
  refine XL.cons (XOp.assign (.int .i64 (((inL ar rs t)).getD 0 0)) rfl ?_)
  refine XL.nil ?_
  refine X.ret (retEnd (L' := L) [.int .i64 (((inL ar rs t)).getD 0 0)] (.int .i64 (((inL ar rs t)).getD 0 0)) (.tmp rfl .nil) rfl (FLe.refl _) le1 (Sub.drop (Sub.refl _)) ?_)
  exact ⟨rfl, rfl, rfl⟩

/- (impl.choice).outmost -/
theorem chOut_spec {F : FH} {L : List HP} {arv : Value} {ar : List Int} (har : IntsF F arv ar) {rsv : Value} {rs : List (List Int × List Int)} (hrs : PairsF F rsv rs) {tv : Value} {t : List Int} (ht : IntsF F tv t) {allv : Value} {all : List Int} (hall : IntsF F allv all) (hsys : sysOk ar rs = true) (ho : termOk ar t = true) (hae : all = redL ar rs t) (hne : redL ar rs t ≠ []) :
    Does Tryz.prog 154 [.agg #[arv, rsv, tv, allv]] F (L) (fun v F' L' => (.int .i64 ((redL ar rs t).getD 0 0) : Value) = v ∧ F = F' ∧ L = L') := by
  refine Does.of_X Tryz.func154 rfl rfl rfl ?_
  have hnn := notNil_of_pos ht (by have := termOk_len ho; omega)
  have htl := termOk_len ho
  have hrl := (sysOk_iff.1 hsys).2.1
  have hsig := (sysOk_iff.1 hsys).1
  have hsl := sigOk_spec hsig
  have hrd := redL_len (ar := ar) (rs := rs) (t := t)
  have hipos := inL_pos hne
  have hapos : 0 < all.length := by rw [hae]; exact List.length_pos_iff.2 hne
  refine X.seq ?_
  refine X.region ?_
  refine XL.cons (XOp.box [arv, rsv, tv, allv] rfl rfl ?_)
  intro b1
  refine XL.cons (XOp.assign (.int .i64 (0)) rfl ?_)
  refine XL.nil ?_
  refine X.seq ?_
  refine X.region ?_
  refine XL.cons (XOp.fieldP (b := b1) (3) Tryz.runUnderlying179 rfl Tryz.sizeOf176 (by decide) rfl rfl ?_)
  refine XL.cons (XOp.load1 (v := allv) Tryz.isAgg176 rfl (Rd.own [] rfl rfl) ?_)
  refine XL.cons (XOp.indexS (v := allv) (i := 0) (n := (all).length) 0 Tryz.runUnderlying176 Tryz.sizeOf3 rfl rfl rfl hall.slv (by omega) (Nat.mul_one _) ?_)
  refine XL.cons (XOp.load1 (v := .int .i64 (all.getD 0 0)) Tryz.isAgg3 rfl (hall.rd (by omega)) ?_)
  refine XL.cons (XOp.assign (.int .i64 (all.getD 0 0)) rfl ?_)
  refine XL.nil ?_
  refine X.ret (retEnd (L' := L) [.int .i64 (all.getD 0 0)] (.int .i64 (all.getD 0 0)) (.tmp rfl .nil) rfl (FLe.refl _) (FLe.refl _) (Sub.drop (Sub.refl _)) ?_)
  exact ⟨(congrArg (Value.int .i64) (by rw [hae])), rfl, rfl⟩

/- (impl.choice).last -/
theorem chLast_spec {F : FH} {L : List HP} {arv : Value} {ar : List Int} (har : IntsF F arv ar) {rsv : Value} {rs : List (List Int × List Int)} (hrs : PairsF F rsv rs) {tv : Value} {t : List Int} (ht : IntsF F tv t) {allv : Value} {all : List Int} (hall : IntsF F allv all) (hsys : sysOk ar rs = true) (ho : termOk ar t = true) (hae : all = redL ar rs t) (hne : redL ar rs t ≠ []) :
    Does Tryz.prog 155 [.agg #[arv, rsv, tv, allv]] F (L) (fun v F' L' => (.int .i64 ((redL ar rs t).getD ((redL ar rs t).length - 1) 0) : Value) = v ∧ F = F' ∧ L = L') := by
  refine Does.of_X Tryz.func155 rfl rfl rfl ?_
  have hnn := notNil_of_pos ht (by have := termOk_len ho; omega)
  have htl := termOk_len ho
  have hrl := (sysOk_iff.1 hsys).2.1
  have hsig := (sysOk_iff.1 hsys).1
  have hsl := sigOk_spec hsig
  have hrd := redL_len (ar := ar) (rs := rs) (t := t)
  have hipos := inL_pos hne
  have hapos : 0 < all.length := by rw [hae]; exact List.length_pos_iff.2 hne
  have hal2 : all.length ≤ 60 := by rw [hae]; omega
  refine X.seq ?_
  refine X.region ?_
  refine XL.cons (XOp.box [arv, rsv, tv, allv] rfl rfl ?_)
  intro b1
  refine XL.cons (XOp.assign (.int .i64 (0)) rfl ?_)
  refine XL.nil ?_
  refine X.seq ?_
  refine X.region ?_
  refine XL.cons (XOp.fieldP (b := b1) (3) Tryz.runUnderlying179 rfl Tryz.sizeOf176 (by decide) rfl rfl ?_)
  refine XL.cons (XOp.load1 (v := allv) Tryz.isAgg176 rfl (Rd.own [] rfl rfl) ?_)
  refine XL.cons (XOp.fieldP (b := b1) (3) Tryz.runUnderlying179 rfl Tryz.sizeOf176 (by decide) rfl rfl ?_)
  refine XL.cons (XOp.load1 (v := allv) Tryz.isAgg176 rfl (Rd.own [] rfl rfl) ?_)
  refine XL.cons (XOp.lenS (v := allv) (n := (all).length) Tryz.runUnderlying176 rfl hall.slv ?_)
  refine XL.cons (XOp.subR (a := (((all).length : Nat) : Int)) (b := 1) (((((all).length : Nat) : Int)) - 1) rfl rfl (by omega) (by omega) ?_)
  refine XL.cons (XOp.indexS (v := allv) (i := ((((all).length : Nat) : Int)) - 1) (n := (all).length) ((((((all).length : Nat) : Int)) - 1).toNat) Tryz.runUnderlying176 Tryz.sizeOf3 rfl rfl (by omega) hall.slv (by omega) (Nat.mul_one _) ?_)
  refine XL.cons (XOp.load1 (v := .int .i64 (all.getD ((((((all).length : Nat) : Int)) - 1).toNat) 0)) Tryz.isAgg3 rfl (hall.rd (by omega)) ?_)
  refine XL.cons (XOp.assign (.int .i64 (all.getD ((((((all).length : Nat) : Int)) - 1).toNat) 0)) rfl ?_)
  refine XL.nil ?_
  refine X.ret (retEnd (L' := L) [.int .i64 (all.getD ((((((all).length : Nat) : Int)) - 1).toNat) 0)] (.int .i64 (all.getD ((((((all).length : Nat) : Int)) - 1).toNat) 0)) (.tmp rfl .nil) rfl (FLe.refl _) (FLe.refl _) (Sub.drop (Sub.refl _)) ?_)
  exact ⟨(congrArg (Value.int .i64) (by rw [hae]; congr 1; omega)), rfl, rfl⟩

/- impl.pick -/
theorem pick1_spec {F : FH} {L : List HP} {arv : Value} {ar : List Int} (har : IntsF F arv ar) {rsv : Value} {rs : List (List Int × List Int)} (hrs : PairsF F rsv rs) {tv : Value} {t : List Int} (ht : IntsF F tv t)  (hsys : sysOk ar rs = true) (ho : termOk ar t = true) :
    Does Tryz.prog 112 [.agg #[arv, rsv], tv, .int .i64 (1)] F (L) (fun v F' L' => (.int .i64 (pickL ar rs t 1) : Value) = v ∧ F = F' ∧ L = L') := by
  refine Does.of_X Tryz.func112 rfl rfl rfl ?_
  have hnn := notNil_of_pos ht (by have := termOk_len ho; omega)
  have htl := termOk_len ho
  have hrl := (sysOk_iff.1 hsys).2.1
  have hsig := (sysOk_iff.1 hsys).1
  have hsl := sigOk_spec hsig
  have hrd := redL_len (ar := ar) (rs := rs) (t := t)
  refine X.seq ?_
  refine X.region ?_
  refine XL.cons (XOp.box [arv, rsv] rfl rfl ?_)
  intro b1
  refine XL.cons (XOp.assign (.int .i64 (0)) rfl ?_)
  refine XL.nil ?_
  refine X.seq ?_
  refine X.drawG [cellsH b1 [arv, rsv] 37] L 7 [[], [], [], [], [], [4], []] [[], [], [], [], [2, 3], [0, 1, 4], []] [[], [], [], [], [], [], []] (phiG [fun FF us v => v = (.agg #[arv, rsv] : Value), fun FF us v => v = tv, fun FF us v => v = (.agg #[arv, rsv] : Value), fun FF us v => v = tv, fun FF us v => ((v) : Value) = v ∧ (IntsF FF (v) (redL ar rs t)), fun FF us v => v = (.agg #[arv, rsv, tv, ((us.getD 0 undef))] : Value), fun FF us v => v = ptr (blk v) 0]) (ownL [fun us v => [], fun us v => [], fun us v => [], fun us v => [], fun us v => [], fun us v => [], fun us v => [cellsH (blk v) [(.slice none 0 0), (.slice none 0 0), (.slice none 0 0), (.slice none 0 0)] 179]]) mixed rfl rfl (by kernel_rfl) (by kernel_rfl) (MonoG.get (MonoG.cons (fun le h => h) (MonoG.cons (fun le h => h) (MonoG.cons (fun le h => h) (MonoG.cons (fun le h => h) (MonoG.cons (fun le h => ⟨h.1, h.2.mono le⟩) (MonoG.cons (fun le h => h) (MonoG.cons (fun le h => h) MonoG.nil)))))))) ?_ ?_
  · refine stepsG.cons (fun vals Fs R leFs hpZ => ?_) ?_
    · replace har := har.mono leFs
      replace hrs := hrs.mono leFs
      replace ht := ht.mono leFs
      refine XG.op (XOp.loadN [arv, rsv] Tryz.isAgg37 Tryz.sizeOf37 rfl rfl (Rd.ownN [] rfl rfl) ?_)
      exact ⟨rfl, rfl⟩
    refine stepsG.cons (fun vals Fs R leFs hpZ => ?_) ?_
    · refine XG.op (XOp.move (tv) rfl ?_)
      exact ⟨rfl, rfl⟩
    refine stepsG.cons (fun vals Fs R leFs hpZ => ?_) ?_
    · replace har := har.mono leFs
      replace hrs := hrs.mono leFs
      replace ht := ht.mono leFs
      refine XG.op (XOp.loadN [arv, rsv] Tryz.isAgg37 Tryz.sizeOf37 rfl rfl (Rd.ownN [] rfl rfl) ?_)
      exact ⟨rfl, rfl⟩
    refine stepsG.cons (fun vals Fs R leFs hpZ => ?_) ?_
    · refine XG.op (XOp.move (tv) rfl ?_)
      exact ⟨rfl, rfl⟩
    refine stepsG.cons (fun vals Fs R leFs hpZ => ?_) ?_
    · have e2 : vals 2 = (.agg #[arv, rsv] : Value) := hpZ 2 (by decide)
      have e3 : vals 3 = tv := hpZ 3 (by decide)
      replace har := har.mono leFs
      replace hrs := hrs.mono leFs
      replace ht := ht.mono leFs
      rw [(envs_of_sat (l := [(2, (.agg #[arv, rsv] : Value)), (3, tv)]) ⟨e2, e3, trivial⟩).symm]
      refine XG.op (XOp.frzF <| XOp.call (args := [.agg #[arv, rsv], tv]) Tryz.call152 rfl (redexes_spec har hrs ht (hsys := (by first | assumption | rfl | omega | (left; simp; done) | (right; simp; done))) (ho := (by first | assumption | rfl | omega | (left; simp; done) | (right; simp; done)))) ?_)
      rintro v2 _ _ _ ⟨rfl, hs2, rfl⟩
      refine ⟨_, _, rfl, fun F1 le1 hz1 => ?_⟩
      replace har := har.mono le1
      replace hrs := hrs.mono le1
      replace ht := ht.mono le1
      have hf1 : IntsF F1 v2 ((redL ar rs t)) := intsH.fz (xs := (redL ar rs t)) hz1.fz
      exact ⟨⟨rfl, hf1⟩, rfl⟩
    refine stepsG.cons (fun vals Fs R leFs hpZ => ?_) ?_
    · have e0 : vals 0 = (.agg #[arv, rsv] : Value) := hpZ 0 (by decide)
      have e1 : vals 1 = tv := hpZ 1 (by decide)
      obtain ⟨e4, f4_1ha⟩ := hpZ 4 (by decide)
      replace har := har.mono leFs
      replace hrs := hrs.mono leFs
      replace ht := ht.mono leFs
      rw [(envs_of_sat (l := [(0, (.agg #[arv, rsv] : Value)), (1, tv), (4, ((vals 4)))]) ⟨e0, e1, (e4).symm, trivial⟩).symm]
      refine XG.op (XOp.build [arv, rsv, tv, ((vals 4))] [(.slice none 0 0), (.slice none 0 0), (.slice none 0 0), (.slice none 0 0)] [(0, 2), (2, 1), (3, 1)] [(0, [arv, rsv]), (1, [tv]), (2, [((vals 4))])] Tryz.runUnderlying179 Tryz.zeroValue179 rfl (.cons rfl Tryz.sizeOf37 (.cons rfl Tryz.sizeOf22 (.cons rfl Tryz.sizeOf176 PlacesAre.nil))) rfl (.cons rfl (.cons (cells_one (IntsF.isSl ht)) (.cons (cells_one (IntsF.isSl f4_1ha)) CellsAre.nil))) ?_)
      exact ⟨rfl, rfl⟩
    refine stepsG.cons (fun vals Fs R leFs hpZ => ?_) ?_
    · replace har := har.mono leFs
      replace hrs := hrs.mono leFs
      replace ht := ht.mono leFs
      refine XG.op (XOp.alloc [(.slice none 0 0), (.slice none 0 0), (.slice none 0 0), (.slice none 0 0)] Tryz.zeroValue179 rfl ?_)
      intro b3
      exact ⟨rfl, rfl⟩
    exact stepsG.nil
  · intro vals F2 le2 hphi
    have e0 : vals 0 = (.agg #[arv, rsv] : Value) := hphi 0 (by decide)
    have e1 : vals 1 = tv := hphi 1 (by decide)
    have e2 : vals 2 = (.agg #[arv, rsv] : Value) := hphi 2 (by decide)
    have e3 : vals 3 = tv := hphi 3 (by decide)
    obtain ⟨e4, f4_1ha⟩ := hphi 4 (by decide)
    have e5 : vals 5 = (.agg #[arv, rsv, tv, ((vals 4))] : Value) := hphi 5 (by decide)
    have e6 : vals 6 = ptr (blk (vals 6)) 0 := hphi 6 (by decide)
    generalize hu1 : ((vals 4)) = u1 at e0 e1 e2 e3 e4 f4_1ha e5 e6
    generalize hu2 : blk (vals 6) = b4 at e0 e1 e2 e3 e4 f4_1ha e5 e6
    rw [(envs_of_sat (l := [(0, (.agg #[arv, rsv] : Value)), (1, tv), (2, (.agg #[arv, rsv] : Value)), (3, tv), (4, u1), (5, (.agg #[arv, rsv, tv, u1] : Value)), (6, ptr b4 0)]) ⟨e0, e1, e2, e3, hu1, e5, e6, trivial⟩).symm]
    replace har := har.mono le2
    replace hrs := hrs.mono le2
    replace ht := ht.mono le2
    show XL _ _ _ _ _ _ _ (cellsH b4 [(.slice none 0 0), (.slice none 0 0), (.slice none 0 0), (.slice none 0 0)] 179 :: cellsH b1 [arv, rsv] 37 :: L)
    refine XL.cons (XOp.storeN (vs := [arv, rsv, tv, u1]) [] _ [arv, rsv, tv, u1] Tryz.sizeOf179 rfl rfl rfl (ones_cons (one_sl (IntsF.isSl har)) (ones_cons (one_sl (PairsF.isSl hrs)) (ones_cons (one_sl (IntsF.isSl ht)) (ones_cons (one_sl (IntsF.isSl f4_1ha)) ones_nil)))) rfl rfl rfl ?_)
    refine XL.nil ?_
    refine X.seq ?_
    refine X.seq ?_
    refine X.region ?_
    refine XL.cons (XOp.fieldP (b := b4) (3) Tryz.runUnderlying179 rfl Tryz.sizeOf176 (by decide) rfl rfl ?_)
    refine XL.cons (XOp.load1 (v := u1) Tryz.isAgg176 rfl (Rd.own [] rfl rfl) ?_)
    refine XL.cons (XOp.lenS (v := u1) (n := ((redL ar rs t)).length) Tryz.runUnderlying176 rfl f4_1ha.slv ?_)
    refine XL.cons (XOp.eql (a := ((((redL ar rs t)).length : Nat) : Int)) (b := 0) rfl rfl ?_)
    refine XL.nil ?_
    refine X.condD (p := (((((redL ar rs t)).length : Nat) : Int) : Int) = 0) rfl (fun h1 => ?_) (fun h1 => ?_)
    · refine X.seq ?_
      refine X.region ?_
      refine XL.cons (XOp.assign (.int .i64 (-1)) rfl ?_)
      refine XL.nil ?_
      refine X.ret (thenQ_ret (retEnd (L' := L) [.int .i64 (-1)] (.int .i64 (-1)) (.tmp rfl .nil) rfl (FLe.refl _) le2 (Sub.drop (Sub.drop (Sub.refl _))) ?_))
      exact ⟨(congrArg (Value.int .i64) (by rw [pickL, if_pos (List.eq_nil_of_length_eq_zero (by omega))])), rfl, rfl⟩
    · have hne : redL ar rs t ≠ [] := by intro e; rw [e] at h1; simp at h1
      refine X.skip ?_
      refine X.seq ?_
      refine X.region ?_
      refine XL.cons (XOp.loadN [arv, rsv, tv, u1] Tryz.isAgg179 Tryz.sizeOf179 rfl rfl (Rd.ownN [] rfl rfl) ?_)
      refine XL.cons (XOp.makeFuncL [.agg #[arv, rsv, tv, u1]] [] rfl rfl ?_)
      refine XL.cons (XOp.loadN [arv, rsv, tv, u1] Tryz.isAgg179 Tryz.sizeOf179 rfl rfl (Rd.ownN [] rfl rfl) ?_)
      refine XL.cons (XOp.makeFuncL [.agg #[arv, rsv, tv, u1]] [] rfl rfl ?_)
      refine XL.cons (XOp.loadN [arv, rsv, tv, u1] Tryz.isAgg179 Tryz.sizeOf179 rfl rfl (Rd.ownN [] rfl rfl) ?_)
      refine XL.cons (XOp.makeFuncL [.agg #[arv, rsv, tv, u1]] [] rfl rfl ?_)
      refine XL.cons (XOp.buildSlice (s := 1) [.func (.func 153) #[.agg #[arv, rsv, tv, u1]] #[], .func (.func 154) #[.agg #[arv, rsv, tv, u1]] #[], .func (.func 155) #[.agg #[arv, rsv, tv, u1]] #[]] [(.nilFunc)] [(0, [.func (.func 153) #[.agg #[arv, rsv, tv, u1]] #[]]), (1, [.func (.func 154) #[.agg #[arv, rsv, tv, u1]] #[]]), (2, [.func (.func 155) #[.agg #[arv, rsv, tv, u1]] #[]])] Tryz.runUnderlying181 Tryz.sizeOf180 Tryz.zeroValue180 rfl (by decide) rfl (.cons rfl (.cons rfl (.cons rfl CellsAre.nil))) rfl ?_)
      intro v3 hv1
      refine XL.cons (XOp.assign (v3) rfl ?_)
      refine XL.nil ?_
      refine X.seq ?_
      refine X.region ?_
      refine XL.cons (XOp.move (v3) rfl ?_)
      refine XL.cons (XOp.move (.int .i64 (1)) rfl ?_)
      refine XL.cons (XOp.subR (a := 1) (b := 1) (0) rfl rfl (by omega) (by omega) ?_)
      refine XL.cons (XOp.indexS (v := v3) (i := 0) (n := 3) 0 Tryz.runUnderlying181 Tryz.sizeOf180 rfl rfl rfl (SlV.own [] rfl) (by omega) (Nat.mul_one _) ?_)
      refine XL.cons (XOp.load1 (v := .func (.func 153) #[.agg #[arv, rsv, tv, u1]] #[]) Tryz.isAgg180 rfl (Rd.sl [] rfl rfl) ?_)
      refine XL.cons (XOp.callV (first := [.agg #[arv, rsv, tv, u1]]) (captured := []) (args := [.agg #[arv, rsv, tv, u1]]) Tryz.call153 rfl rfl (chIn_spec har hrs ht f4_1ha (hsys := (by first | assumption | rfl | omega | (left; simp; done) | (right; simp; done))) (ho := (by first | assumption | rfl | omega | (left; simp; done) | (right; simp; done))) (hae := (rfl)) (hne := (by first | assumption | rfl | omega | (left; simp; done) | (right; simp; done)))) ?_)
      rintro _ _ _ _ ⟨rfl, rfl, rfl⟩
      refine XL.cons (XOp.assign (.int .i64 ((inL ar rs t).getD 0 0)) rfl ?_)
      refine XL.nil ?_
      refine X.ret (retEnd (L' := L) [.int .i64 ((inL ar rs t).getD 0 0)] (.int .i64 ((inL ar rs t).getD 0 0)) (.tmp rfl .nil) rfl (FLe.refl _) le2 (Sub.drop (Sub.drop (Sub.drop (Sub.refl _)))) ?_)
      exact ⟨(congrArg (Value.int .i64) (by rw [pickL, if_neg hne]; rfl)), rfl, rfl⟩

/- impl.pick -/
theorem pick2_spec {F : FH} {L : List HP} {arv : Value} {ar : List Int} (har : IntsF F arv ar) {rsv : Value} {rs : List (List Int × List Int)} (hrs : PairsF F rsv rs) {tv : Value} {t : List Int} (ht : IntsF F tv t)  (hsys : sysOk ar rs = true) (ho : termOk ar t = true) :
    Does Tryz.prog 112 [.agg #[arv, rsv], tv, .int .i64 (2)] F (L) (fun v F' L' => (.int .i64 (pickL ar rs t 2) : Value) = v ∧ F = F' ∧ L = L') := by
  refine Does.of_X Tryz.func112 rfl rfl rfl ?_
  have hnn := notNil_of_pos ht (by have := termOk_len ho; omega)
  have htl := termOk_len ho
  have hrl := (sysOk_iff.1 hsys).2.1
  have hsig := (sysOk_iff.1 hsys).1
  have hsl := sigOk_spec hsig
  have hrd := redL_len (ar := ar) (rs := rs) (t := t)
  refine X.seq ?_
  refine X.region ?_
  refine XL.cons (XOp.box [arv, rsv] rfl rfl ?_)
  intro b1
  refine XL.cons (XOp.assign (.int .i64 (0)) rfl ?_)
  refine XL.nil ?_
  refine X.seq ?_
  refine X.drawG [cellsH b1 [arv, rsv] 37] L 7 [[], [], [], [], [], [4], []] [[], [], [], [], [2, 3], [0, 1, 4], []] [[], [], [], [], [], [], []] (phiG [fun FF us v => v = (.agg #[arv, rsv] : Value), fun FF us v => v = tv, fun FF us v => v = (.agg #[arv, rsv] : Value), fun FF us v => v = tv, fun FF us v => ((v) : Value) = v ∧ (IntsF FF (v) (redL ar rs t)), fun FF us v => v = (.agg #[arv, rsv, tv, ((us.getD 0 undef))] : Value), fun FF us v => v = ptr (blk v) 0]) (ownL [fun us v => [], fun us v => [], fun us v => [], fun us v => [], fun us v => [], fun us v => [], fun us v => [cellsH (blk v) [(.slice none 0 0), (.slice none 0 0), (.slice none 0 0), (.slice none 0 0)] 179]]) mixed rfl rfl (by kernel_rfl) (by kernel_rfl) (MonoG.get (MonoG.cons (fun le h => h) (MonoG.cons (fun le h => h) (MonoG.cons (fun le h => h) (MonoG.cons (fun le h => h) (MonoG.cons (fun le h => ⟨h.1, h.2.mono le⟩) (MonoG.cons (fun le h => h) (MonoG.cons (fun le h => h) MonoG.nil)))))))) ?_ ?_
  · refine stepsG.cons (fun vals Fs R leFs hpZ => ?_) ?_
    · replace har := har.mono leFs
      replace hrs := hrs.mono leFs
      replace ht := ht.mono leFs
      refine XG.op (XOp.loadN [arv, rsv] Tryz.isAgg37 Tryz.sizeOf37 rfl rfl (Rd.ownN [] rfl rfl) ?_)
      exact ⟨rfl, rfl⟩
    refine stepsG.cons (fun vals Fs R leFs hpZ => ?_) ?_
    · refine XG.op (XOp.move (tv) rfl ?_)
      exact ⟨rfl, rfl⟩
    refine stepsG.cons (fun vals Fs R leFs hpZ => ?_) ?_
    · replace har := har.mono leFs
      replace hrs := hrs.mono leFs
      replace ht := ht.mono leFs
      refine XG.op (XOp.loadN [arv, rsv] Tryz.isAgg37 Tryz.sizeOf37 rfl rfl (Rd.ownN [] rfl rfl) ?_)
      exact ⟨rfl, rfl⟩
    refine stepsG.cons (fun vals Fs R leFs hpZ => ?_) ?_
    · refine XG.op (XOp.move (tv) rfl ?_)
      exact ⟨rfl, rfl⟩
    refine stepsG.cons (fun vals Fs R leFs hpZ => ?_) ?_
    · have e2 : vals 2 = (.agg #[arv, rsv] : Value) := hpZ 2 (by decide)
      have e3 : vals 3 = tv := hpZ 3 (by decide)
      replace har := har.mono leFs
      replace hrs := hrs.mono leFs
      replace ht := ht.mono leFs
      rw [(envs_of_sat (l := [(2, (.agg #[arv, rsv] : Value)), (3, tv)]) ⟨e2, e3, trivial⟩).symm]
      refine XG.op (XOp.frzF <| XOp.call (args := [.agg #[arv, rsv], tv]) Tryz.call152 rfl (redexes_spec har hrs ht (hsys := (by first | assumption | rfl | omega | (left; simp; done) | (right; simp; done))) (ho := (by first | assumption | rfl | omega | (left; simp; done) | (right; simp; done)))) ?_)
      rintro v2 _ _ _ ⟨rfl, hs2, rfl⟩
      refine ⟨_, _, rfl, fun F1 le1 hz1 => ?_⟩
      replace har := har.mono le1
      replace hrs := hrs.mono le1
      replace ht := ht.mono le1
      have hf1 : IntsF F1 v2 ((redL ar rs t)) := intsH.fz (xs := (redL ar rs t)) hz1.fz
      exact ⟨⟨rfl, hf1⟩, rfl⟩
    refine stepsG.cons (fun vals Fs R leFs hpZ => ?_) ?_
    · have e0 : vals 0 = (.agg #[arv, rsv] : Value) := hpZ 0 (by decide)
      have e1 : vals 1 = tv := hpZ 1 (by decide)
      obtain ⟨e4, f4_1ha⟩ := hpZ 4 (by decide)
      replace har := har.mono leFs
      replace hrs := hrs.mono leFs
      replace ht := ht.mono leFs
      rw [(envs_of_sat (l := [(0, (.agg #[arv, rsv] : Value)), (1, tv), (4, ((vals 4)))]) ⟨e0, e1, (e4).symm, trivial⟩).symm]
      refine XG.op (XOp.build [arv, rsv, tv, ((vals 4))] [(.slice none 0 0), (.slice none 0 0), (.slice none 0 0), (.slice none 0 0)] [(0, 2), (2, 1), (3, 1)] [(0, [arv, rsv]), (1, [tv]), (2, [((vals 4))])] Tryz.runUnderlying179 Tryz.zeroValue179 rfl (.cons rfl Tryz.sizeOf37 (.cons rfl Tryz.sizeOf22 (.cons rfl Tryz.sizeOf176 PlacesAre.nil))) rfl (.cons rfl (.cons (cells_one (IntsF.isSl ht)) (.cons (cells_one (IntsF.isSl f4_1ha)) CellsAre.nil))) ?_)
      exact ⟨rfl, rfl⟩
    refine stepsG.cons (fun vals Fs R leFs hpZ => ?_) ?_
    · replace har := har.mono leFs
      replace hrs := hrs.mono leFs
      replace ht := ht.mono leFs
      refine XG.op (XOp.alloc [(.slice none 0 0), (.slice none 0 0), (.slice none 0 0), (.slice none 0 0)] Tryz.zeroValue179 rfl ?_)
      intro b3
      exact ⟨rfl, rfl⟩
    exact stepsG.nil
  · intro vals F2 le2 hphi
    have e0 : vals 0 = (.agg #[arv, rsv] : Value) := hphi 0 (by decide)
    have e1 : vals 1 = tv := hphi 1 (by decide)
    have e2 : vals 2 = (.agg #[arv, rsv] : Value) := hphi 2 (by decide)
    have e3 : vals 3 = tv := hphi 3 (by decide)
    obtain ⟨e4, f4_1ha⟩ := hphi 4 (by decide)
    have e5 : vals 5 = (.agg #[arv, rsv, tv, ((vals 4))] : Value) := hphi 5 (by decide)
    have e6 : vals 6 = ptr (blk (vals 6)) 0 := hphi 6 (by decide)
    generalize hu1 : ((vals 4)) = u1 at e0 e1 e2 e3 e4 f4_1ha e5 e6
    generalize hu2 : blk (vals 6) = b4 at e0 e1 e2 e3 e4 f4_1ha e5 e6
    rw [(envs_of_sat (l := [(0, (.agg #[arv, rsv] : Value)), (1, tv), (2, (.agg #[arv, rsv] : Value)), (3, tv), (4, u1), (5, (.agg #[arv, rsv, tv, u1] : Value)), (6, ptr b4 0)]) ⟨e0, e1, e2, e3, hu1, e5, e6, trivial⟩).symm]
    replace har := har.mono le2
    replace hrs := hrs.mono le2
    replace ht := ht.mono le2
    show XL _ _ _ _ _ _ _ (cellsH b4 [(.slice none 0 0), (.slice none 0 0), (.slice none 0 0), (.slice none 0 0)] 179 :: cellsH b1 [arv, rsv] 37 :: L)
    refine XL.cons (XOp.storeN (vs := [arv, rsv, tv, u1]) [] _ [arv, rsv, tv, u1] Tryz.sizeOf179 rfl rfl rfl (ones_cons (one_sl (IntsF.isSl har)) (ones_cons (one_sl (PairsF.isSl hrs)) (ones_cons (one_sl (IntsF.isSl ht)) (ones_cons (one_sl (IntsF.isSl f4_1ha)) ones_nil)))) rfl rfl rfl ?_)
    refine XL.nil ?_
    refine X.seq ?_
    refine X.seq ?_
    refine X.region ?_
    refine XL.cons (XOp.fieldP (b := b4) (3) Tryz.runUnderlying179 rfl Tryz.sizeOf176 (by decide) rfl rfl ?_)
    refine XL.cons (XOp.load1 (v := u1) Tryz.isAgg176 rfl (Rd.own [] rfl rfl) ?_)
    refine XL.cons (XOp.lenS (v := u1) (n := ((redL ar rs t)).length) Tryz.runUnderlying176 rfl f4_1ha.slv ?_)
    refine XL.cons (XOp.eql (a := ((((redL ar rs t)).length : Nat) : Int)) (b := 0) rfl rfl ?_)
    refine XL.nil ?_
    refine X.condD (p := (((((redL ar rs t)).length : Nat) : Int) : Int) = 0) rfl (fun h1 => ?_) (fun h1 => ?_)
    · refine X.seq ?_
      refine X.region ?_
      refine XL.cons (XOp.assign (.int .i64 (-1)) rfl ?_)
      refine XL.nil ?_
      refine X.ret (thenQ_ret (retEnd (L' := L) [.int .i64 (-1)] (.int .i64 (-1)) (.tmp rfl .nil) rfl (FLe.refl _) le2 (Sub.drop (Sub.drop (Sub.refl _))) ?_))
      exact ⟨(congrArg (Value.int .i64) (by rw [pickL, if_pos (List.eq_nil_of_length_eq_zero (by omega))])), rfl, rfl⟩
    · have hne : redL ar rs t ≠ [] := by intro e; rw [e] at h1; simp at h1
      refine X.skip ?_
      refine X.seq ?_
      refine X.region ?_
      refine XL.cons (XOp.loadN [arv, rsv, tv, u1] Tryz.isAgg179 Tryz.sizeOf179 rfl rfl (Rd.ownN [] rfl rfl) ?_)
      refine XL.cons (XOp.makeFuncL [.agg #[arv, rsv, tv, u1]] [] rfl rfl ?_)
      refine XL.cons (XOp.loadN [arv, rsv, tv, u1] Tryz.isAgg179 Tryz.sizeOf179 rfl rfl (Rd.ownN [] rfl rfl) ?_)
      refine XL.cons (XOp.makeFuncL [.agg #[arv, rsv, tv, u1]] [] rfl rfl ?_)
      refine XL.cons (XOp.loadN [arv, rsv, tv, u1] Tryz.isAgg179 Tryz.sizeOf179 rfl rfl (Rd.ownN [] rfl rfl) ?_)
      refine XL.cons (XOp.makeFuncL [.agg #[arv, rsv, tv, u1]] [] rfl rfl ?_)
      refine XL.cons (XOp.buildSlice (s := 1) [.func (.func 153) #[.agg #[arv, rsv, tv, u1]] #[], .func (.func 154) #[.agg #[arv, rsv, tv, u1]] #[], .func (.func 155) #[.agg #[arv, rsv, tv, u1]] #[]] [(.nilFunc)] [(0, [.func (.func 153) #[.agg #[arv, rsv, tv, u1]] #[]]), (1, [.func (.func 154) #[.agg #[arv, rsv, tv, u1]] #[]]), (2, [.func (.func 155) #[.agg #[arv, rsv, tv, u1]] #[]])] Tryz.runUnderlying181 Tryz.sizeOf180 Tryz.zeroValue180 rfl (by decide) rfl (.cons rfl (.cons rfl (.cons rfl CellsAre.nil))) rfl ?_)
      intro v3 hv1
      refine XL.cons (XOp.assign (v3) rfl ?_)
      refine XL.nil ?_
      refine X.seq ?_
      refine X.region ?_
      refine XL.cons (XOp.move (v3) rfl ?_)
      refine XL.cons (XOp.move (.int .i64 (2)) rfl ?_)
      refine XL.cons (XOp.subR (a := 2) (b := 1) (1) rfl rfl (by omega) (by omega) ?_)
      refine XL.cons (XOp.indexS (v := v3) (i := 1) (n := 3) 1 Tryz.runUnderlying181 Tryz.sizeOf180 rfl rfl rfl (SlV.own [] rfl) (by omega) (Nat.mul_one _) ?_)
      refine XL.cons (XOp.load1 (v := .func (.func 154) #[.agg #[arv, rsv, tv, u1]] #[]) Tryz.isAgg180 rfl (Rd.sl [] rfl rfl) ?_)
      refine XL.cons (XOp.callV (first := [.agg #[arv, rsv, tv, u1]]) (captured := []) (args := [.agg #[arv, rsv, tv, u1]]) Tryz.call154 rfl rfl (chOut_spec har hrs ht f4_1ha (hsys := (by first | assumption | rfl | omega | (left; simp; done) | (right; simp; done))) (ho := (by first | assumption | rfl | omega | (left; simp; done) | (right; simp; done))) (hae := (by first | assumption | rfl | omega | (left; simp; done) | (right; simp; done))) (hne := (by first | assumption | rfl | omega | (left; simp; done) | (right; simp; done)))) ?_)
      rintro _ _ _ _ ⟨rfl, rfl, rfl⟩
      refine XL.cons (XOp.assign (.int .i64 ((redL ar rs t).getD 0 0)) rfl ?_)
      refine XL.nil ?_
      refine X.ret (retEnd (L' := L) [.int .i64 ((redL ar rs t).getD 0 0)] (.int .i64 ((redL ar rs t).getD 0 0)) (.tmp rfl .nil) rfl (FLe.refl _) le2 (Sub.drop (Sub.drop (Sub.drop (Sub.refl _)))) ?_)
      exact ⟨(congrArg (Value.int .i64) (by rw [pickL, if_neg hne]; rfl)), rfl, rfl⟩

/- impl.pick -/
theorem pick3_spec {F : FH} {L : List HP} {arv : Value} {ar : List Int} (har : IntsF F arv ar) {rsv : Value} {rs : List (List Int × List Int)} (hrs : PairsF F rsv rs) {tv : Value} {t : List Int} (ht : IntsF F tv t)  (hsys : sysOk ar rs = true) (ho : termOk ar t = true) :
    Does Tryz.prog 112 [.agg #[arv, rsv], tv, .int .i64 (3)] F (L) (fun v F' L' => (.int .i64 (pickL ar rs t 3) : Value) = v ∧ F = F' ∧ L = L') := by
  refine Does.of_X Tryz.func112 rfl rfl rfl ?_
  have hnn := notNil_of_pos ht (by have := termOk_len ho; omega)
  have htl := termOk_len ho
  have hrl := (sysOk_iff.1 hsys).2.1
  have hsig := (sysOk_iff.1 hsys).1
  have hsl := sigOk_spec hsig
  have hrd := redL_len (ar := ar) (rs := rs) (t := t)
  refine X.seq ?_
  refine X.region ?_
  refine XL.cons (XOp.box [arv, rsv] rfl rfl ?_)
  intro b1
  refine XL.cons (XOp.assign (.int .i64 (0)) rfl ?_)
  refine XL.nil ?_
  refine X.seq ?_
  refine X.drawG [cellsH b1 [arv, rsv] 37] L 7 [[], [], [], [], [], [4], []] [[], [], [], [], [2, 3], [0, 1, 4], []] [[], [], [], [], [], [], []] (phiG [fun FF us v => v = (.agg #[arv, rsv] : Value), fun FF us v => v = tv, fun FF us v => v = (.agg #[arv, rsv] : Value), fun FF us v => v = tv, fun FF us v => ((v) : Value) = v ∧ (IntsF FF (v) (redL ar rs t)), fun FF us v => v = (.agg #[arv, rsv, tv, ((us.getD 0 undef))] : Value), fun FF us v => v = ptr (blk v) 0]) (ownL [fun us v => [], fun us v => [], fun us v => [], fun us v => [], fun us v => [], fun us v => [], fun us v => [cellsH (blk v) [(.slice none 0 0), (.slice none 0 0), (.slice none 0 0), (.slice none 0 0)] 179]]) mixed rfl rfl (by kernel_rfl) (by kernel_rfl) (MonoG.get (MonoG.cons (fun le h => h) (MonoG.cons (fun le h => h) (MonoG.cons (fun le h => h) (MonoG.cons (fun le h => h) (MonoG.cons (fun le h => ⟨h.1, h.2.mono le⟩) (MonoG.cons (fun le h => h) (MonoG.cons (fun le h => h) MonoG.nil)))))))) ?_ ?_
  · refine stepsG.cons (fun vals Fs R leFs hpZ => ?_) ?_
    · replace har := har.mono leFs
      replace hrs := hrs.mono leFs
      replace ht := ht.mono leFs
      refine XG.op (XOp.loadN [arv, rsv] Tryz.isAgg37 Tryz.sizeOf37 rfl rfl (Rd.ownN [] rfl rfl) ?_)
      exact ⟨rfl, rfl⟩
    refine stepsG.cons (fun vals Fs R leFs hpZ => ?_) ?_
    · refine XG.op (XOp.move (tv) rfl ?_)
      exact ⟨rfl, rfl⟩
    refine stepsG.cons (fun vals Fs R leFs hpZ => ?_) ?_
    · replace har := har.mono leFs
      replace hrs := hrs.mono leFs
      replace ht := ht.mono leFs
      refine XG.op (XOp.loadN [arv, rsv] Tryz.isAgg37 Tryz.sizeOf37 rfl rfl (Rd.ownN [] rfl rfl) ?_)
      exact ⟨rfl, rfl⟩
    refine stepsG.cons (fun vals Fs R leFs hpZ => ?_) ?_
    · refine XG.op (XOp.move (tv) rfl ?_)
      exact ⟨rfl, rfl⟩
    refine stepsG.cons (fun vals Fs R leFs hpZ => ?_) ?_
    · have e2 : vals 2 = (.agg #[arv, rsv] : Value) := hpZ 2 (by decide)
      have e3 : vals 3 = tv := hpZ 3 (by decide)
      replace har := har.mono leFs
      replace hrs := hrs.mono leFs
      replace ht := ht.mono leFs
      rw [(envs_of_sat (l := [(2, (.agg #[arv, rsv] : Value)), (3, tv)]) ⟨e2, e3, trivial⟩).symm]
      refine XG.op (XOp.frzF <| XOp.call (args := [.agg #[arv, rsv], tv]) Tryz.call152 rfl (redexes_spec har hrs ht (hsys := (by first | assumption | rfl | omega | (left; simp; done) | (right; simp; done))) (ho := (by first | assumption | rfl | omega | (left; simp; done) | (right; simp; done)))) ?_)
      rintro v2 _ _ _ ⟨rfl, hs2, rfl⟩
      refine ⟨_, _, rfl, fun F1 le1 hz1 => ?_⟩
      replace har := har.mono le1
      replace hrs := hrs.mono le1
      replace ht := ht.mono le1
      have hf1 : IntsF F1 v2 ((redL ar rs t)) := intsH.fz (xs := (redL ar rs t)) hz1.fz
      exact ⟨⟨rfl, hf1⟩, rfl⟩
    refine stepsG.cons (fun vals Fs R leFs hpZ => ?_) ?_
    · have e0 : vals 0 = (.agg #[arv, rsv] : Value) := hpZ 0 (by decide)
      have e1 : vals 1 = tv := hpZ 1 (by decide)
      obtain ⟨e4, f4_1ha⟩ := hpZ 4 (by decide)
      replace har := har.mono leFs
      replace hrs := hrs.mono leFs
      replace ht := ht.mono leFs
      rw [(envs_of_sat (l := [(0, (.agg #[arv, rsv] : Value)), (1, tv), (4, ((vals 4)))]) ⟨e0, e1, (e4).symm, trivial⟩).symm]
      refine XG.op (XOp.build [arv, rsv, tv, ((vals 4))] [(.slice none 0 0), (.slice none 0 0), (.slice none 0 0), (.slice none 0 0)] [(0, 2), (2, 1), (3, 1)] [(0, [arv, rsv]), (1, [tv]), (2, [((vals 4))])] Tryz.runUnderlying179 Tryz.zeroValue179 rfl (.cons rfl Tryz.sizeOf37 (.cons rfl Tryz.sizeOf22 (.cons rfl Tryz.sizeOf176 PlacesAre.nil))) rfl (.cons rfl (.cons (cells_one (IntsF.isSl ht)) (.cons (cells_one (IntsF.isSl f4_1ha)) CellsAre.nil))) ?_)
      exact ⟨rfl, rfl⟩
    refine stepsG.cons (fun vals Fs R leFs hpZ => ?_) ?_
    · replace har := har.mono leFs
      replace hrs := hrs.mono leFs
      replace ht := ht.mono leFs
      refine XG.op (XOp.alloc [(.slice none 0 0), (.slice none 0 0), (.slice none 0 0), (.slice none 0 0)] Tryz.zeroValue179 rfl ?_)
      intro b3
      exact ⟨rfl, rfl⟩
    exact stepsG.nil
  · intro vals F2 le2 hphi
    have e0 : vals 0 = (.agg #[arv, rsv] : Value) := hphi 0 (by decide)
    have e1 : vals 1 = tv := hphi 1 (by decide)
    have e2 : vals 2 = (.agg #[arv, rsv] : Value) := hphi 2 (by decide)
    have e3 : vals 3 = tv := hphi 3 (by decide)
    obtain ⟨e4, f4_1ha⟩ := hphi 4 (by decide)
    have e5 : vals 5 = (.agg #[arv, rsv, tv, ((vals 4))] : Value) := hphi 5 (by decide)
    have e6 : vals 6 = ptr (blk (vals 6)) 0 := hphi 6 (by decide)
    generalize hu1 : ((vals 4)) = u1 at e0 e1 e2 e3 e4 f4_1ha e5 e6
    generalize hu2 : blk (vals 6) = b4 at e0 e1 e2 e3 e4 f4_1ha e5 e6
    rw [(envs_of_sat (l := [(0, (.agg #[arv, rsv] : Value)), (1, tv), (2, (.agg #[arv, rsv] : Value)), (3, tv), (4, u1), (5, (.agg #[arv, rsv, tv, u1] : Value)), (6, ptr b4 0)]) ⟨e0, e1, e2, e3, hu1, e5, e6, trivial⟩).symm]
    replace har := har.mono le2
    replace hrs := hrs.mono le2
    replace ht := ht.mono le2
    show XL _ _ _ _ _ _ _ (cellsH b4 [(.slice none 0 0), (.slice none 0 0), (.slice none 0 0), (.slice none 0 0)] 179 :: cellsH b1 [arv, rsv] 37 :: L)
    refine XL.cons (XOp.storeN (vs := [arv, rsv, tv, u1]) [] _ [arv, rsv, tv, u1] Tryz.sizeOf179 rfl rfl rfl (ones_cons (one_sl (IntsF.isSl har)) (ones_cons (one_sl (PairsF.isSl hrs)) (ones_cons (one_sl (IntsF.isSl ht)) (ones_cons (one_sl (IntsF.isSl f4_1ha)) ones_nil)))) rfl rfl rfl ?_)
    refine XL.nil ?_
    refine X.seq ?_
    refine X.seq ?_
    refine X.region ?_
    refine XL.cons (XOp.fieldP (b := b4) (3) Tryz.runUnderlying179 rfl Tryz.sizeOf176 (by decide) rfl rfl ?_)
    refine XL.cons (XOp.load1 (v := u1) Tryz.isAgg176 rfl (Rd.own [] rfl rfl) ?_)
    refine XL.cons (XOp.lenS (v := u1) (n := ((redL ar rs t)).length) Tryz.runUnderlying176 rfl f4_1ha.slv ?_)
    refine XL.cons (XOp.eql (a := ((((redL ar rs t)).length : Nat) : Int)) (b := 0) rfl rfl ?_)
    refine XL.nil ?_
    refine X.condD (p := (((((redL ar rs t)).length : Nat) : Int) : Int) = 0) rfl (fun h1 => ?_) (fun h1 => ?_)
    · refine X.seq ?_
      refine X.region ?_
      refine XL.cons (XOp.assign (.int .i64 (-1)) rfl ?_)
      refine XL.nil ?_
      refine X.ret (thenQ_ret (retEnd (L' := L) [.int .i64 (-1)] (.int .i64 (-1)) (.tmp rfl .nil) rfl (FLe.refl _) le2 (Sub.drop (Sub.drop (Sub.refl _))) ?_))
      exact ⟨(congrArg (Value.int .i64) (by rw [pickL, if_pos (List.eq_nil_of_length_eq_zero (by omega))])), rfl, rfl⟩
    · have hne : redL ar rs t ≠ [] := by intro e; rw [e] at h1; simp at h1
      refine X.skip ?_
      refine X.seq ?_
      refine X.region ?_
      refine XL.cons (XOp.loadN [arv, rsv, tv, u1] Tryz.isAgg179 Tryz.sizeOf179 rfl rfl (Rd.ownN [] rfl rfl) ?_)
      refine XL.cons (XOp.makeFuncL [.agg #[arv, rsv, tv, u1]] [] rfl rfl ?_)
      refine XL.cons (XOp.loadN [arv, rsv, tv, u1] Tryz.isAgg179 Tryz.sizeOf179 rfl rfl (Rd.ownN [] rfl rfl) ?_)
      refine XL.cons (XOp.makeFuncL [.agg #[arv, rsv, tv, u1]] [] rfl rfl ?_)
      refine XL.cons (XOp.loadN [arv, rsv, tv, u1] Tryz.isAgg179 Tryz.sizeOf179 rfl rfl (Rd.ownN [] rfl rfl) ?_)
      refine XL.cons (XOp.makeFuncL [.agg #[arv, rsv, tv, u1]] [] rfl rfl ?_)
      refine XL.cons (XOp.buildSlice (s := 1) [.func (.func 153) #[.agg #[arv, rsv, tv, u1]] #[], .func (.func 154) #[.agg #[arv, rsv, tv, u1]] #[], .func (.func 155) #[.agg #[arv, rsv, tv, u1]] #[]] [(.nilFunc)] [(0, [.func (.func 153) #[.agg #[arv, rsv, tv, u1]] #[]]), (1, [.func (.func 154) #[.agg #[arv, rsv, tv, u1]] #[]]), (2, [.func (.func 155) #[.agg #[arv, rsv, tv, u1]] #[]])] Tryz.runUnderlying181 Tryz.sizeOf180 Tryz.zeroValue180 rfl (by decide) rfl (.cons rfl (.cons rfl (.cons rfl CellsAre.nil))) rfl ?_)
      intro v3 hv1
      refine XL.cons (XOp.assign (v3) rfl ?_)
      refine XL.nil ?_
      refine X.seq ?_
      refine X.region ?_
      refine XL.cons (XOp.move (v3) rfl ?_)
      refine XL.cons (XOp.move (.int .i64 (3)) rfl ?_)
      refine XL.cons (XOp.subR (a := 3) (b := 1) (2) rfl rfl (by omega) (by omega) ?_)
      refine XL.cons (XOp.indexS (v := v3) (i := 2) (n := 3) 2 Tryz.runUnderlying181 Tryz.sizeOf180 rfl rfl rfl (SlV.own [] rfl) (by omega) (Nat.mul_one _) ?_)
      refine XL.cons (XOp.load1 (v := .func (.func 155) #[.agg #[arv, rsv, tv, u1]] #[]) Tryz.isAgg180 rfl (Rd.sl [] rfl rfl) ?_)
      refine XL.cons (XOp.callV (first := [.agg #[arv, rsv, tv, u1]]) (captured := []) (args := [.agg #[arv, rsv, tv, u1]]) Tryz.call155 rfl rfl (chLast_spec har hrs ht f4_1ha (hsys := (by first | assumption | rfl | omega | (left; simp; done) | (right; simp; done))) (ho := (by first | assumption | rfl | omega | (left; simp; done) | (right; simp; done))) (hae := (by first | assumption | rfl | omega | (left; simp; done) | (right; simp; done))) (hne := (by first | assumption | rfl | omega | (left; simp; done) | (right; simp; done)))) ?_)
      rintro _ _ _ _ ⟨rfl, rfl, rfl⟩
      refine XL.cons (XOp.assign (.int .i64 ((redL ar rs t).getD ((redL ar rs t).length - 1) 0)) rfl ?_)
      refine XL.nil ?_
      refine X.ret (retEnd (L' := L) [.int .i64 ((redL ar rs t).getD ((redL ar rs t).length - 1) 0)] (.int .i64 ((redL ar rs t).getD ((redL ar rs t).length - 1) 0)) (.tmp rfl .nil) rfl (FLe.refl _) le2 (Sub.drop (Sub.drop (Sub.drop (Sub.refl _)))) ?_)
      exact ⟨(congrArg (Value.int .i64) (by rw [pickL, if_neg hne]; rfl)), rfl, rfl⟩

theorem pick_all {F : FH} {L : List HP} {arv : Value} {ar : List Int} (har : IntsF F arv ar) {rsv : Value} {rs : List (List Int × List Int)} (hrs : PairsF F rsv rs) {tv : Value} {t : List Int} (ht : IntsF F tv t) {st : Int} (hsys : sysOk ar rs = true) (ho : termOk ar t = true) (hst : 1 ≤ st ∧ st ≤ 3) :
    Does Tryz.prog 112 [.agg #[arv, rsv], tv, .int .i64 st] F L (fun v F' L' => (.int .i64 (pickL ar rs t st) : Value) = v ∧ F = F' ∧ L = L') := by
  have h : st = 1 ∨ st = 2 ∨ st = 3 := by omega
  rcases h with rfl | rfl | rfl
  · exact pick1_spec har hrs ht hsys ho
  · exact pick2_spec har hrs ht hsys ho
  · exact pick3_spec har hrs ht hsys ho

end Go.Proofs.YtbooflphoaaoeaaGreat
