/-
  Walks, one after the other (part 2).
-/
import Derived.Test.YtmaaifhmhclhdaaGreatQGL1
import Derived.Test.YtmaaifhmhclhdaaGreatQGB0
set_option linter.unusedSimpArgs false
set_option linter.unusedVariables false
namespace Go.Proofs.YtmaaifhmhclhdaaGreat
open Go X M Tryz

/- impl.instance -/
theorem instance_spec {F : FH} {L : List HP} {arv : Value} {ar : List Int} (har : IntsF F arv ar) {pv : Value} {p : List Int} (hp : IntsF F pv p) {tv : Value} {t : List Int} (ht : IntsF F tv t) (ho : termOk ar t = true) (hpo : termOk ar p = true) :
    Does prog 198 [.agg #[arv], pv, tv] F (L) (fun v F' L' => (.bool ((matchB ar p t).isSome) : Value) = v ∧ F = F' ∧ L = L') := by
 refine Does.of_X func198 rfl rfl rfl ?_
 refine X.seq (X.region ?_)
 refine cX (XOp.box [arv] rfl rfl ?_)
 intro b1
 refine XL.as (.bool (false)) rfl ?_
 refine XL.nil (X.seq (X.region ?_))
 refine cX (XOp.loadN [arv] isAgg26 sizeOf26 rfl rfl (Rd.ownN [] rfl rfl) ?_)
 refine XL.mv (pv) rfl ?_
 refine XL.mv (tv) rfl ?_
 refine cX (XOp.call (args := [.agg #[arv], pv, tv]) call150 rfl (match_spec har hp ht (ho := (by first | assumption | rfl | omega | simp)) (hpo := (by first | assumption | rfl | omega | simp))) ?_)
 rintro _ F1 _ le1 ⟨x1, rfl, hr1, rfl⟩
 refine XL.mv (.tuple #[.agg #[x1], .bool ((matchB ar p t).isSome)]) rfl ?_
 refine cX (XOp.extract (.agg #[x1]) rfl rfl ?_)
 refine cX (XOp.extract (.bool ((matchB ar p t).isSome)) rfl rfl ?_)
 refine cX (XOp.alloc [(.slice none 0 0)] zeroValue76 rfl ?_)
 intro b2
 refine cX (XOp.storeN (vs := [x1]) [] _ [x1] sizeOf76 rfl rfl rfl (ones_cons (one_sl (RowsF.isSl hr1)) ones_nil) rfl rfl rfl ?_)
 refine XL.as (.bool ((matchB ar p t).isSome)) rfl ?_
 refine XL.nil (X.seq (X.region ?_))
 refine XL.mv (.bool ((matchB ar p t).isSome)) rfl ?_
 refine XL.as (.bool ((matchB ar p t).isSome)) rfl ?_
 refine XL.nil ?_
 refine X.ret (retEnd (L' := L) [.bool ((matchB ar p t).isSome)] (.bool ((matchB ar p t).isSome)) (.tmp rfl .nil) rfl rF le1 (sD (sD sR)) ?_)
 exact ⟨rfl, rfl, rfl⟩

/- impl.redex -/
theorem redex_spec {F : FH} {L : List HP} {arv : Value} {ar : List Int} (har : IntsF F arv ar) {rsv : Value} {rs : List (List Int × List Int)} (hrs : PairsF F rsv rs) {tv : Value} {t : List Int} (ht : IntsF F tv t) {p : Nat} {r : Nat} (hsys : sysOk ar rs = true) (ho : termOk ar t = true) (hp : p < t.length) (hr : r < rs.length) :
    Does prog 165 [.agg #[arv, rsv], tv, .int .i64 ((p : Int)), .int .i64 ((r : Int))] F (L) (fun v F' L' => (.bool (isRedex ar rs t p r) : Value) = v ∧ F = F' ∧ L = L') := by
 refine Does.of_X func165 rfl rfl rfl ?_
 have hnn := notNil_of_pos ht (by have := termOk_len ho; omega)
 have htl := termOk_len ho
 have hrl := (sysOk_iff.1 hsys).2.1
 have hsig := (sysOk_iff.1 hsys).1
 have hsl := sigOk_spec hsig
 have hR := ruleOk_iff.1 ((sysOk_iff.1 hsys).2.2 r hr)
 have hRl := hR.left
 have hRr := hR.right
 have hso := sub_ok ho hp
 refine X.seq (X.region ?_)
 refine cX (XOp.box [arv, rsv] rfl rfl ?_)
 intro b1
 refine XL.as (.bool (false)) rfl ?_
 refine XL.nil (X.seq ?_)
 obtain ⟨a1, a2, ha1, ha2, hr1, hr2⟩ := hrs.rd (i := r) (by omega)
 refine X.drawG [cellsH b1 [arv, rsv] 29] L 13 [[], [], [], [], [], [], [], [], [], [], [], [], []] [[], [0], [], [2], [], [3, 4], [5], [6], [], [8], [], [], [9, 10, 11]] [[], [], [], [], [], [], [], [], [], [], [], [], []] (phiG [fun FF us v => v = ptr b1 0, fun FF us v => v = (.agg #[arv] : Value), fun FF us v => v = ptr b1 1, fun FF us v => v = rsv, fun FF us v => v = (.int .i64 ((r : Int)) : Value), fun FF us v => v = (.pointer (some (elemA rsv (r * 2))) : Value), fun FF us v => v = (.pointer (some (elemA rsv (r * 2))) : Value), fun FF us v => v = a1, fun FF us v => v = ptr b1 0, fun FF us v => v = (.agg #[arv] : Value), fun FF us v => v = tv, fun FF us v => v = (.int .i64 ((p : Int)) : Value), fun FF us v => ((v) : Value) = v ∧ (IntsF FF (v) (sub ar t p)) ∧ (isNil (v) = false)]) (ownL [fun us v => [], fun us v => [], fun us v => [], fun us v => [], fun us v => [], fun us v => [], fun us v => [], fun us v => [], fun us v => [], fun us v => [], fun us v => [], fun us v => [], fun us v => []]) mixed rfl rfl (by kernel_rfl) (by kernel_rfl) (MonoG.get (mC (fun le h => h) (mC (fun le h => h) (mC (fun le h => h) (mC (fun le h => h) (mC (fun le h => h) (mC (fun le h => h) (mC (fun le h => h) (mC (fun le h => h) (mC (fun le h => h) (mC (fun le h => h) (mC (fun le h => h) (mC (fun le h => h) (mC (fun le h => ⟨h.1, h.2.1.mono le, h.2.2⟩) MonoG.nil)))))))))))))) ?_ ?_
 ·refine gC (fun vals Fs R leFs hpZ => ?_) ?_
  ·refine XG.op (XOp.fieldP (b := b1) (0) runUnderlying29 rfl sizeOf26 (by decide) rfl rfl ?_)
   exact ⟨rfl, rfl⟩
  refine gC (fun vals Fs R leFs hpZ => ?_) ?_
  ·replace har := har.mono leFs
   replace hrs := hrs.mono leFs
   replace ht := ht.mono leFs
   replace ha1 := ha1.mono leFs
   replace hr1 := Rd.monoA hr1 leFs
   rw [eS (l := [(0, ptr b1 0)]) ⟨(hpZ 0 (by decide)), trivial⟩]
   refine XG.op (XOp.loadN [arv] isAgg26 sizeOf26 rfl rfl (Rd.ownN [] rfl rfl) ?_)
   exact ⟨rfl, rfl⟩
  refine gC (fun vals Fs R leFs hpZ => ?_) ?_
  ·refine XG.op (XOp.fieldP (b := b1) (1) runUnderlying29 rfl sizeOf27 (by decide) rfl rfl ?_)
   exact ⟨rfl, rfl⟩
  refine gC (fun vals Fs R leFs hpZ => ?_) ?_
  ·replace har := har.mono leFs
   replace hrs := hrs.mono leFs
   replace ht := ht.mono leFs
   replace ha1 := ha1.mono leFs
   replace hr1 := Rd.monoA hr1 leFs
   rw [eS (l := [(2, ptr b1 1)]) ⟨(hpZ 2 (by decide)), trivial⟩]
   refine XG.op (XOp.load1 (v := rsv) isAgg27 rfl (Rd.own [] rfl rfl) ?_)
   exact ⟨rfl, rfl⟩
  refine gC (fun vals Fs R leFs hpZ => ?_) ?_
  ·refine XG.op (XOp.move (.int .i64 ((r : Int))) rfl ?_)
   exact ⟨rfl, rfl⟩
  refine gC (fun vals Fs R leFs hpZ => ?_) ?_
  ·replace har := har.mono leFs
   replace hrs := hrs.mono leFs
   replace ht := ht.mono leFs
   replace ha1 := ha1.mono leFs
   replace hr1 := Rd.monoA hr1 leFs
   rw [eS (l := [(3, rsv), (4, (.int .i64 ((r : Int)) : Value))]) ⟨(hpZ 3 (by decide)), (hpZ 4 (by decide)), trivial⟩]
   refine XG.op (XOp.indexS (v := rsv) (i := (r : Int)) (n := (rs).length) r runUnderlying27 sizeOf117 rfl rfl rfl hrs.slv (by omega) rfl ?_)
   exact ⟨rfl, rfl⟩
  refine gC (fun vals Fs R leFs hpZ => ?_) ?_
  ·rw [eS (l := [(5, (.pointer (some (elemA rsv (r * 2))) : Value))]) ⟨(hpZ 5 (by decide)), trivial⟩]
   refine XG.op (XOp.fieldE (v := rsv) (r * 2) runUnderlying117 rfl sizeOf24 (by decide) rfl rfl ?_)
   exact ⟨rfl, rfl⟩
  refine gC (fun vals Fs R leFs hpZ => ?_) ?_
  ·replace har := har.mono leFs
   replace ht := ht.mono leFs
   replace ha1 := ha1.mono leFs
   replace hr1 := Rd.monoA hr1 leFs
   rw [eS (l := [(6, (.pointer (some (elemA rsv (r * 2))) : Value))]) ⟨(hpZ 6 (by decide)), trivial⟩]
   refine XG.op (XOp.load1 (v := a1) isAgg24 rfl (hr1 _) ?_)
   exact ⟨rfl, rfl⟩
  refine gC (fun vals Fs R leFs hpZ => ?_) ?_
  ·refine XG.op (XOp.fieldP (b := b1) (0) runUnderlying29 rfl sizeOf26 (by decide) rfl rfl ?_)
   exact ⟨rfl, rfl⟩
  refine gC (fun vals Fs R leFs hpZ => ?_) ?_
  ·replace har := har.mono leFs
   replace ht := ht.mono leFs
   replace ha1 := ha1.mono leFs
   rw [eS (l := [(8, ptr b1 0)]) ⟨(hpZ 8 (by decide)), trivial⟩]
   refine XG.op (XOp.loadN [arv] isAgg26 sizeOf26 rfl rfl (Rd.ownN [] rfl rfl) ?_)
   exact ⟨rfl, rfl⟩
  refine gC (fun vals Fs R leFs hpZ => ?_) ?_
  ·refine XG.op (XOp.move (tv) rfl ?_)
   exact ⟨rfl, rfl⟩
  refine gC (fun vals Fs R leFs hpZ => ?_) ?_
  ·refine XG.op (XOp.move (.int .i64 ((p : Int))) rfl ?_)
   exact ⟨rfl, rfl⟩
  refine gC (fun vals Fs R leFs hpZ => ?_) ?_
  ·replace har := har.mono leFs
   replace ht := ht.mono leFs
   replace ha1 := ha1.mono leFs
   rw [eS (l := [(9, (.agg #[arv] : Value)), (10, tv), (11, (.int .i64 ((p : Int)) : Value))]) ⟨(hpZ 9 (by decide)), (hpZ 10 (by decide)), (hpZ 11 (by decide)), trivial⟩]
   refine XG.op (XOp.call (args := [.agg #[arv], tv, .int .i64 (p : Int)]) call138 rfl (subAt_spec (p := p) har ht (ho := (by first | assumption | rfl | omega | simp)) (hp := (by first | assumption | rfl | omega | simp)) (hnn := (by first | assumption | rfl | omega | simp))) ?_)
   rintro v2 _ _ _ ⟨rfl, rfl, hv2, hn2⟩
   exact ⟨⟨rfl, hv2, hn2⟩, rfl⟩
  exact stepsG.nil
 intro vals F1 le1 hphi
 obtain ⟨e12, f12_1ha, f12_1hn⟩ := hphi 12 (by decide)
 generalize hu1 : ((vals 12)) = u1 at e12 f12_1ha f12_1hn
 rw [eS (l := [(1, (.agg #[arv] : Value)), (7, a1), (12, u1)]) ⟨(hphi 1 (by decide)), (hphi 7 (by decide)), hu1, trivial⟩]
 replace har := har.mono le1
 replace ha1 := ha1.mono le1
 show XL _ _ _ _ _ _ _ (cellsH b1 [arv, rsv] 29 :: L)
 refine cX (XOp.call (args := [.agg #[arv], a1, u1]) call198 rfl (instance_spec har ha1 f12_1ha (ho := (by first | assumption | rfl | omega | simp)) (hpo := (by first | assumption | rfl | omega | simp))) ?_)
 rintro _ _ _ _ ⟨rfl, rfl, rfl⟩
 refine XL.as (.bool ((matchB ar ((rs.getD r ([], [])).1) ((sub ar t p))).isSome)) rfl ?_
 refine XL.nil ?_
 refine X.ret (retEnd (L' := L) [.bool ((matchB ar ((rs.getD r ([], [])).1) ((sub ar t p))).isSome)] (.bool ((matchB ar ((rs.getD r ([], [])).1) ((sub ar t p))).isSome)) (.tmp rfl .nil) rfl rF le1 (sD sR) ?_)
 exact ⟨rfl, rfl, rfl⟩

/- impl.ruleAt -/
theorem ruleAt_spec {F : FH} {L : List HP} {arv : Value} {ar : List Int} (har : IntsF F arv ar) {rsv : Value} {rs : List (List Int × List Int)} (hrs : PairsF F rsv rs) {tv : Value} {t : List Int} (ht : IntsF F tv t) {p : Nat} (hsys : sysOk ar rs = true) (ho : termOk ar t = true) (hp : p < t.length) :
    Does prog 105 [.agg #[arv, rsv], tv, .int .i64 ((p : Int))] F (L) (fun v F' L' => (.int .i64 (ruleAtL ar rs t p) : Value) = v ∧ F = F' ∧ L = L') := by
 refine Does.of_X func105 rfl rfl rfl ?_
 have hnn := notNil_of_pos ht (by have := termOk_len ho; omega)
 have htl := termOk_len ho
 have hrl := (sysOk_iff.1 hsys).2.1
 have hsig := (sysOk_iff.1 hsys).1
 have hsl := sigOk_spec hsig
 refine X.seq (X.region ?_)
 refine cX (XOp.box [arv, rsv] rfl rfl ?_)
 intro b1
 refine XL.as (.int .i64 (0)) rfl ?_
 refine XL.nil (X.seq (X.seq (X.region ?_)))
 refine cX (XOp.fieldP (b := b1) (1) runUnderlying29 rfl sizeOf27 (by decide) rfl rfl ?_)
 refine cX (XOp.load1 (v := rsv) isAgg27 rfl (Rd.own [] rfl rfl) ?_)
 refine cX (XOp.lenS (v := rsv) (n := (rs).length) runUnderlying27 rfl hrs.slv ?_)
 refine XL.mv (.int .i64 (0)) rfl ?_
 refine XL.nil (X.block ?_)
 refine X.loop (α := Nat) (fun r => [(1, tv), (2, .int .i64 ((p : Int))), (3, ptr b1 0), (10, .int .i64 ((rs.length : Int))), (11, .int .i64 ((r : Int)))]) (fun r => cellsH b1 [arv, rsv] 29 :: L) (fun r F' => F = F' ∧ (r ≤ rs.length) ∧ (ruleAtL ar rs t p = ruleAtGo ar rs t p (rs.length - r) r)) (fun r => rs.length - r) 0 ⟨rfl, rfl, rfl, rfl, rfl, trivial⟩ (sC sR) ⟨rfl, (by omega), (rfl)⟩ ?_
 rintro r rE _ _ ⟨rfl, hr, hm⟩
 show X _ _ _ _ (envs [(1, tv), (2, .int .i64 ((p : Int))), (3, ptr b1 0), (10, .int .i64 ((rs.length : Int))), (11, .int .i64 ((r : Int)))] rE) _ (cellsH b1 [arv, rsv] 29 :: L)
 refine X.seq (X.region ?_)
 refine cX (XOp.lss (a := (r : Int)) (b := (rs.length : Int)) rfl rfl ?_)
 refine XL.nil (X.seq ?_)
 refine X.condD (p := (r : Int) < (rs.length : Int)) rfl (fun h1 => ?_) (fun h1 => ?_)
 ·refine X.skip (X.seq (X.block (X.seq (X.region ?_))))
  refine XL.mv (.int .i64 ((r : Int))) rfl ?_
  refine XL.as (.int .i64 ((r : Int))) rfl ?_
  refine XL.nil (X.seq (X.region ?_))
  refine cX (XOp.loadN [arv, rsv] isAgg29 sizeOf29 rfl rfl (Rd.ownN [] rfl rfl) ?_)
  refine XL.mv (tv) rfl ?_
  refine XL.mv (.int .i64 ((p : Int))) rfl ?_
  refine XL.mv (.int .i64 ((r : Int))) rfl ?_
  refine cX (XOp.call (args := [.agg #[arv, rsv], tv, .int .i64 (p : Int), .int .i64 (r : Int)]) call165 rfl (redex_spec (p := p) (r := r) har hrs ht (hsys := (by first | assumption | rfl | omega | simp)) (ho := (by first | assumption | rfl | omega | simp)) (hp := (by first | assumption | rfl | omega | simp)) (hr := (by first | assumption | rfl | omega | simp))) ?_)
  rintro _ _ _ _ ⟨rfl, rfl, rfl⟩
  refine XL.nil ?_
  refine X.cond (t := isRedex ar rs t p r) rfl (fun h2 => ?_) (fun h2 => ?_)
  ·refine X.seq (X.region ?_)
   refine XL.mv (.int .i64 ((r : Int))) rfl ?_
   refine XL.as (.int .i64 ((r : Int))) rfl ?_
   refine XL.nil ?_
   refine X.ret (blockQ_ret (thenQ_ret (thenQ_ret (blockQ_ret (thenQ_ret (retEnd (L' := L) [.int .i64 ((r : Int))] (.int .i64 ((r : Int))) (.tmp rfl .nil) rfl rF rF (sD sR) ?_))))))
   exact ⟨(vI (hm.trans (ruleAt_hit (by omega) (by assumption)))), rfl, rfl⟩
  refine X.skip (X.region ?_)
  refine cX (XOp.addR (a := (r : Int)) (b := 1) (((r + 1 : Nat) : Int)) rfl rfl (by omega) (by omega) ?_)
  refine XL.mv (.int .i64 (((r + 1 : Nat) : Int))) rfl ?_
  refine XL.nil ?_
  exact ⟨r + 1, _, FLe.refl _, rF, ⟨rfl, rfl, rfl, rfl, rfl, trivial⟩, (sC sR), ⟨rfl, (by (try dsimp only) <;> omega), (hm.trans (ruleAt_miss (by omega) (by assumption)))⟩, (by omega)⟩
 refine X.exit (thenQ_exit (thenQ_exit (blockQ_exit ?_)))
 refine X.seq (X.region ?_)
 refine XL.as (.int .i64 (-1)) rfl ?_
 refine XL.nil ?_
 refine X.ret (retEnd (L' := L) [.int .i64 (-1)] (.int .i64 (-1)) (.tmp rfl .nil) rfl rF rF (sD sR) ?_)
 exact ⟨(vI (hm.trans (ruleAt_end (by omega)))), rfl, rfl⟩

/- impl.normal -/
theorem normal_spec {F : FH} {L : List HP} {arv : Value} {ar : List Int} (har : IntsF F arv ar) {rsv : Value} {rs : List (List Int × List Int)} (hrs : PairsF F rsv rs) {tv : Value} {t : List Int} (ht : IntsF F tv t) (hsys : sysOk ar rs = true) (ho : termOk ar t = true) :
    Does prog 59 [.agg #[arv, rsv], tv] F (L) (fun v F' L' => (.bool (normalL ar rs t) : Value) = v ∧ F = F' ∧ L = L') := by
 refine Does.of_X func59 rfl rfl rfl ?_
 have hnn := notNil_of_pos ht (by have := termOk_len ho; omega)
 have htl := termOk_len ho
 have hrl := (sysOk_iff.1 hsys).2.1
 have hsig := (sysOk_iff.1 hsys).1
 have hsl := sigOk_spec hsig
 refine X.seq (X.region ?_)
 refine cX (XOp.box [arv, rsv] rfl rfl ?_)
 intro b1
 refine XL.as (.bool (false)) rfl ?_
 refine XL.nil (X.seq (X.seq (X.region ?_)))
 refine XL.mv (tv) rfl ?_
 refine cX (XOp.lenS (v := tv) (n := (t).length) runUnderlying24 rfl ht.slv ?_)
 refine XL.mv (.int .i64 (0)) rfl ?_
 refine XL.nil (X.block ?_)
 refine X.loop (α := Nat) (fun k => [(1, tv), (2, ptr b1 0), (7, tv), (8, .int .i64 ((t.length : Int))), (9, .int .i64 ((k : Int)))]) (fun k => cellsH b1 [arv, rsv] 29 :: L) (fun k F' => F = F' ∧ (k ≤ t.length) ∧ (∀ p, p < k → ruleAtL ar rs t p < 0)) (fun k => t.length - k) 0 ⟨rfl, rfl, rfl, rfl, rfl, trivial⟩ (sC sR) ⟨rfl, (by (try dsimp only) <;> omega), (fun p hp => absurd hp (by omega))⟩ ?_
 rintro k rE _ _ ⟨rfl, hk, hall⟩
 show X _ _ _ _ (envs [(1, tv), (2, ptr b1 0), (7, tv), (8, .int .i64 ((t.length : Int))), (9, .int .i64 ((k : Int)))] rE) _ (cellsH b1 [arv, rsv] 29 :: L)
 refine X.seq (X.region ?_)
 refine cX (XOp.lss (a := (k : Int)) (b := (t.length : Int)) rfl rfl ?_)
 refine XL.nil (X.seq ?_)
 refine X.condD (p := (k : Int) < (t.length : Int)) rfl (fun h1 => ?_) (fun h1 => ?_)
 ·refine X.skip (X.seq (X.block (X.seq (X.region ?_))))
  refine XL.mv (.int .i64 ((k : Int))) rfl ?_
  refine cX (XOp.indexS (v := tv) (i := (k : Int)) (n := (t).length) k runUnderlying24 sizeOf2 rfl rfl rfl ht.slv (by omega) (Nat.mul_one _) ?_)
  refine cX (XOp.load1 (v := .int .i64 (t.getD k 0)) isAgg2 rfl (ht.rd (by omega)) ?_)
  refine XL.as (.int .i64 ((k : Int))) rfl ?_
  refine XL.as (.int .i64 (t.getD k 0)) rfl ?_
  refine XL.nil (X.seq (X.region ?_))
  refine XL.mv (.int .i64 (t.getD k 0)) rfl ?_
  refine cX (XOp.geq (a := t.getD k 0) (b := 0) rfl rfl ?_)
  refine XL.mv (.bool (decide ((t.getD k 0 : Int) ≥ 0))) rfl ?_
  by_cases h2 : (t.getD k 0 : Int) ≥ 0
  ·refine XL.yes (t := 16) rfl (vT h2) (XOp.loadN [arv, rsv] isAgg29 sizeOf29 rfl rfl (Rd.ownN [] rfl rfl) ?_)
   refine XL.yes (t := 16) rfl (vT h2) (XOp.move (tv) rfl ?_)
   refine XL.yes (t := 16) rfl (vT h2) (XOp.move (.int .i64 ((k : Int))) rfl ?_)
   refine XL.yes (t := 16) rfl (vT h2) (XOp.call (args := [.agg #[arv, rsv], tv, .int .i64 (k : Int)]) call105 rfl (ruleAt_spec (p := k) har hrs ht (hsys := (by first | assumption | rfl | omega | simp)) (ho := (by first | assumption | rfl | omega | simp)) (hp := (by first | assumption | rfl | omega | simp))) ?_)
   rintro _ _ _ _ ⟨rfl, rfl, rfl⟩
   refine XL.yes (t := 16) rfl (vT h2) (XOp.geq (a := ruleAtL ar rs t k) (b := 0) rfl rfl ?_)
   refine cX (XOp.pickT (.bool (decide ((ruleAtL ar rs t k : Int) ≥ 0))) (vT h2) rfl ?_)
   refine XL.nil ?_
   refine X.condD (p := (ruleAtL ar rs t k : Int) ≥ 0) rfl (fun h3 => ?_) (fun h3 => ?_)
   ·refine X.seq (X.region ?_)
    refine XL.as (.bool (false)) rfl ?_
    refine XL.nil ?_
    refine X.ret (blockQ_ret (thenQ_ret (thenQ_ret (blockQ_ret (thenQ_ret (retEnd (L' := L) [.bool (false)] (.bool (false)) (.tmp rfl .nil) rfl rF rF (sD sR) ?_))))))
    exact ⟨(vB (normal_no (p := k) (by omega) (by omega))), rfl, rfl⟩
   refine X.skip (X.region ?_)
   refine cX (XOp.addR (a := (k : Int)) (b := 1) (((k + 1 : Nat) : Int)) rfl rfl (by omega) (by omega) ?_)
   refine XL.mv (.int .i64 (((k + 1 : Nat) : Int))) rfl ?_
   refine XL.nil ?_
   exact ⟨k + 1, _, FLe.refl _, rF, ⟨rfl, rfl, rfl, rfl, rfl, trivial⟩, (sC sR), ⟨rfl, (by (try dsimp only) <;> omega), (fun p hp => (Nat.lt_or_ge p k).elim (fun h => hall p h) (fun h => by obtain rfl : p = k := (by omega); first | omega | (have := ruleAt_var hsys ho (p := p) (by omega) (by omega); omega)))⟩, (by omega)⟩
  refine XL.no (t := 16) rfl (vF h2) ?_
  refine XL.no (t := 16) rfl (vF h2) ?_
  refine XL.no (t := 16) rfl (vF h2) ?_
  refine XL.no (t := 16) rfl (vF h2) ?_
  refine XL.no (t := 16) rfl (vF h2) ?_
  refine cX (XOp.pickF (.bool (false)) (vF h2) rfl ?_)
  refine XL.nil ?_
  refine X.condF rfl ?_
  refine X.skip (X.region ?_)
  refine cX (XOp.addR (a := (k : Int)) (b := 1) (((k + 1 : Nat) : Int)) rfl rfl (by omega) (by omega) ?_)
  refine XL.mv (.int .i64 (((k + 1 : Nat) : Int))) rfl ?_
  refine XL.nil ?_
  exact ⟨k + 1, _, FLe.refl _, rF, ⟨rfl, rfl, rfl, rfl, rfl, trivial⟩, (sC sR), ⟨rfl, (by (try dsimp only) <;> omega), (fun p hp => (Nat.lt_or_ge p k).elim (fun h => hall p h) (fun h => by obtain rfl : p = k := (by omega); first | omega | (have := ruleAt_var hsys ho (p := p) (by omega) (by omega); omega)))⟩, (by omega)⟩
 refine X.exit (thenQ_exit (thenQ_exit (blockQ_exit ?_)))
 refine X.seq (X.region ?_)
 refine XL.as (.bool (true)) rfl ?_
 refine XL.nil ?_
 refine X.ret (retEnd (L' := L) [.bool (true)] (.bool (true)) (.tmp rfl .nil) rfl rF rF (sD sR) ?_)
 exact ⟨(vB (normal_yes (fun p hp => hall p (by omega)))), rfl, rfl⟩

/- impl.redexes -/
theorem redexes_spec {F : FH} {L : List HP} {arv : Value} {ar : List Int} (har : IntsF F arv ar) {rsv : Value} {rs : List (List Int × List Int)} (hrs : PairsF F rsv rs) {tv : Value} {t : List Int} (ht : IntsF F tv t) (hsys : sysOk ar rs = true) (ho : termOk ar t = true) :
    Does prog 161 [.agg #[arv, rsv], tv] F (L) (fun v F' L' => F = F' ∧ IsSl v ∧ intsH 3 v (redL ar rs t) :: L = L') := by
 refine Does.of_X func161 rfl rfl rfl ?_
 have hnn := notNil_of_pos ht (by have := termOk_len ho; omega)
 have htl := termOk_len ho
 have hrl := (sysOk_iff.1 hsys).2.1
 have hsig := (sysOk_iff.1 hsys).1
 have hsl := sigOk_spec hsig
 refine X.seq (X.region ?_)
 refine cX (XOp.box [arv, rsv] rfl rfl ?_)
 intro b1
 refine XL.as ((.slice none 0 0)) rfl ?_
 refine XL.nil (X.seq (X.region ?_))
 refine XL.as ((.slice none 0 0)) rfl ?_
 refine XL.nil (X.seq (X.seq (X.region ?_)))
 refine XL.mv (tv) rfl ?_
 refine cX (XOp.lenS (v := tv) (n := (t).length) runUnderlying24 rfl ht.slv ?_)
 refine XL.mv (.int .i64 (0)) rfl ?_
 refine XL.nil (X.block ?_)
 refine X.loop (α := Nat × Value × List Int) (fun xQ => [(1, tv), (2, ptr b1 0), (5, xQ.2.1), (8, tv), (9, .int .i64 ((t.length : Int))), (10, .int .i64 (((xQ.1 : Nat) : Int)))]) (fun xQ => intsH 3 xQ.2.1 xQ.2.2 :: cellsH b1 [arv, rsv] 29 :: L) (fun xQ F' => F = F' ∧ (IsSl xQ.2.1) ∧ (xQ.1 ≤ t.length) ∧ (xQ.2.2 = redTo ar rs t xQ.1)) (fun xQ => t.length - xQ.1) (0, (.slice none 0 0), []) ⟨rfl, rfl, rfl, rfl, rfl, rfl, trivial⟩ (Sub.trans (intsH.addNil 3 none _) (sC (sC sR))) ⟨rfl, (⟨_, _, _, rfl⟩), (by (try dsimp only) <;> omega), (rfl)⟩ ?_
 rintro ⟨k, ov, os⟩ rE _ _ ⟨rfl, hov, hk, hos⟩
 show X _ _ _ _ (envs [(1, tv), (2, ptr b1 0), (5, ov), (8, tv), (9, .int .i64 ((t.length : Int))), (10, .int .i64 ((k : Int)))] rE) _ (intsH 3 ov os :: cellsH b1 [arv, rsv] 29 :: L)
 dsimp only at hov hk hos
 have hol : os.length ≤ k := by rw [hos]; exact redTo_len
 refine X.seq (X.region ?_)
 refine cX (XOp.lss (a := (k : Int)) (b := (t.length : Int)) rfl rfl ?_)
 refine XL.nil (X.seq ?_)
 refine X.condD (p := (k : Int) < (t.length : Int)) rfl (fun h1 => ?_) (fun h1 => ?_)
 ·refine X.skip (X.seq (X.block (X.seq (X.region ?_))))
  refine XL.mv (.int .i64 ((k : Int))) rfl ?_
  refine cX (XOp.indexS (v := tv) (i := (k : Int)) (n := (t).length) k runUnderlying24 sizeOf2 rfl rfl rfl ht.slv (by omega) (Nat.mul_one _) ?_)
  refine cX (XOp.load1 (v := .int .i64 (t.getD k 0)) isAgg2 rfl (ht.rd (by omega)) ?_)
  refine XL.as (.int .i64 ((k : Int))) rfl ?_
  refine XL.as (.int .i64 (t.getD k 0)) rfl ?_
  refine XL.nil (X.seq (X.region ?_))
  refine XL.mv (.int .i64 (t.getD k 0)) rfl ?_
  refine cX (XOp.geq (a := t.getD k 0) (b := 0) rfl rfl ?_)
  refine XL.mv (.bool (decide ((t.getD k 0 : Int) ≥ 0))) rfl ?_
  by_cases h2 : (t.getD k 0 : Int) ≥ 0
  ·refine XL.yes (t := 17) rfl (vT h2) (XOp.loadN [arv, rsv] isAgg29 sizeOf29 rfl rfl (Rd.ownN [_] rfl rfl) ?_)
   refine XL.yes (t := 17) rfl (vT h2) (XOp.move (tv) rfl ?_)
   refine XL.yes (t := 17) rfl (vT h2) (XOp.move (.int .i64 ((k : Int))) rfl ?_)
   refine XL.yes (t := 17) rfl (vT h2) (XOp.call (args := [.agg #[arv, rsv], tv, .int .i64 (k : Int)]) call105 rfl (ruleAt_spec (p := k) har hrs ht (hsys := (by first | assumption | rfl | omega | simp)) (ho := (by first | assumption | rfl | omega | simp)) (hp := (by first | assumption | rfl | omega | simp))) ?_)
   rintro _ _ _ _ ⟨rfl, rfl, rfl⟩
   refine XL.yes (t := 17) rfl (vT h2) (XOp.geq (a := ruleAtL ar rs t k) (b := 0) rfl rfl ?_)
   refine cX (XOp.pickT (.bool (decide ((ruleAtL ar rs t k : Int) ≥ 0))) (vT h2) rfl ?_)
   refine XL.nil ?_
   refine X.condD (p := (ruleAtL ar rs t k : Int) ≥ 0) rfl (fun h3 => ?_) (fun h3 => ?_)
   ·refine X.region ?_
    refine XL.mv (ov) rfl ?_
    refine XL.mv (.int .i64 ((k : Int))) rfl ?_
    refine cX (XOp.buildSlice (s := 1) [.int .i64 ((k : Int))] [.int .i64 (0)] [(0, [.int .i64 ((k : Int))])] runUnderlying185 sizeOf3 zeroValue3 rfl (by decide) rfl (.cons rfl CellsAre.nil) rfl ?_)
    intro v1 hv1
    refine cX (XOp.append1 (u := (k : Int)) [_] _ runUnderlying185 typeInfo3 rfl rfl rfl rfl rfl rfl (SlV.own [] rfl) (Rd.sl [] rfl rfl) (by (try simp only [List.length_append, List.length_nil, List.length_cons, List.length_singleton, List.length_take, List.length_drop]); omega) ?_)
    intro v2 hs1 hn1
    refine XL.as (v2) rfl ?_
    refine XL.nil (X.region ?_)
    refine cX (XOp.addR (a := (k : Int)) (b := 1) (((k + 1 : Nat) : Int)) rfl rfl (by omega) (by omega) ?_)
    refine XL.mv (.int .i64 (((k + 1 : Nat) : Int))) rfl ?_
    refine XL.nil ?_
    exact ⟨(k + 1, v2, os ++ [(k : Int)]), _, FLe.refl _, rF, ⟨rfl, rfl, rfl, rfl, rfl, rfl, trivial⟩, (sD (sC (sC sR))), ⟨rfl, (hs1), (by (try dsimp only) <;> omega), ((by dsimp only; rw [hos]; first | exact (redTo_yes (by omega)).symm | exact (redTo_no (by omega)).symm | exact (redTo_no (by rw [ruleAt_var hsys ho (by omega) (by omega)]; omega)).symm))⟩, (by omega)⟩
   refine X.skip (X.region ?_)
   refine cX (XOp.addR (a := (k : Int)) (b := 1) (((k + 1 : Nat) : Int)) rfl rfl (by omega) (by omega) ?_)
   refine XL.mv (.int .i64 (((k + 1 : Nat) : Int))) rfl ?_
   refine XL.nil ?_
   exact ⟨(k + 1, ov, os), _, FLe.refl _, rF, ⟨rfl, rfl, rfl, rfl, rfl, rfl, trivial⟩, (sC (sC sR)), ⟨rfl, (hov), (by (try dsimp only) <;> omega), ((by dsimp only; rw [hos]; first | exact (redTo_yes (by omega)).symm | exact (redTo_no (by omega)).symm | exact (redTo_no (by rw [ruleAt_var hsys ho (by omega) (by omega)]; omega)).symm))⟩, (by omega)⟩
  refine XL.no (t := 17) rfl (vF h2) ?_
  refine XL.no (t := 17) rfl (vF h2) ?_
  refine XL.no (t := 17) rfl (vF h2) ?_
  refine XL.no (t := 17) rfl (vF h2) ?_
  refine XL.no (t := 17) rfl (vF h2) ?_
  refine cX (XOp.pickF (.bool (false)) (vF h2) rfl ?_)
  refine XL.nil ?_
  refine X.condF rfl ?_
  refine X.skip (X.region ?_)
  refine cX (XOp.addR (a := (k : Int)) (b := 1) (((k + 1 : Nat) : Int)) rfl rfl (by omega) (by omega) ?_)
  refine XL.mv (.int .i64 (((k + 1 : Nat) : Int))) rfl ?_
  refine XL.nil ?_
  exact ⟨(k + 1, ov, os), _, FLe.refl _, rF, ⟨rfl, rfl, rfl, rfl, rfl, rfl, trivial⟩, (sC (sC sR)), ⟨rfl, (hov), (by (try dsimp only) <;> omega), ((by dsimp only; rw [hos]; first | exact (redTo_yes (by omega)).symm | exact (redTo_no (by omega)).symm | exact (redTo_no (by rw [ruleAt_var hsys ho (by omega) (by omega)]; omega)).symm))⟩, (by omega)⟩
 refine X.exit (thenQ_exit (thenQ_exit (blockQ_exit ?_)))
 refine X.seq (X.region ?_)
 refine XL.mv (ov) rfl ?_
 refine XL.as (ov) rfl ?_
 refine XL.nil ?_
 refine X.ret (retEnd (L' := intsH 3 ov os :: L) [ov] (ov) (.tmp rfl .nil) rfl rF rF (sC (sD sR)) ?_)
 refine ⟨rfl, hov, ?_⟩
 have hxs : (redL ar rs t : List Int) = os := by rw [hos, redL, show k = t.length from by omega]
 exact congrArg (fun z => intsH 3 _ z :: L) hxs

/- impl.inmost -/
theorem inmost_spec {F : FH} {L : List HP} {arv : Value} {ar : List Int} (har : IntsF F arv ar) {rsv : Value} {rs : List (List Int × List Int)} (hrs : PairsF F rsv rs) {tv : Value} {t : List Int} (ht : IntsF F tv t) (hsys : sysOk ar rs = true) (ho : termOk ar t = true) :
    Does prog 197 [.agg #[arv, rsv], tv] F (L) (fun v F' L' => F = F' ∧ IsSl v ∧ intsH 3 v (inL ar rs t) :: L = L') := by
 refine Does.of_X func197 rfl rfl rfl ?_
 have hnn := notNil_of_pos ht (by have := termOk_len ho; omega)
 have htl := termOk_len ho
 have hrl := (sysOk_iff.1 hsys).2.1
 have hsig := (sysOk_iff.1 hsys).1
 have hsl := sigOk_spec hsig
 have hrd := redL_len (ar := ar) (rs := rs) (t := t)
 refine X.seq (X.region ?_)
 refine cX (XOp.box [arv, rsv] rfl rfl ?_)
 intro b1
 refine XL.as ((.slice none 0 0)) rfl ?_
 refine XL.nil (X.seq (X.region ?_))
 refine cX (XOp.loadN [arv, rsv] isAgg29 sizeOf29 rfl rfl (Rd.ownN [] rfl rfl) ?_)
 refine XL.mv (tv) rfl ?_
 refine cX (XOp.frzF <| XOp.call (args := [.agg #[arv, rsv], tv]) call161 rfl (redexes_spec har hrs ht (hsys := (by first | assumption | rfl | omega | simp)) (ho := (by first | assumption | rfl | omega | simp))) ?_)
 rintro v1 _ _ _ ⟨rfl, hs1, rfl⟩
 refine ⟨_, _, rfl, fun F1 le1 hz1 => ?_⟩
 replace har := har.mono le1
 replace ht := ht.mono le1
 have hf1 : IntsF F1 v1 ((redL ar rs t)) := intsH.fz (xs := (redL ar rs t)) hz1.fz
 refine XL.as (v1) rfl ?_
 refine XL.nil (X.seq (X.region ?_))
 refine XL.as ((.slice none 0 0)) rfl ?_
 refine XL.nil (X.seq (X.seq (X.region ?_)))
 refine XL.mv (v1) rfl ?_
 refine cX (XOp.lenS (v := v1) (n := ((redL ar rs t)).length) runUnderlying185 rfl hf1.slv ?_)
 refine XL.mv (.int .i64 (0)) rfl ?_
 refine XL.nil (X.block ?_)
 refine X.loop (α := Nat × Value × List Int) (fun xQ => [(1, tv), (2, ptr b1 0), (5, v1), (6, xQ.2.1), (12, v1), (13, .int .i64 (((((redL ar rs t)).length : Nat) : Int))), (14, .int .i64 (((xQ.1 : Nat) : Int)))]) (fun xQ => intsH 3 xQ.2.1 xQ.2.2 :: cellsH b1 [arv, rsv] 29 :: L) (fun xQ F' => F1 = F' ∧ (IsSl xQ.2.1) ∧ (xQ.1 ≤ (redL ar rs t).length) ∧ (xQ.2.2 = inTo ar t (redL ar rs t) xQ.1)) (fun xQ => (redL ar rs t).length - xQ.1) (0, (.slice none 0 0), []) ⟨rfl, rfl, rfl, rfl, rfl, rfl, rfl, trivial⟩ (Sub.trans (intsH.addNil 3 none _) (sC (sC sR))) ⟨rfl, (⟨_, _, _, rfl⟩), (by (try dsimp only) <;> omega), (rfl)⟩ ?_
 rintro ⟨k, ov, os⟩ rE _ _ ⟨rfl, hov, hk, hos⟩
 show X _ _ _ _ (envs [(1, tv), (2, ptr b1 0), (5, v1), (6, ov), (12, v1), (13, .int .i64 (((((redL ar rs t)).length : Nat) : Int))), (14, .int .i64 ((k : Int)))] rE) _ (intsH 3 ov os :: cellsH b1 [arv, rsv] 29 :: L)
 dsimp only at hov hk hos
 have hol : os.length ≤ k := by rw [hos]; exact inTo_len
 have hsp := fun h => redL_spec (ar := ar) (rs := rs) (t := t) 0 k h
 have has := fun h => redL_asc (ar := ar) (rs := rs) (t := t) (i := k) h
 refine X.seq (X.region ?_)
 refine cX (XOp.lss (a := (k : Int)) (b := ((((redL ar rs t)).length : Nat) : Int)) rfl rfl ?_)
 refine XL.nil (X.seq ?_)
 refine X.condD (p := (k : Int) < ((((redL ar rs t)).length : Nat) : Int)) rfl (fun h1 => ?_) (fun h1 => ?_)
 ·refine X.skip (X.seq (X.block (X.seq (X.region ?_))))
  refine XL.mv (.int .i64 ((k : Int))) rfl ?_
  refine cX (XOp.indexS (v := v1) (i := (k : Int)) (n := ((redL ar rs t)).length) k runUnderlying185 sizeOf3 rfl rfl rfl hf1.slv (by omega) (Nat.mul_one _) ?_)
  refine cX (XOp.load1 (v := .int .i64 (((redL ar rs t)).getD k 0)) isAgg3 rfl (hf1.rd (by omega)) ?_)
  refine XL.as (.int .i64 ((k : Int))) rfl ?_
  refine XL.as (.int .i64 (((redL ar rs t)).getD k 0)) rfl ?_
  refine XL.nil (X.seq ?_)
  by_cases h2 : (((k + 1 : Nat) : Int) : Int) = ((((redL ar rs t)).length : Nat) : Int)
  ·refine X.draw [intsH 3 ov os, cellsH b1 [arv, rsv] 29] L 15 [[], [], [], [], [], [], [], [], [], [], [], [], [], [], []] [[], [0], [], [2], [1, 3], [4], [5], [5, 6], [5], [5], [5], [5], [5, 11], [5, 10, 12], [5, 13]] (phiL [fun us v => v = (.int .i64 ((k : Int)) : Value), fun us v => v = (.int .i64 (((k + 1 : Nat) : Int)) : Value), fun us v => v = v1, fun us v => v = (.int .i64 (((((redL ar rs t)).length : Nat) : Int)) : Value), fun us v => v = (.bool (decide ((((k + 1 : Nat) : Int) : Int) = ((((redL ar rs t)).length : Nat) : Int))) : Value), fun us v => v = (.bool (decide ((((k + 1 : Nat) : Int) : Int) = ((((redL ar rs t)).length : Nat) : Int))) : Value), fun us v => v = undef, fun us v => v = undef, fun us v => v = undef, fun us v => v = undef, fun us v => v = undef, fun us v => v = undef, fun us v => v = undef, fun us v => v = undef, fun us v => v = undef]) (ownL [fun us v => [], fun us v => [], fun us v => [], fun us v => [], fun us v => [], fun us v => [], fun us v => [], fun us v => [], fun us v => [], fun us v => [], fun us v => [], fun us v => [], fun us v => [], fun us v => [], fun us v => []]) mixed rfl rfl (by kernel_rfl) ?_ ?_
   ·refine pC (fun vals R hpZ => ?_) ?_
    ·refine XG.op (XOp.move (.int .i64 ((k : Int))) rfl ?_)
     exact ⟨rfl, rfl, rfl⟩
    refine pC (fun vals R hpZ => ?_) ?_
    ·rw [eS (l := [(0, (.int .i64 ((k : Int)) : Value))]) ⟨hpZ 0 (by decide), trivial⟩]
     refine XG.op (XOp.addR (a := (k : Int)) (b := 1) (((k + 1 : Nat) : Int)) rfl rfl (by omega) (by omega) ?_)
     exact ⟨rfl, rfl, rfl⟩
    refine pC (fun vals R hpZ => ?_) ?_
    ·refine XG.op (XOp.move (v1) rfl ?_)
     exact ⟨rfl, rfl, rfl⟩
    refine pC (fun vals R hpZ => ?_) ?_
    ·rw [eS (l := [(2, v1)]) ⟨hpZ 2 (by decide), trivial⟩]
     refine XG.op (XOp.lenS (v := v1) (n := ((redL ar rs t)).length) runUnderlying185 rfl hf1.slv ?_)
     exact ⟨rfl, rfl, rfl⟩
    refine pC (fun vals R hpZ => ?_) ?_
    ·rw [eS (l := [(1, (.int .i64 (((k + 1 : Nat) : Int)) : Value)), (3, (.int .i64 (((((redL ar rs t)).length : Nat) : Int)) : Value))]) ⟨hpZ 1 (by decide), hpZ 3 (by decide), trivial⟩]
     refine XG.op (XOp.eql (a := ((k + 1 : Nat) : Int)) (b := ((((redL ar rs t)).length : Nat) : Int)) rfl rfl ?_)
     exact ⟨rfl, rfl, rfl⟩
    refine pC (fun vals R hpZ => ?_) ?_
    ·rw [eS (l := [(4, (.bool (decide ((((k + 1 : Nat) : Int) : Int) = ((((redL ar rs t)).length : Nat) : Int))) : Value))]) ⟨hpZ 4 (by decide), trivial⟩]
     refine XG.op (XOp.move (.bool (decide ((((k + 1 : Nat) : Int) : Int) = ((((redL ar rs t)).length : Nat) : Int)))) rfl ?_)
     exact ⟨rfl, rfl, rfl⟩
    refine pC (fun vals R hpZ => ?_) ?_
    ·rw [eS (l := [(5, (.bool (decide ((((k + 1 : Nat) : Int) : Int) = ((((redL ar rs t)).length : Nat) : Int))) : Value))]) ⟨hpZ 5 (by decide), trivial⟩]
     exact XG.no (t := 24) rfl (vT h2) ⟨rfl, rfl, rfl⟩
    refine pC (fun vals R hpZ => ?_) ?_
    ·rw [eS (l := [(5, (.bool (decide ((((k + 1 : Nat) : Int) : Int) = ((((redL ar rs t)).length : Nat) : Int))) : Value)), (6, undef)]) ⟨hpZ 5 (by decide), hpZ 6 (by decide), trivial⟩]
     exact XG.no (t := 24) rfl (vT h2) ⟨rfl, rfl, rfl⟩
    refine pC (fun vals R hpZ => ?_) ?_
    ·rw [eS (l := [(5, (.bool (decide ((((k + 1 : Nat) : Int) : Int) = ((((redL ar rs t)).length : Nat) : Int))) : Value))]) ⟨hpZ 5 (by decide), trivial⟩]
     exact XG.no (t := 24) rfl (vT h2) ⟨rfl, rfl, rfl⟩
    refine pC (fun vals R hpZ => ?_) ?_
    ·rw [eS (l := [(5, (.bool (decide ((((k + 1 : Nat) : Int) : Int) = ((((redL ar rs t)).length : Nat) : Int))) : Value))]) ⟨hpZ 5 (by decide), trivial⟩]
     exact XG.no (t := 24) rfl (vT h2) ⟨rfl, rfl, rfl⟩
    refine pC (fun vals R hpZ => ?_) ?_
    ·rw [eS (l := [(5, (.bool (decide ((((k + 1 : Nat) : Int) : Int) = ((((redL ar rs t)).length : Nat) : Int))) : Value))]) ⟨hpZ 5 (by decide), trivial⟩]
     exact XG.no (t := 24) rfl (vT h2) ⟨rfl, rfl, rfl⟩
    refine pC (fun vals R hpZ => ?_) ?_
    ·rw [eS (l := [(5, (.bool (decide ((((k + 1 : Nat) : Int) : Int) = ((((redL ar rs t)).length : Nat) : Int))) : Value))]) ⟨hpZ 5 (by decide), trivial⟩]
     exact XG.no (t := 24) rfl (vT h2) ⟨rfl, rfl, rfl⟩
    refine pC (fun vals R hpZ => ?_) ?_
    ·rw [eS (l := [(5, (.bool (decide ((((k + 1 : Nat) : Int) : Int) = ((((redL ar rs t)).length : Nat) : Int))) : Value)), (11, undef)]) ⟨hpZ 5 (by decide), hpZ 11 (by decide), trivial⟩]
     exact XG.no (t := 24) rfl (vT h2) ⟨rfl, rfl, rfl⟩
    refine pC (fun vals R hpZ => ?_) ?_
    ·rw [eS (l := [(5, (.bool (decide ((((k + 1 : Nat) : Int) : Int) = ((((redL ar rs t)).length : Nat) : Int))) : Value)), (10, undef), (12, undef)]) ⟨hpZ 5 (by decide), hpZ 10 (by decide), hpZ 12 (by decide), trivial⟩]
     exact XG.no (t := 24) rfl (vT h2) ⟨rfl, rfl, rfl⟩
    refine pC (fun vals R hpZ => ?_) ?_
    ·rw [eS (l := [(5, (.bool (decide ((((k + 1 : Nat) : Int) : Int) = ((((redL ar rs t)).length : Nat) : Int))) : Value)), (13, undef)]) ⟨hpZ 5 (by decide), hpZ 13 (by decide), trivial⟩]
     exact XG.no (t := 24) rfl (vT h2) ⟨rfl, rfl, rfl⟩
    exact stepsP.nil
   intro vals hphi
   rw [eS (l := [(5, (.bool (decide ((((k + 1 : Nat) : Int) : Int) = ((((redL ar rs t)).length : Nat) : Int))) : Value)), (7, undef), (8, undef), (9, undef), (14, undef)]) ⟨(hphi 5 (by decide)), (hphi 7 (by decide)), (hphi 8 (by decide)), (hphi 9 (by decide)), (hphi 14 (by decide)), trivial⟩]
   show XL _ _ _ _ _ _ _ (intsH 3 ov os :: cellsH b1 [arv, rsv] 29 :: L)
   refine XL.no (t := 24) rfl (vT h2) ?_
   refine XL.no (t := 24) rfl (vT h2) ?_
   refine cX (XOp.pickT (.bool (true)) (vT h2) rfl ?_)
   refine XL.nil ?_
   refine X.condT rfl ?_
   refine X.region ?_
   refine XL.mv (ov) rfl ?_
   refine XL.mv (.int .i64 (((redL ar rs t)).getD k 0)) rfl ?_
   refine cX (XOp.buildSlice (s := 1) [.int .i64 (((redL ar rs t)).getD k 0)] [.int .i64 (0)] [(0, [.int .i64 (((redL ar rs t)).getD k 0)])] runUnderlying185 sizeOf3 zeroValue3 rfl (by decide) rfl (.cons rfl CellsAre.nil) rfl ?_)
   intro v2 hv1
   refine cX (XOp.append1 (u := ((redL ar rs t)).getD k 0) [_] _ runUnderlying185 typeInfo3 rfl rfl rfl rfl rfl rfl (SlV.own [] rfl) (Rd.sl [] rfl rfl) (by (try simp only [List.length_append, List.length_nil, List.length_cons, List.length_singleton, List.length_take, List.length_drop]); omega) ?_)
   intro v3 hs2 hn1
   refine XL.as (v3) rfl ?_
   refine XL.nil (X.region ?_)
   refine cX (XOp.addR (a := (k : Int)) (b := 1) (((k + 1 : Nat) : Int)) rfl rfl (by omega) (by omega) ?_)
   refine XL.mv (.int .i64 (((k + 1 : Nat) : Int))) rfl ?_
   refine XL.nil ?_
   exact ⟨(k + 1, v3, os ++ [((redL ar rs t)).getD k 0]), _, FLe.refl _, rF, ⟨rfl, rfl, rfl, rfl, rfl, rfl, rfl, trivial⟩, (sD (sC (sC sR))), ⟨rfl, (hs2), (by (try dsimp only) <;> omega), ((by dsimp only; rw [hos]; first | exact (inTo_yes (by simp only [inOk, decide_eq_true_eq]; omega)).symm | exact (inTo_no (by simp only [inOk, decide_eq_false_iff_not]; omega)).symm))⟩, (by omega)⟩
  refine X.draw [intsH 3 ov os, cellsH b1 [arv, rsv] 29] L 15 [[], [], [], [], [], [], [], [], [], [], [], [], [], [], []] [[], [0], [], [2], [1, 3], [4], [5], [5, 6], [5], [5], [5], [5], [5, 11], [5, 10, 12], [5, 13]] (phiL [fun us v => v = (.int .i64 ((k : Int)) : Value), fun us v => v = (.int .i64 (((k + 1 : Nat) : Int)) : Value), fun us v => v = v1, fun us v => v = (.int .i64 (((((redL ar rs t)).length : Nat) : Int)) : Value), fun us v => v = (.bool (decide ((((k + 1 : Nat) : Int) : Int) = ((((redL ar rs t)).length : Nat) : Int))) : Value), fun us v => v = (.bool (decide ((((k + 1 : Nat) : Int) : Int) = ((((redL ar rs t)).length : Nat) : Int))) : Value), fun us v => v = ptr b1 0, fun us v => v = (.agg #[arv] : Value), fun us v => v = tv, fun us v => v = (.int .i64 (((redL ar rs t)).getD k 0) : Value), fun us v => v = v1, fun us v => v = (.int .i64 ((k : Int)) : Value), fun us v => v = (.int .i64 (((k + 1 : Nat) : Int)) : Value), fun us v => v = (.pointer (some (elemA v1 (k + 1))) : Value), fun us v => v = (.int .i64 (((redL ar rs t)).getD (k + 1) 0) : Value)]) (ownL [fun us v => [], fun us v => [], fun us v => [], fun us v => [], fun us v => [], fun us v => [], fun us v => [], fun us v => [], fun us v => [], fun us v => [], fun us v => [], fun us v => [], fun us v => [], fun us v => [], fun us v => []]) mixed rfl rfl (by kernel_rfl) ?_ ?_
  ·refine pC (fun vals R hpZ => ?_) ?_
   ·refine XG.op (XOp.move (.int .i64 ((k : Int))) rfl ?_)
    exact ⟨rfl, rfl, rfl⟩
   refine pC (fun vals R hpZ => ?_) ?_
   ·rw [eS (l := [(0, (.int .i64 ((k : Int)) : Value))]) ⟨hpZ 0 (by decide), trivial⟩]
    refine XG.op (XOp.addR (a := (k : Int)) (b := 1) (((k + 1 : Nat) : Int)) rfl rfl (by omega) (by omega) ?_)
    exact ⟨rfl, rfl, rfl⟩
   refine pC (fun vals R hpZ => ?_) ?_
   ·refine XG.op (XOp.move (v1) rfl ?_)
    exact ⟨rfl, rfl, rfl⟩
   refine pC (fun vals R hpZ => ?_) ?_
   ·rw [eS (l := [(2, v1)]) ⟨hpZ 2 (by decide), trivial⟩]
    refine XG.op (XOp.lenS (v := v1) (n := ((redL ar rs t)).length) runUnderlying185 rfl hf1.slv ?_)
    exact ⟨rfl, rfl, rfl⟩
   refine pC (fun vals R hpZ => ?_) ?_
   ·rw [eS (l := [(1, (.int .i64 (((k + 1 : Nat) : Int)) : Value)), (3, (.int .i64 (((((redL ar rs t)).length : Nat) : Int)) : Value))]) ⟨hpZ 1 (by decide), hpZ 3 (by decide), trivial⟩]
    refine XG.op (XOp.eql (a := ((k + 1 : Nat) : Int)) (b := ((((redL ar rs t)).length : Nat) : Int)) rfl rfl ?_)
    exact ⟨rfl, rfl, rfl⟩
   refine pC (fun vals R hpZ => ?_) ?_
   ·rw [eS (l := [(4, (.bool (decide ((((k + 1 : Nat) : Int) : Int) = ((((redL ar rs t)).length : Nat) : Int))) : Value))]) ⟨hpZ 4 (by decide), trivial⟩]
    refine XG.op (XOp.move (.bool (decide ((((k + 1 : Nat) : Int) : Int) = ((((redL ar rs t)).length : Nat) : Int)))) rfl ?_)
    exact ⟨rfl, rfl, rfl⟩
   refine pC (fun vals R hpZ => ?_) ?_
   ·rw [eS (l := [(5, (.bool (decide ((((k + 1 : Nat) : Int) : Int) = ((((redL ar rs t)).length : Nat) : Int))) : Value))]) ⟨hpZ 5 (by decide), trivial⟩]
    refine XG.yes (t := 24) rfl (vF h2) (XOp.fieldP (b := b1) (0) runUnderlying29 rfl sizeOf26 (by decide) rfl rfl ?_)
    exact ⟨rfl, rfl, rfl⟩
   refine pC (fun vals R hpZ => ?_) ?_
   ·rw [eS (l := [(5, (.bool (decide ((((k + 1 : Nat) : Int) : Int) = ((((redL ar rs t)).length : Nat) : Int))) : Value)), (6, ptr b1 0)]) ⟨hpZ 5 (by decide), hpZ 6 (by decide), trivial⟩]
    refine XG.yes (t := 24) rfl (vF h2) (XOp.loadN [arv] isAgg26 sizeOf26 rfl rfl (Rd.ownN [_] rfl rfl) ?_)
    exact ⟨rfl, rfl, rfl⟩
   refine pC (fun vals R hpZ => ?_) ?_
   ·rw [eS (l := [(5, (.bool (decide ((((k + 1 : Nat) : Int) : Int) = ((((redL ar rs t)).length : Nat) : Int))) : Value))]) ⟨hpZ 5 (by decide), trivial⟩]
    refine XG.yes (t := 24) rfl (vF h2) (XOp.move (tv) rfl ?_)
    exact ⟨rfl, rfl, rfl⟩
   refine pC (fun vals R hpZ => ?_) ?_
   ·rw [eS (l := [(5, (.bool (decide ((((k + 1 : Nat) : Int) : Int) = ((((redL ar rs t)).length : Nat) : Int))) : Value))]) ⟨hpZ 5 (by decide), trivial⟩]
    refine XG.yes (t := 24) rfl (vF h2) (XOp.move (.int .i64 (((redL ar rs t)).getD k 0)) rfl ?_)
    exact ⟨rfl, rfl, rfl⟩
   refine pC (fun vals R hpZ => ?_) ?_
   ·rw [eS (l := [(5, (.bool (decide ((((k + 1 : Nat) : Int) : Int) = ((((redL ar rs t)).length : Nat) : Int))) : Value))]) ⟨hpZ 5 (by decide), trivial⟩]
    refine XG.yes (t := 24) rfl (vF h2) (XOp.move (v1) rfl ?_)
    exact ⟨rfl, rfl, rfl⟩
   refine pC (fun vals R hpZ => ?_) ?_
   ·rw [eS (l := [(5, (.bool (decide ((((k + 1 : Nat) : Int) : Int) = ((((redL ar rs t)).length : Nat) : Int))) : Value))]) ⟨hpZ 5 (by decide), trivial⟩]
    refine XG.yes (t := 24) rfl (vF h2) (XOp.move (.int .i64 ((k : Int))) rfl ?_)
    exact ⟨rfl, rfl, rfl⟩
   refine pC (fun vals R hpZ => ?_) ?_
   ·rw [eS (l := [(5, (.bool (decide ((((k + 1 : Nat) : Int) : Int) = ((((redL ar rs t)).length : Nat) : Int))) : Value)), (11, (.int .i64 ((k : Int)) : Value))]) ⟨hpZ 5 (by decide), hpZ 11 (by decide), trivial⟩]
    refine XG.yes (t := 24) rfl (vF h2) (XOp.addR (a := (k : Int)) (b := 1) (((k + 1 : Nat) : Int)) rfl rfl (by omega) (by omega) ?_)
    exact ⟨rfl, rfl, rfl⟩
   refine pC (fun vals R hpZ => ?_) ?_
   ·rw [eS (l := [(5, (.bool (decide ((((k + 1 : Nat) : Int) : Int) = ((((redL ar rs t)).length : Nat) : Int))) : Value)), (10, v1), (12, (.int .i64 (((k + 1 : Nat) : Int)) : Value))]) ⟨hpZ 5 (by decide), hpZ 10 (by decide), hpZ 12 (by decide), trivial⟩]
    refine XG.yes (t := 24) rfl (vF h2) (XOp.indexS (v := v1) (i := ((k + 1 : Nat) : Int)) (n := ((redL ar rs t)).length) (k + 1) runUnderlying185 sizeOf3 rfl rfl rfl hf1.slv (by omega) (Nat.mul_one _) ?_)
    exact ⟨rfl, rfl, rfl⟩
   refine pC (fun vals R hpZ => ?_) ?_
   ·rw [eS (l := [(5, (.bool (decide ((((k + 1 : Nat) : Int) : Int) = ((((redL ar rs t)).length : Nat) : Int))) : Value)), (13, (.pointer (some (elemA v1 (k + 1))) : Value))]) ⟨hpZ 5 (by decide), hpZ 13 (by decide), trivial⟩]
    refine XG.yes (t := 24) rfl (vF h2) (XOp.load1 (v := .int .i64 (((redL ar rs t)).getD (k + 1) 0)) isAgg3 rfl (hf1.rd (by omega)) ?_)
    exact ⟨rfl, rfl, rfl⟩
   exact stepsP.nil
  intro vals hphi
  rw [eS (l := [(5, (.bool (decide ((((k + 1 : Nat) : Int) : Int) = ((((redL ar rs t)).length : Nat) : Int))) : Value)), (7, (.agg #[arv] : Value)), (8, tv), (9, (.int .i64 (((redL ar rs t)).getD k 0) : Value)), (14, (.int .i64 (((redL ar rs t)).getD (k + 1) 0) : Value))]) ⟨(hphi 5 (by decide)), (hphi 7 (by decide)), (hphi 8 (by decide)), (hphi 9 (by decide)), (hphi 14 (by decide)), trivial⟩]
  show XL _ _ _ _ _ _ _ (intsH 3 ov os :: cellsH b1 [arv, rsv] 29 :: L)
  refine XL.yes (t := 24) rfl (vF h2) (XOp.call (args := [.agg #[arv], tv, .int .i64 (((((redL ar rs t)).getD k 0).toNat : Nat) : Int), .int .i64 (((redL ar rs t)).getD (k + 1) 0)]) call209 (by rw [show (((((redL ar rs t)).getD k 0).toNat : Nat) : Int) = ((redL ar rs t)).getD k 0 from by omega]; rfl) (inside_spec (p := (((redL ar rs t)).getD k 0).toNat) (q := ((redL ar rs t)).getD (k + 1) 0) har ht (ho := (by first | assumption | rfl | omega | simp)) (hp := (by first | assumption | rfl | omega | simp))) ?_)
  rintro _ _ _ _ ⟨rfl, rfl, rfl⟩
  refine XL.yes (t := 24) rfl (vF h2) (XOp.notD (p := (((((redL ar rs t)).getD k 0).toNat) : Int) ≤ (((redL ar rs t)).getD (k + 1) 0) ∧ (((redL ar rs t)).getD (k + 1) 0) < (endN ar t ((((redL ar rs t)).getD k 0).toNat) : Int)) rfl ?_)
  refine cX (XOp.pickF (.bool (decide (¬((((((redL ar rs t)).getD k 0).toNat) : Int) ≤ (((redL ar rs t)).getD (k + 1) 0) ∧ (((redL ar rs t)).getD (k + 1) 0) < (endN ar t ((((redL ar rs t)).getD k 0).toNat) : Int))))) (vF h2) rfl ?_)
  refine XL.nil ?_
  refine X.condD (p := ¬((((((redL ar rs t)).getD k 0).toNat) : Int) ≤ (((redL ar rs t)).getD (k + 1) 0) ∧ (((redL ar rs t)).getD (k + 1) 0) < (endN ar t ((((redL ar rs t)).getD k 0).toNat) : Int))) rfl (fun h3 => ?_) (fun h3 => ?_)
  ·refine X.region ?_
   refine XL.mv (ov) rfl ?_
   refine XL.mv (.int .i64 (((redL ar rs t)).getD k 0)) rfl ?_
   refine cX (XOp.buildSlice (s := 1) [.int .i64 (((redL ar rs t)).getD k 0)] [.int .i64 (0)] [(0, [.int .i64 (((redL ar rs t)).getD k 0)])] runUnderlying185 sizeOf3 zeroValue3 rfl (by decide) rfl (.cons rfl CellsAre.nil) rfl ?_)
   intro v4 hv2
   refine cX (XOp.append1 (u := ((redL ar rs t)).getD k 0) [_] _ runUnderlying185 typeInfo3 rfl rfl rfl rfl rfl rfl (SlV.own [] rfl) (Rd.sl [] rfl rfl) (by (try simp only [List.length_append, List.length_nil, List.length_cons, List.length_singleton, List.length_take, List.length_drop]); omega) ?_)
   intro v5 hs3 hn2
   refine XL.as (v5) rfl ?_
   refine XL.nil (X.region ?_)
   refine cX (XOp.addR (a := (k : Int)) (b := 1) (((k + 1 : Nat) : Int)) rfl rfl (by omega) (by omega) ?_)
   refine XL.mv (.int .i64 (((k + 1 : Nat) : Int))) rfl ?_
   refine XL.nil ?_
   exact ⟨(k + 1, v5, os ++ [((redL ar rs t)).getD k 0]), _, FLe.refl _, rF, ⟨rfl, rfl, rfl, rfl, rfl, rfl, rfl, trivial⟩, (sD (sC (sC sR))), ⟨rfl, (hs3), (by (try dsimp only) <;> omega), ((by dsimp only; rw [hos]; first | exact (inTo_yes (by simp only [inOk, decide_eq_true_eq]; omega)).symm | exact (inTo_no (by simp only [inOk, decide_eq_false_iff_not]; omega)).symm))⟩, (by omega)⟩
  refine X.skip (X.region ?_)
  refine cX (XOp.addR (a := (k : Int)) (b := 1) (((k + 1 : Nat) : Int)) rfl rfl (by omega) (by omega) ?_)
  refine XL.mv (.int .i64 (((k + 1 : Nat) : Int))) rfl ?_
  refine XL.nil ?_
  exact ⟨(k + 1, ov, os), _, FLe.refl _, rF, ⟨rfl, rfl, rfl, rfl, rfl, rfl, rfl, trivial⟩, (sC (sC sR)), ⟨rfl, (hov), (by (try dsimp only) <;> omega), ((by dsimp only; rw [hos]; first | exact (inTo_yes (by simp only [inOk, decide_eq_true_eq]; omega)).symm | exact (inTo_no (by simp only [inOk, decide_eq_false_iff_not]; omega)).symm))⟩, (by omega)⟩
 refine X.exit (thenQ_exit (thenQ_exit (blockQ_exit ?_)))
 refine X.seq (X.region ?_)
 refine XL.mv (ov) rfl ?_
 refine XL.as (ov) rfl ?_
 refine XL.nil ?_
 refine X.ret (retEnd (L' := intsH 3 ov os :: L) [ov] (ov) (.tmp rfl .nil) rfl rF le1 (sC (sD sR)) ?_)
 refine ⟨rfl, hov, ?_⟩
 have hxs : (inL ar rs t : List Int) = os := by rw [hos, inL, show k = (redL ar rs t).length from by omega]
 exact congrArg (fun z => intsH 3 _ z :: L) hxs

/- (impl.choice).inmost -/
theorem chIn_spec {F : FH} {L : List HP} {arv : Value} {ar : List Int} (har : IntsF F arv ar) {rsv : Value} {rs : List (List Int × List Int)} (hrs : PairsF F rsv rs) {tv : Value} {t : List Int} (ht : IntsF F tv t) {allv : Value} {all : List Int} (hall : IntsF F allv all) (hsys : sysOk ar rs = true) (ho : termOk ar t = true) (hae : all = redL ar rs t) (hne : redL ar rs t ≠ []) :
    Does prog 162 [.agg #[arv, rsv, tv, allv]] F (L) (fun v F' L' => (.int .i64 ((inL ar rs t).getD 0 0) : Value) = v ∧ F = F' ∧ L = L') := by
 refine Does.of_X func162 rfl rfl rfl ?_
 have hnn := notNil_of_pos ht (by have := termOk_len ho; omega)
 have htl := termOk_len ho
 have hrl := (sysOk_iff.1 hsys).2.1
 have hsig := (sysOk_iff.1 hsys).1
 have hsl := sigOk_spec hsig
 have hrd := redL_len (ar := ar) (rs := rs) (t := t)
 have hipos := inL_pos hne
 have hapos : 0 < all.length := by rw [hae]; exact List.length_pos_iff.2 hne
 refine X.seq (X.region ?_)
 refine cX (XOp.box [arv, rsv, tv, allv] rfl rfl ?_)
 intro b1
 refine XL.as (.int .i64 (0)) rfl ?_
 refine XL.nil (X.seq (X.region ?_))
 refine cX (XOp.fieldP (b := b1) (0) runUnderlying188 rfl sizeOf29 (by decide) rfl rfl ?_)
 refine cX (XOp.loadN [arv, rsv] isAgg29 sizeOf29 rfl rfl (Rd.ownN [] rfl rfl) ?_)
 refine cX (XOp.fieldP (b := b1) (2) runUnderlying188 rfl sizeOf24 (by decide) rfl rfl ?_)
 refine cX (XOp.load1 (v := tv) isAgg24 rfl (Rd.own [] rfl rfl) ?_)
 refine cX (XOp.frzF <| XOp.call (args := [.agg #[arv, rsv], tv]) call197 rfl (inmost_spec har hrs ht (hsys := (by first | assumption | rfl | omega | simp)) (ho := (by first | assumption | rfl | omega | simp))) ?_)
 rintro v1 _ _ _ ⟨rfl, hs1, rfl⟩
 refine ⟨_, _, rfl, fun F1 le1 hz1 => ?_⟩
 have hf1 : IntsF F1 v1 ((inL ar rs t)) := intsH.fz (xs := (inL ar rs t)) hz1.fz
 refine cX (XOp.indexS (v := v1) (i := 0) (n := ((inL ar rs t)).length) 0 runUnderlying185 sizeOf3 rfl rfl rfl hf1.slv (by omega) (Nat.mul_one _) ?_)
 refine cX (XOp.load1 (v := .int .i64 (((inL ar rs t)).getD 0 0)) isAgg3 rfl (hf1.rd (by omega)) ?_)
 refine XL.as (.int .i64 (((inL ar rs t)).getD 0 0)) rfl ?_
 refine XL.nil ?_
 refine X.ret (retEnd (L' := L) [.int .i64 (((inL ar rs t)).getD 0 0)] (.int .i64 (((inL ar rs t)).getD 0 0)) (.tmp rfl .nil) rfl rF le1 (sD sR) ?_)
 exact ⟨rfl, rfl, rfl⟩

/- (impl.choice).outmost -/
theorem chOut_spec {F : FH} {L : List HP} {arv : Value} {ar : List Int} (har : IntsF F arv ar) {rsv : Value} {rs : List (List Int × List Int)} (hrs : PairsF F rsv rs) {tv : Value} {t : List Int} (ht : IntsF F tv t) {allv : Value} {all : List Int} (hall : IntsF F allv all) (hsys : sysOk ar rs = true) (ho : termOk ar t = true) (hae : all = redL ar rs t) (hne : redL ar rs t ≠ []) :
    Does prog 163 [.agg #[arv, rsv, tv, allv]] F (L) (fun v F' L' => (.int .i64 ((redL ar rs t).getD 0 0) : Value) = v ∧ F = F' ∧ L = L') := by
 refine Does.of_X func163 rfl rfl rfl ?_
 have hnn := notNil_of_pos ht (by have := termOk_len ho; omega)
 have htl := termOk_len ho
 have hrl := (sysOk_iff.1 hsys).2.1
 have hsig := (sysOk_iff.1 hsys).1
 have hsl := sigOk_spec hsig
 have hrd := redL_len (ar := ar) (rs := rs) (t := t)
 have hipos := inL_pos hne
 have hapos : 0 < all.length := by rw [hae]; exact List.length_pos_iff.2 hne
 refine X.seq (X.region ?_)
 refine cX (XOp.box [arv, rsv, tv, allv] rfl rfl ?_)
 intro b1
 refine XL.as (.int .i64 (0)) rfl ?_
 refine XL.nil (X.seq (X.region ?_))
 refine cX (XOp.fieldP (b := b1) (3) runUnderlying188 rfl sizeOf185 (by decide) rfl rfl ?_)
 refine cX (XOp.load1 (v := allv) isAgg185 rfl (Rd.own [] rfl rfl) ?_)
 refine cX (XOp.indexS (v := allv) (i := 0) (n := (all).length) 0 runUnderlying185 sizeOf3 rfl rfl rfl hall.slv (by omega) (Nat.mul_one _) ?_)
 refine cX (XOp.load1 (v := .int .i64 (all.getD 0 0)) isAgg3 rfl (hall.rd (by omega)) ?_)
 refine XL.as (.int .i64 (all.getD 0 0)) rfl ?_
 refine XL.nil ?_
 refine X.ret (retEnd (L' := L) [.int .i64 (all.getD 0 0)] (.int .i64 (all.getD 0 0)) (.tmp rfl .nil) rfl rF rF (sD sR) ?_)
 exact ⟨(vI (by rw [hae])), rfl, rfl⟩

/- (impl.choice).last -/
theorem chLast_spec {F : FH} {L : List HP} {arv : Value} {ar : List Int} (har : IntsF F arv ar) {rsv : Value} {rs : List (List Int × List Int)} (hrs : PairsF F rsv rs) {tv : Value} {t : List Int} (ht : IntsF F tv t) {allv : Value} {all : List Int} (hall : IntsF F allv all) (hsys : sysOk ar rs = true) (ho : termOk ar t = true) (hae : all = redL ar rs t) (hne : redL ar rs t ≠ []) :
    Does prog 164 [.agg #[arv, rsv, tv, allv]] F (L) (fun v F' L' => (.int .i64 ((redL ar rs t).getD ((redL ar rs t).length - 1) 0) : Value) = v ∧ F = F' ∧ L = L') := by
 refine Does.of_X func164 rfl rfl rfl ?_
 have hnn := notNil_of_pos ht (by have := termOk_len ho; omega)
 have htl := termOk_len ho
 have hrl := (sysOk_iff.1 hsys).2.1
 have hsig := (sysOk_iff.1 hsys).1
 have hsl := sigOk_spec hsig
 have hrd := redL_len (ar := ar) (rs := rs) (t := t)
 have hipos := inL_pos hne
 have hapos : 0 < all.length := by rw [hae]; exact List.length_pos_iff.2 hne
 have hal2 : all.length ≤ 60 := by rw [hae]; omega
 refine X.seq (X.region ?_)
 refine cX (XOp.box [arv, rsv, tv, allv] rfl rfl ?_)
 intro b1
 refine XL.as (.int .i64 (0)) rfl ?_
 refine XL.nil (X.seq (X.region ?_))
 refine cX (XOp.fieldP (b := b1) (3) runUnderlying188 rfl sizeOf185 (by decide) rfl rfl ?_)
 refine cX (XOp.load1 (v := allv) isAgg185 rfl (Rd.own [] rfl rfl) ?_)
 refine cX (XOp.fieldP (b := b1) (3) runUnderlying188 rfl sizeOf185 (by decide) rfl rfl ?_)
 refine cX (XOp.load1 (v := allv) isAgg185 rfl (Rd.own [] rfl rfl) ?_)
 refine cX (XOp.lenS (v := allv) (n := (all).length) runUnderlying185 rfl hall.slv ?_)
 refine cX (XOp.subR (a := (all.length : Int)) (b := 1) (((all.length : Int)) - 1) rfl rfl (by omega) (by omega) ?_)
 refine cX (XOp.indexS (v := allv) (i := ((all.length : Int)) - 1) (n := (all).length) ((((all.length : Int)) - 1).toNat) runUnderlying185 sizeOf3 rfl rfl (by omega) hall.slv (by omega) (Nat.mul_one _) ?_)
 refine cX (XOp.load1 (v := .int .i64 (all.getD ((((all.length : Int)) - 1).toNat) 0)) isAgg3 rfl (hall.rd (by omega)) ?_)
 refine XL.as (.int .i64 (all.getD ((((all.length : Int)) - 1).toNat) 0)) rfl ?_
 refine XL.nil ?_
 refine X.ret (retEnd (L' := L) [.int .i64 (all.getD ((((all.length : Int)) - 1).toNat) 0)] (.int .i64 (all.getD ((((all.length : Int)) - 1).toNat) 0)) (.tmp rfl .nil) rfl rF rF (sD sR) ?_)
 exact ⟨(vI (by rw [hae]; congr 1; omega)), rfl, rfl⟩

/- impl.pick -/
theorem pick1_spec {F : FH} {L : List HP} {arv : Value} {ar : List Int} (har : IntsF F arv ar) {rsv : Value} {rs : List (List Int × List Int)} (hrs : PairsF F rsv rs) {tv : Value} {t : List Int} (ht : IntsF F tv t)  (hsys : sysOk ar rs = true) (ho : termOk ar t = true) :
    Does prog 104 [.agg #[arv, rsv], tv, .int .i64 (1)] F (L) (fun v F' L' => (.int .i64 (pickL ar rs t 1) : Value) = v ∧ F = F' ∧ L = L') := by
 refine Does.of_X func104 rfl rfl rfl ?_
 have hnn := notNil_of_pos ht (by have := termOk_len ho; omega)
 have htl := termOk_len ho
 have hrl := (sysOk_iff.1 hsys).2.1
 have hsig := (sysOk_iff.1 hsys).1
 have hsl := sigOk_spec hsig
 have hrd := redL_len (ar := ar) (rs := rs) (t := t)
 refine X.seq (X.region ?_)
 refine cX (XOp.box [arv, rsv] rfl rfl ?_)
 intro b1
 refine XL.as (.int .i64 (0)) rfl ?_
 refine XL.nil (X.seq ?_)
 refine X.drawG [cellsH b1 [arv, rsv] 29] L 7 [[], [], [], [], [], [4], []] [[], [], [], [], [2, 3], [0, 1, 4], []] [[], [], [], [], [], [], []] (phiG [fun FF us v => v = (.agg #[arv, rsv] : Value), fun FF us v => v = tv, fun FF us v => v = (.agg #[arv, rsv] : Value), fun FF us v => v = tv, fun FF us v => ((v) : Value) = v ∧ (IntsF FF (v) (redL ar rs t)), fun FF us v => v = (.agg #[arv, rsv, tv, ((us.getD 0 undef))] : Value), fun FF us v => v = ptr (blk v) 0]) (ownL [fun us v => [], fun us v => [], fun us v => [], fun us v => [], fun us v => [], fun us v => [], fun us v => [cellsH (blk v) [(.slice none 0 0), (.slice none 0 0), (.slice none 0 0), (.slice none 0 0)] 188]]) mixed rfl rfl (by kernel_rfl) (by kernel_rfl) (MonoG.get (mC (fun le h => h) (mC (fun le h => h) (mC (fun le h => h) (mC (fun le h => h) (mC (fun le h => ⟨h.1, h.2.mono le⟩) (mC (fun le h => h) (mC (fun le h => h) MonoG.nil)))))))) ?_ ?_
 ·refine gC (fun vals Fs R leFs hpZ => ?_) ?_
  ·replace har := har.mono leFs
   replace hrs := hrs.mono leFs
   replace ht := ht.mono leFs
   refine XG.op (XOp.loadN [arv, rsv] isAgg29 sizeOf29 rfl rfl (Rd.ownN [] rfl rfl) ?_)
   exact ⟨rfl, rfl⟩
  refine gC (fun vals Fs R leFs hpZ => ?_) ?_
  ·refine XG.op (XOp.move (tv) rfl ?_)
   exact ⟨rfl, rfl⟩
  refine gC (fun vals Fs R leFs hpZ => ?_) ?_
  ·replace har := har.mono leFs
   replace hrs := hrs.mono leFs
   replace ht := ht.mono leFs
   refine XG.op (XOp.loadN [arv, rsv] isAgg29 sizeOf29 rfl rfl (Rd.ownN [] rfl rfl) ?_)
   exact ⟨rfl, rfl⟩
  refine gC (fun vals Fs R leFs hpZ => ?_) ?_
  ·refine XG.op (XOp.move (tv) rfl ?_)
   exact ⟨rfl, rfl⟩
  refine gC (fun vals Fs R leFs hpZ => ?_) ?_
  ·replace har := har.mono leFs
   replace hrs := hrs.mono leFs
   replace ht := ht.mono leFs
   rw [eS (l := [(2, (.agg #[arv, rsv] : Value)), (3, tv)]) ⟨(hpZ 2 (by decide)), (hpZ 3 (by decide)), trivial⟩]
   refine XG.op (XOp.frzF <| XOp.call (args := [.agg #[arv, rsv], tv]) call161 rfl (redexes_spec har hrs ht (hsys := (by first | assumption | rfl | omega | simp)) (ho := (by first | assumption | rfl | omega | simp))) ?_)
   rintro v2 _ _ _ ⟨rfl, hs2, rfl⟩
   refine ⟨_, _, rfl, fun F1 le1 hz1 => ?_⟩
   replace har := har.mono le1
   replace hrs := hrs.mono le1
   replace ht := ht.mono le1
   have hf1 : IntsF F1 v2 ((redL ar rs t)) := intsH.fz (xs := (redL ar rs t)) hz1.fz
   exact ⟨⟨rfl, hf1⟩, rfl⟩
  refine gC (fun vals Fs R leFs hpZ => ?_) ?_
  ·obtain ⟨e4, f4_1ha⟩ := hpZ 4 (by decide)
   replace har := har.mono leFs
   replace hrs := hrs.mono leFs
   replace ht := ht.mono leFs
   rw [eS (l := [(0, (.agg #[arv, rsv] : Value)), (1, tv), (4, ((vals 4)))]) ⟨(hpZ 0 (by decide)), (hpZ 1 (by decide)), (e4).symm, trivial⟩]
   refine XG.op (XOp.build [arv, rsv, tv, ((vals 4))] [(.slice none 0 0), (.slice none 0 0), (.slice none 0 0), (.slice none 0 0)] [(0, 2), (2, 1), (3, 1)] [(0, [arv, rsv]), (1, [tv]), (2, [((vals 4))])] runUnderlying188 zeroValue188 rfl (.cons rfl sizeOf29 (.cons rfl sizeOf24 (.cons rfl sizeOf185 PlacesAre.nil))) rfl (.cons rfl (.cons (cells_one (IntsF.isSl ht)) (.cons (cells_one (IntsF.isSl f4_1ha)) CellsAre.nil))) ?_)
   exact ⟨rfl, rfl⟩
  refine gC (fun vals Fs R leFs hpZ => ?_) ?_
  ·replace har := har.mono leFs
   replace hrs := hrs.mono leFs
   replace ht := ht.mono leFs
   refine XG.op (XOp.alloc [(.slice none 0 0), (.slice none 0 0), (.slice none 0 0), (.slice none 0 0)] zeroValue188 rfl ?_)
   intro b3
   exact ⟨rfl, rfl⟩
  exact stepsG.nil
 intro vals F2 le2 hphi
 obtain ⟨e4, f4_1ha⟩ := hphi 4 (by decide)
 have e5 : vals 5 = (.agg #[arv, rsv, tv, ((vals 4))] : Value) := hphi 5 (by decide)
 have e6 : vals 6 = ptr (blk (vals 6)) 0 := hphi 6 (by decide)
 generalize hu1 : ((vals 4)) = u1 at e4 f4_1ha e5 e6
 generalize hu2 : blk (vals 6) = b4 at e4 f4_1ha e5 e6
 rw [eS (l := [(4, u1), (5, (.agg #[arv, rsv, tv, u1] : Value)), (6, ptr b4 0)]) ⟨hu1, e5, e6, trivial⟩]
 replace har := har.mono le2
 replace hrs := hrs.mono le2
 replace ht := ht.mono le2
 show XL _ _ _ _ _ _ _ (cellsH b4 [(.slice none 0 0), (.slice none 0 0), (.slice none 0 0), (.slice none 0 0)] 188 :: cellsH b1 [arv, rsv] 29 :: L)
 refine cX (XOp.storeN (vs := [arv, rsv, tv, u1]) [] _ [arv, rsv, tv, u1] sizeOf188 rfl rfl rfl (ones_cons (one_sl (IntsF.isSl har)) (ones_cons (one_sl (PairsF.isSl hrs)) (ones_cons (one_sl (IntsF.isSl ht)) (ones_cons (one_sl (IntsF.isSl f4_1ha)) ones_nil)))) rfl rfl rfl ?_)
 refine XL.nil (X.seq (X.seq (X.region ?_)))
 refine cX (XOp.fieldP (b := b4) (3) runUnderlying188 rfl sizeOf185 (by decide) rfl rfl ?_)
 refine cX (XOp.load1 (v := u1) isAgg185 rfl (Rd.own [] rfl rfl) ?_)
 refine cX (XOp.lenS (v := u1) (n := ((redL ar rs t)).length) runUnderlying185 rfl f4_1ha.slv ?_)
 refine cX (XOp.eql (a := ((((redL ar rs t)).length : Nat) : Int)) (b := 0) rfl rfl ?_)
 refine XL.nil ?_
 refine X.condD (p := (((((redL ar rs t)).length : Nat) : Int) : Int) = 0) rfl (fun h1 => ?_) (fun h1 => ?_)
 ·refine X.seq (X.region ?_)
  refine XL.as (.int .i64 (-1)) rfl ?_
  refine XL.nil ?_
  refine X.ret (thenQ_ret (retEnd (L' := L) [.int .i64 (-1)] (.int .i64 (-1)) (.tmp rfl .nil) rfl rF le2 (sD (sD sR)) ?_))
  exact ⟨(vI (by rw [pickL, if_pos (List.eq_nil_of_length_eq_zero (by omega))])), rfl, rfl⟩
 have hne : redL ar rs t ≠ [] := by intro e; rw [e] at h1; simp at h1
 refine X.skip (X.seq (X.region ?_))
 refine cX (XOp.loadN [arv, rsv, tv, u1] isAgg188 sizeOf188 rfl rfl (Rd.ownN [] rfl rfl) ?_)
 refine cX (XOp.makeFuncL [.agg #[arv, rsv, tv, u1]] [] rfl rfl ?_)
 refine cX (XOp.loadN [arv, rsv, tv, u1] isAgg188 sizeOf188 rfl rfl (Rd.ownN [] rfl rfl) ?_)
 refine cX (XOp.makeFuncL [.agg #[arv, rsv, tv, u1]] [] rfl rfl ?_)
 refine cX (XOp.loadN [arv, rsv, tv, u1] isAgg188 sizeOf188 rfl rfl (Rd.ownN [] rfl rfl) ?_)
 refine cX (XOp.makeFuncL [.agg #[arv, rsv, tv, u1]] [] rfl rfl ?_)
 refine cX (XOp.buildSlice (s := 1) [.func (.func 162) #[.agg #[arv, rsv, tv, u1]] #[], .func (.func 163) #[.agg #[arv, rsv, tv, u1]] #[], .func (.func 164) #[.agg #[arv, rsv, tv, u1]] #[]] [(.nilFunc)] [(0, [.func (.func 162) #[.agg #[arv, rsv, tv, u1]] #[]]), (1, [.func (.func 163) #[.agg #[arv, rsv, tv, u1]] #[]]), (2, [.func (.func 164) #[.agg #[arv, rsv, tv, u1]] #[]])] runUnderlying190 sizeOf189 zeroValue189 rfl (by decide) rfl (.cons rfl (.cons rfl (.cons rfl CellsAre.nil))) rfl ?_)
 intro v3 hv1
 refine XL.as (v3) rfl ?_
 refine XL.nil (X.seq (X.region ?_))
 refine XL.mv (v3) rfl ?_
 refine XL.mv (.int .i64 (1)) rfl ?_
 refine cX (XOp.subR (a := 1) (b := 1) (0) rfl rfl (by omega) (by omega) ?_)
 refine cX (XOp.indexS (v := v3) (i := 0) (n := 3) 0 runUnderlying190 sizeOf189 rfl rfl rfl (SlV.own [] rfl) (by omega) (Nat.mul_one _) ?_)
 refine cX (XOp.load1 (v := .func (.func 162) #[.agg #[arv, rsv, tv, u1]] #[]) isAgg189 rfl (Rd.sl [] rfl rfl) ?_)
 refine cX (XOp.callV (first := [.agg #[arv, rsv, tv, u1]]) (captured := []) (args := [.agg #[arv, rsv, tv, u1]]) call162 rfl rfl (chIn_spec har hrs ht f4_1ha (hsys := (by first | assumption | rfl | omega | simp)) (ho := (by first | assumption | rfl | omega | simp)) (hae := (rfl)) (hne := (by first | assumption | rfl | omega | simp))) ?_)
 rintro _ _ _ _ ⟨rfl, rfl, rfl⟩
 refine XL.as (.int .i64 ((inL ar rs t).getD 0 0)) rfl ?_
 refine XL.nil ?_
 refine X.ret (retEnd (L' := L) [.int .i64 ((inL ar rs t).getD 0 0)] (.int .i64 ((inL ar rs t).getD 0 0)) (.tmp rfl .nil) rfl rF le2 (sD (sD (sD sR))) ?_)
 exact ⟨(vI (by rw [pickL, if_neg hne]; rfl)), rfl, rfl⟩

/- impl.pick -/
theorem pick2_spec {F : FH} {L : List HP} {arv : Value} {ar : List Int} (har : IntsF F arv ar) {rsv : Value} {rs : List (List Int × List Int)} (hrs : PairsF F rsv rs) {tv : Value} {t : List Int} (ht : IntsF F tv t)  (hsys : sysOk ar rs = true) (ho : termOk ar t = true) :
    Does prog 104 [.agg #[arv, rsv], tv, .int .i64 (2)] F (L) (fun v F' L' => (.int .i64 (pickL ar rs t 2) : Value) = v ∧ F = F' ∧ L = L') := by
 refine Does.of_X func104 rfl rfl rfl ?_
 have hnn := notNil_of_pos ht (by have := termOk_len ho; omega)
 have htl := termOk_len ho
 have hrl := (sysOk_iff.1 hsys).2.1
 have hsig := (sysOk_iff.1 hsys).1
 have hsl := sigOk_spec hsig
 have hrd := redL_len (ar := ar) (rs := rs) (t := t)
 refine X.seq (X.region ?_)
 refine cX (XOp.box [arv, rsv] rfl rfl ?_)
 intro b1
 refine XL.as (.int .i64 (0)) rfl ?_
 refine XL.nil (X.seq ?_)
 refine X.drawG [cellsH b1 [arv, rsv] 29] L 7 [[], [], [], [], [], [4], []] [[], [], [], [], [2, 3], [0, 1, 4], []] [[], [], [], [], [], [], []] (phiG [fun FF us v => v = (.agg #[arv, rsv] : Value), fun FF us v => v = tv, fun FF us v => v = (.agg #[arv, rsv] : Value), fun FF us v => v = tv, fun FF us v => ((v) : Value) = v ∧ (IntsF FF (v) (redL ar rs t)), fun FF us v => v = (.agg #[arv, rsv, tv, ((us.getD 0 undef))] : Value), fun FF us v => v = ptr (blk v) 0]) (ownL [fun us v => [], fun us v => [], fun us v => [], fun us v => [], fun us v => [], fun us v => [], fun us v => [cellsH (blk v) [(.slice none 0 0), (.slice none 0 0), (.slice none 0 0), (.slice none 0 0)] 188]]) mixed rfl rfl (by kernel_rfl) (by kernel_rfl) (MonoG.get (mC (fun le h => h) (mC (fun le h => h) (mC (fun le h => h) (mC (fun le h => h) (mC (fun le h => ⟨h.1, h.2.mono le⟩) (mC (fun le h => h) (mC (fun le h => h) MonoG.nil)))))))) ?_ ?_
 ·refine gC (fun vals Fs R leFs hpZ => ?_) ?_
  ·replace har := har.mono leFs
   replace hrs := hrs.mono leFs
   replace ht := ht.mono leFs
   refine XG.op (XOp.loadN [arv, rsv] isAgg29 sizeOf29 rfl rfl (Rd.ownN [] rfl rfl) ?_)
   exact ⟨rfl, rfl⟩
  refine gC (fun vals Fs R leFs hpZ => ?_) ?_
  ·refine XG.op (XOp.move (tv) rfl ?_)
   exact ⟨rfl, rfl⟩
  refine gC (fun vals Fs R leFs hpZ => ?_) ?_
  ·replace har := har.mono leFs
   replace hrs := hrs.mono leFs
   replace ht := ht.mono leFs
   refine XG.op (XOp.loadN [arv, rsv] isAgg29 sizeOf29 rfl rfl (Rd.ownN [] rfl rfl) ?_)
   exact ⟨rfl, rfl⟩
  refine gC (fun vals Fs R leFs hpZ => ?_) ?_
  ·refine XG.op (XOp.move (tv) rfl ?_)
   exact ⟨rfl, rfl⟩
  refine gC (fun vals Fs R leFs hpZ => ?_) ?_
  ·replace har := har.mono leFs
   replace hrs := hrs.mono leFs
   replace ht := ht.mono leFs
   rw [eS (l := [(2, (.agg #[arv, rsv] : Value)), (3, tv)]) ⟨(hpZ 2 (by decide)), (hpZ 3 (by decide)), trivial⟩]
   refine XG.op (XOp.frzF <| XOp.call (args := [.agg #[arv, rsv], tv]) call161 rfl (redexes_spec har hrs ht (hsys := (by first | assumption | rfl | omega | simp)) (ho := (by first | assumption | rfl | omega | simp))) ?_)
   rintro v2 _ _ _ ⟨rfl, hs2, rfl⟩
   refine ⟨_, _, rfl, fun F1 le1 hz1 => ?_⟩
   replace har := har.mono le1
   replace hrs := hrs.mono le1
   replace ht := ht.mono le1
   have hf1 : IntsF F1 v2 ((redL ar rs t)) := intsH.fz (xs := (redL ar rs t)) hz1.fz
   exact ⟨⟨rfl, hf1⟩, rfl⟩
  refine gC (fun vals Fs R leFs hpZ => ?_) ?_
  ·obtain ⟨e4, f4_1ha⟩ := hpZ 4 (by decide)
   replace har := har.mono leFs
   replace hrs := hrs.mono leFs
   replace ht := ht.mono leFs
   rw [eS (l := [(0, (.agg #[arv, rsv] : Value)), (1, tv), (4, ((vals 4)))]) ⟨(hpZ 0 (by decide)), (hpZ 1 (by decide)), (e4).symm, trivial⟩]
   refine XG.op (XOp.build [arv, rsv, tv, ((vals 4))] [(.slice none 0 0), (.slice none 0 0), (.slice none 0 0), (.slice none 0 0)] [(0, 2), (2, 1), (3, 1)] [(0, [arv, rsv]), (1, [tv]), (2, [((vals 4))])] runUnderlying188 zeroValue188 rfl (.cons rfl sizeOf29 (.cons rfl sizeOf24 (.cons rfl sizeOf185 PlacesAre.nil))) rfl (.cons rfl (.cons (cells_one (IntsF.isSl ht)) (.cons (cells_one (IntsF.isSl f4_1ha)) CellsAre.nil))) ?_)
   exact ⟨rfl, rfl⟩
  refine gC (fun vals Fs R leFs hpZ => ?_) ?_
  ·replace har := har.mono leFs
   replace hrs := hrs.mono leFs
   replace ht := ht.mono leFs
   refine XG.op (XOp.alloc [(.slice none 0 0), (.slice none 0 0), (.slice none 0 0), (.slice none 0 0)] zeroValue188 rfl ?_)
   intro b3
   exact ⟨rfl, rfl⟩
  exact stepsG.nil
 intro vals F2 le2 hphi
 obtain ⟨e4, f4_1ha⟩ := hphi 4 (by decide)
 have e5 : vals 5 = (.agg #[arv, rsv, tv, ((vals 4))] : Value) := hphi 5 (by decide)
 have e6 : vals 6 = ptr (blk (vals 6)) 0 := hphi 6 (by decide)
 generalize hu1 : ((vals 4)) = u1 at e4 f4_1ha e5 e6
 generalize hu2 : blk (vals 6) = b4 at e4 f4_1ha e5 e6
 rw [eS (l := [(4, u1), (5, (.agg #[arv, rsv, tv, u1] : Value)), (6, ptr b4 0)]) ⟨hu1, e5, e6, trivial⟩]
 replace har := har.mono le2
 replace hrs := hrs.mono le2
 replace ht := ht.mono le2
 show XL _ _ _ _ _ _ _ (cellsH b4 [(.slice none 0 0), (.slice none 0 0), (.slice none 0 0), (.slice none 0 0)] 188 :: cellsH b1 [arv, rsv] 29 :: L)
 refine cX (XOp.storeN (vs := [arv, rsv, tv, u1]) [] _ [arv, rsv, tv, u1] sizeOf188 rfl rfl rfl (ones_cons (one_sl (IntsF.isSl har)) (ones_cons (one_sl (PairsF.isSl hrs)) (ones_cons (one_sl (IntsF.isSl ht)) (ones_cons (one_sl (IntsF.isSl f4_1ha)) ones_nil)))) rfl rfl rfl ?_)
 refine XL.nil (X.seq (X.seq (X.region ?_)))
 refine cX (XOp.fieldP (b := b4) (3) runUnderlying188 rfl sizeOf185 (by decide) rfl rfl ?_)
 refine cX (XOp.load1 (v := u1) isAgg185 rfl (Rd.own [] rfl rfl) ?_)
 refine cX (XOp.lenS (v := u1) (n := ((redL ar rs t)).length) runUnderlying185 rfl f4_1ha.slv ?_)
 refine cX (XOp.eql (a := ((((redL ar rs t)).length : Nat) : Int)) (b := 0) rfl rfl ?_)
 refine XL.nil ?_
 refine X.condD (p := (((((redL ar rs t)).length : Nat) : Int) : Int) = 0) rfl (fun h1 => ?_) (fun h1 => ?_)
 ·refine X.seq (X.region ?_)
  refine XL.as (.int .i64 (-1)) rfl ?_
  refine XL.nil ?_
  refine X.ret (thenQ_ret (retEnd (L' := L) [.int .i64 (-1)] (.int .i64 (-1)) (.tmp rfl .nil) rfl rF le2 (sD (sD sR)) ?_))
  exact ⟨(vI (by rw [pickL, if_pos (List.eq_nil_of_length_eq_zero (by omega))])), rfl, rfl⟩
 have hne : redL ar rs t ≠ [] := by intro e; rw [e] at h1; simp at h1
 refine X.skip (X.seq (X.region ?_))
 refine cX (XOp.loadN [arv, rsv, tv, u1] isAgg188 sizeOf188 rfl rfl (Rd.ownN [] rfl rfl) ?_)
 refine cX (XOp.makeFuncL [.agg #[arv, rsv, tv, u1]] [] rfl rfl ?_)
 refine cX (XOp.loadN [arv, rsv, tv, u1] isAgg188 sizeOf188 rfl rfl (Rd.ownN [] rfl rfl) ?_)
 refine cX (XOp.makeFuncL [.agg #[arv, rsv, tv, u1]] [] rfl rfl ?_)
 refine cX (XOp.loadN [arv, rsv, tv, u1] isAgg188 sizeOf188 rfl rfl (Rd.ownN [] rfl rfl) ?_)
 refine cX (XOp.makeFuncL [.agg #[arv, rsv, tv, u1]] [] rfl rfl ?_)
 refine cX (XOp.buildSlice (s := 1) [.func (.func 162) #[.agg #[arv, rsv, tv, u1]] #[], .func (.func 163) #[.agg #[arv, rsv, tv, u1]] #[], .func (.func 164) #[.agg #[arv, rsv, tv, u1]] #[]] [(.nilFunc)] [(0, [.func (.func 162) #[.agg #[arv, rsv, tv, u1]] #[]]), (1, [.func (.func 163) #[.agg #[arv, rsv, tv, u1]] #[]]), (2, [.func (.func 164) #[.agg #[arv, rsv, tv, u1]] #[]])] runUnderlying190 sizeOf189 zeroValue189 rfl (by decide) rfl (.cons rfl (.cons rfl (.cons rfl CellsAre.nil))) rfl ?_)
 intro v3 hv1
 refine XL.as (v3) rfl ?_
 refine XL.nil (X.seq (X.region ?_))
 refine XL.mv (v3) rfl ?_
 refine XL.mv (.int .i64 (2)) rfl ?_
 refine cX (XOp.subR (a := 2) (b := 1) (1) rfl rfl (by omega) (by omega) ?_)
 refine cX (XOp.indexS (v := v3) (i := 1) (n := 3) 1 runUnderlying190 sizeOf189 rfl rfl rfl (SlV.own [] rfl) (by omega) (Nat.mul_one _) ?_)
 refine cX (XOp.load1 (v := .func (.func 163) #[.agg #[arv, rsv, tv, u1]] #[]) isAgg189 rfl (Rd.sl [] rfl rfl) ?_)
 refine cX (XOp.callV (first := [.agg #[arv, rsv, tv, u1]]) (captured := []) (args := [.agg #[arv, rsv, tv, u1]]) call163 rfl rfl (chOut_spec har hrs ht f4_1ha (hsys := (by first | assumption | rfl | omega | simp)) (ho := (by first | assumption | rfl | omega | simp)) (hae := (by first | assumption | rfl | omega | simp)) (hne := (by first | assumption | rfl | omega | simp))) ?_)
 rintro _ _ _ _ ⟨rfl, rfl, rfl⟩
 refine XL.as (.int .i64 ((redL ar rs t).getD 0 0)) rfl ?_
 refine XL.nil ?_
 refine X.ret (retEnd (L' := L) [.int .i64 ((redL ar rs t).getD 0 0)] (.int .i64 ((redL ar rs t).getD 0 0)) (.tmp rfl .nil) rfl rF le2 (sD (sD (sD sR))) ?_)
 exact ⟨(vI (by rw [pickL, if_neg hne]; rfl)), rfl, rfl⟩

/- impl.pick -/
theorem pick3_spec {F : FH} {L : List HP} {arv : Value} {ar : List Int} (har : IntsF F arv ar) {rsv : Value} {rs : List (List Int × List Int)} (hrs : PairsF F rsv rs) {tv : Value} {t : List Int} (ht : IntsF F tv t)  (hsys : sysOk ar rs = true) (ho : termOk ar t = true) :
    Does prog 104 [.agg #[arv, rsv], tv, .int .i64 (3)] F (L) (fun v F' L' => (.int .i64 (pickL ar rs t 3) : Value) = v ∧ F = F' ∧ L = L') := by
 refine Does.of_X func104 rfl rfl rfl ?_
 have hnn := notNil_of_pos ht (by have := termOk_len ho; omega)
 have htl := termOk_len ho
 have hrl := (sysOk_iff.1 hsys).2.1
 have hsig := (sysOk_iff.1 hsys).1
 have hsl := sigOk_spec hsig
 have hrd := redL_len (ar := ar) (rs := rs) (t := t)
 refine X.seq (X.region ?_)
 refine cX (XOp.box [arv, rsv] rfl rfl ?_)
 intro b1
 refine XL.as (.int .i64 (0)) rfl ?_
 refine XL.nil (X.seq ?_)
 refine X.drawG [cellsH b1 [arv, rsv] 29] L 7 [[], [], [], [], [], [4], []] [[], [], [], [], [2, 3], [0, 1, 4], []] [[], [], [], [], [], [], []] (phiG [fun FF us v => v = (.agg #[arv, rsv] : Value), fun FF us v => v = tv, fun FF us v => v = (.agg #[arv, rsv] : Value), fun FF us v => v = tv, fun FF us v => ((v) : Value) = v ∧ (IntsF FF (v) (redL ar rs t)), fun FF us v => v = (.agg #[arv, rsv, tv, ((us.getD 0 undef))] : Value), fun FF us v => v = ptr (blk v) 0]) (ownL [fun us v => [], fun us v => [], fun us v => [], fun us v => [], fun us v => [], fun us v => [], fun us v => [cellsH (blk v) [(.slice none 0 0), (.slice none 0 0), (.slice none 0 0), (.slice none 0 0)] 188]]) mixed rfl rfl (by kernel_rfl) (by kernel_rfl) (MonoG.get (mC (fun le h => h) (mC (fun le h => h) (mC (fun le h => h) (mC (fun le h => h) (mC (fun le h => ⟨h.1, h.2.mono le⟩) (mC (fun le h => h) (mC (fun le h => h) MonoG.nil)))))))) ?_ ?_
 ·refine gC (fun vals Fs R leFs hpZ => ?_) ?_
  ·replace har := har.mono leFs
   replace hrs := hrs.mono leFs
   replace ht := ht.mono leFs
   refine XG.op (XOp.loadN [arv, rsv] isAgg29 sizeOf29 rfl rfl (Rd.ownN [] rfl rfl) ?_)
   exact ⟨rfl, rfl⟩
  refine gC (fun vals Fs R leFs hpZ => ?_) ?_
  ·refine XG.op (XOp.move (tv) rfl ?_)
   exact ⟨rfl, rfl⟩
  refine gC (fun vals Fs R leFs hpZ => ?_) ?_
  ·replace har := har.mono leFs
   replace hrs := hrs.mono leFs
   replace ht := ht.mono leFs
   refine XG.op (XOp.loadN [arv, rsv] isAgg29 sizeOf29 rfl rfl (Rd.ownN [] rfl rfl) ?_)
   exact ⟨rfl, rfl⟩
  refine gC (fun vals Fs R leFs hpZ => ?_) ?_
  ·refine XG.op (XOp.move (tv) rfl ?_)
   exact ⟨rfl, rfl⟩
  refine gC (fun vals Fs R leFs hpZ => ?_) ?_
  ·replace har := har.mono leFs
   replace hrs := hrs.mono leFs
   replace ht := ht.mono leFs
   rw [eS (l := [(2, (.agg #[arv, rsv] : Value)), (3, tv)]) ⟨(hpZ 2 (by decide)), (hpZ 3 (by decide)), trivial⟩]
   refine XG.op (XOp.frzF <| XOp.call (args := [.agg #[arv, rsv], tv]) call161 rfl (redexes_spec har hrs ht (hsys := (by first | assumption | rfl | omega | simp)) (ho := (by first | assumption | rfl | omega | simp))) ?_)
   rintro v2 _ _ _ ⟨rfl, hs2, rfl⟩
   refine ⟨_, _, rfl, fun F1 le1 hz1 => ?_⟩
   replace har := har.mono le1
   replace hrs := hrs.mono le1
   replace ht := ht.mono le1
   have hf1 : IntsF F1 v2 ((redL ar rs t)) := intsH.fz (xs := (redL ar rs t)) hz1.fz
   exact ⟨⟨rfl, hf1⟩, rfl⟩
  refine gC (fun vals Fs R leFs hpZ => ?_) ?_
  ·obtain ⟨e4, f4_1ha⟩ := hpZ 4 (by decide)
   replace har := har.mono leFs
   replace hrs := hrs.mono leFs
   replace ht := ht.mono leFs
   rw [eS (l := [(0, (.agg #[arv, rsv] : Value)), (1, tv), (4, ((vals 4)))]) ⟨(hpZ 0 (by decide)), (hpZ 1 (by decide)), (e4).symm, trivial⟩]
   refine XG.op (XOp.build [arv, rsv, tv, ((vals 4))] [(.slice none 0 0), (.slice none 0 0), (.slice none 0 0), (.slice none 0 0)] [(0, 2), (2, 1), (3, 1)] [(0, [arv, rsv]), (1, [tv]), (2, [((vals 4))])] runUnderlying188 zeroValue188 rfl (.cons rfl sizeOf29 (.cons rfl sizeOf24 (.cons rfl sizeOf185 PlacesAre.nil))) rfl (.cons rfl (.cons (cells_one (IntsF.isSl ht)) (.cons (cells_one (IntsF.isSl f4_1ha)) CellsAre.nil))) ?_)
   exact ⟨rfl, rfl⟩
  refine gC (fun vals Fs R leFs hpZ => ?_) ?_
  ·replace har := har.mono leFs
   replace hrs := hrs.mono leFs
   replace ht := ht.mono leFs
   refine XG.op (XOp.alloc [(.slice none 0 0), (.slice none 0 0), (.slice none 0 0), (.slice none 0 0)] zeroValue188 rfl ?_)
   intro b3
   exact ⟨rfl, rfl⟩
  exact stepsG.nil
 intro vals F2 le2 hphi
 obtain ⟨e4, f4_1ha⟩ := hphi 4 (by decide)
 have e5 : vals 5 = (.agg #[arv, rsv, tv, ((vals 4))] : Value) := hphi 5 (by decide)
 have e6 : vals 6 = ptr (blk (vals 6)) 0 := hphi 6 (by decide)
 generalize hu1 : ((vals 4)) = u1 at e4 f4_1ha e5 e6
 generalize hu2 : blk (vals 6) = b4 at e4 f4_1ha e5 e6
 rw [eS (l := [(4, u1), (5, (.agg #[arv, rsv, tv, u1] : Value)), (6, ptr b4 0)]) ⟨hu1, e5, e6, trivial⟩]
 replace har := har.mono le2
 replace hrs := hrs.mono le2
 replace ht := ht.mono le2
 show XL _ _ _ _ _ _ _ (cellsH b4 [(.slice none 0 0), (.slice none 0 0), (.slice none 0 0), (.slice none 0 0)] 188 :: cellsH b1 [arv, rsv] 29 :: L)
 refine cX (XOp.storeN (vs := [arv, rsv, tv, u1]) [] _ [arv, rsv, tv, u1] sizeOf188 rfl rfl rfl (ones_cons (one_sl (IntsF.isSl har)) (ones_cons (one_sl (PairsF.isSl hrs)) (ones_cons (one_sl (IntsF.isSl ht)) (ones_cons (one_sl (IntsF.isSl f4_1ha)) ones_nil)))) rfl rfl rfl ?_)
 refine XL.nil (X.seq (X.seq (X.region ?_)))
 refine cX (XOp.fieldP (b := b4) (3) runUnderlying188 rfl sizeOf185 (by decide) rfl rfl ?_)
 refine cX (XOp.load1 (v := u1) isAgg185 rfl (Rd.own [] rfl rfl) ?_)
 refine cX (XOp.lenS (v := u1) (n := ((redL ar rs t)).length) runUnderlying185 rfl f4_1ha.slv ?_)
 refine cX (XOp.eql (a := ((((redL ar rs t)).length : Nat) : Int)) (b := 0) rfl rfl ?_)
 refine XL.nil ?_
 refine X.condD (p := (((((redL ar rs t)).length : Nat) : Int) : Int) = 0) rfl (fun h1 => ?_) (fun h1 => ?_)
 ·refine X.seq (X.region ?_)
  refine XL.as (.int .i64 (-1)) rfl ?_
  refine XL.nil ?_
  refine X.ret (thenQ_ret (retEnd (L' := L) [.int .i64 (-1)] (.int .i64 (-1)) (.tmp rfl .nil) rfl rF le2 (sD (sD sR)) ?_))
  exact ⟨(vI (by rw [pickL, if_pos (List.eq_nil_of_length_eq_zero (by omega))])), rfl, rfl⟩
 have hne : redL ar rs t ≠ [] := by intro e; rw [e] at h1; simp at h1
 refine X.skip (X.seq (X.region ?_))
 refine cX (XOp.loadN [arv, rsv, tv, u1] isAgg188 sizeOf188 rfl rfl (Rd.ownN [] rfl rfl) ?_)
 refine cX (XOp.makeFuncL [.agg #[arv, rsv, tv, u1]] [] rfl rfl ?_)
 refine cX (XOp.loadN [arv, rsv, tv, u1] isAgg188 sizeOf188 rfl rfl (Rd.ownN [] rfl rfl) ?_)
 refine cX (XOp.makeFuncL [.agg #[arv, rsv, tv, u1]] [] rfl rfl ?_)
 refine cX (XOp.loadN [arv, rsv, tv, u1] isAgg188 sizeOf188 rfl rfl (Rd.ownN [] rfl rfl) ?_)
 refine cX (XOp.makeFuncL [.agg #[arv, rsv, tv, u1]] [] rfl rfl ?_)
 refine cX (XOp.buildSlice (s := 1) [.func (.func 162) #[.agg #[arv, rsv, tv, u1]] #[], .func (.func 163) #[.agg #[arv, rsv, tv, u1]] #[], .func (.func 164) #[.agg #[arv, rsv, tv, u1]] #[]] [(.nilFunc)] [(0, [.func (.func 162) #[.agg #[arv, rsv, tv, u1]] #[]]), (1, [.func (.func 163) #[.agg #[arv, rsv, tv, u1]] #[]]), (2, [.func (.func 164) #[.agg #[arv, rsv, tv, u1]] #[]])] runUnderlying190 sizeOf189 zeroValue189 rfl (by decide) rfl (.cons rfl (.cons rfl (.cons rfl CellsAre.nil))) rfl ?_)
 intro v3 hv1
 refine XL.as (v3) rfl ?_
 refine XL.nil (X.seq (X.region ?_))
 refine XL.mv (v3) rfl ?_
 refine XL.mv (.int .i64 (3)) rfl ?_
 refine cX (XOp.subR (a := 3) (b := 1) (2) rfl rfl (by omega) (by omega) ?_)
 refine cX (XOp.indexS (v := v3) (i := 2) (n := 3) 2 runUnderlying190 sizeOf189 rfl rfl rfl (SlV.own [] rfl) (by omega) (Nat.mul_one _) ?_)
 refine cX (XOp.load1 (v := .func (.func 164) #[.agg #[arv, rsv, tv, u1]] #[]) isAgg189 rfl (Rd.sl [] rfl rfl) ?_)
 refine cX (XOp.callV (first := [.agg #[arv, rsv, tv, u1]]) (captured := []) (args := [.agg #[arv, rsv, tv, u1]]) call164 rfl rfl (chLast_spec har hrs ht f4_1ha (hsys := (by first | assumption | rfl | omega | simp)) (ho := (by first | assumption | rfl | omega | simp)) (hae := (by first | assumption | rfl | omega | simp)) (hne := (by first | assumption | rfl | omega | simp))) ?_)
 rintro _ _ _ _ ⟨rfl, rfl, rfl⟩
 refine XL.as (.int .i64 ((redL ar rs t).getD ((redL ar rs t).length - 1) 0)) rfl ?_
 refine XL.nil ?_
 refine X.ret (retEnd (L' := L) [.int .i64 ((redL ar rs t).getD ((redL ar rs t).length - 1) 0)] (.int .i64 ((redL ar rs t).getD ((redL ar rs t).length - 1) 0)) (.tmp rfl .nil) rfl rF le2 (sD (sD (sD sR))) ?_)
 exact ⟨(vI (by rw [pickL, if_neg hne]; rfl)), rfl, rfl⟩

theorem pick_all {F : FH} {L : List HP} {arv : Value} {ar : List Int} (har : IntsF F arv ar) {rsv : Value} {rs : List (List Int × List Int)} (hrs : PairsF F rsv rs) {tv : Value} {t : List Int} (ht : IntsF F tv t) {st : Int} (hsys : sysOk ar rs = true) (ho : termOk ar t = true) (hst : 1 ≤ st ∧ st ≤ 3) :
    Does prog 104 [.agg #[arv, rsv], tv, .int .i64 st] F L (fun v F' L' => (.int .i64 (pickL ar rs t st) : Value) = v ∧ F = F' ∧ L = L') := by
  have h : st = 1 ∨ st = 2 ∨ st = 3 := by omega
  rcases h with rfl | rfl | rfl
  · exact pick1_spec har hrs ht hsys ho
  · exact pick2_spec har hrs ht hsys ho
  · exact pick3_spec har hrs ht hsys ho

end Go.Proofs.YtmaaifhmhclhdaaGreat
set_option linter.unusedSimpArgs false
set_option linter.unusedVariables false
namespace Go.Proofs.YtmaaifhmhclhdaaGreat
open Go X M Tryz

/- slices.Grow[[]int64,int64] -/
theorem GrowNil_spec {F : FH} {L : List HP}  {n : Nat} (hg1 : 1 ≤ n) (hn : n ≤ 400000000) :
    Does prog 204 [(.slice none 0 0), .int .i64 ((n : Int))] F (L) (fun v F' L' => F = F' ∧ IsSl v ∧ intsH 2 v ([]) :: L = L') := by
 refine Does.of_X func204 rfl rfl rfl ?_
 refine X.seq (X.region ?_)
 refine XL.as ((.slice none 0 0)) rfl ?_
 refine XL.nil (X.seq (X.seq (X.region ?_)))
 refine XL.mv (.int .i64 ((n : Int))) rfl ?_
 refine cX (XOp.lss (a := (n : Int)) (b := 0) rfl rfl ?_)
 refine XL.nil ?_
 refine X.condD (p := (n : Int) < 0) rfl (fun h1 => ?_) (fun h1 => ?_)
 ·omega
 refine X.skip (X.seq (X.seq (X.region ?_)))
 refine XL.mv (.int .i64 ((n : Int))) rfl ?_
 refine XL.mv ((.slice none 0 0)) rfl ?_
 refine cX (XOp.capNil runUnderlying24 rfl ?_)
 refine XL.mv ((.slice none 0 0)) rfl ?_
 refine cX (XOp.lenS (v := (.slice none 0 0)) (n := 0) runUnderlying24 rfl SlV.nil ?_)
 refine cX (XOp.subR (a := 0) (b := ((0 : Nat) : Int)) (0 - (((0 : Nat) : Int))) rfl rfl (by omega) (by omega) ?_)
 refine cX (XOp.subR (a := (n : Int)) (b := 0 - (((0 : Nat) : Int))) (((n : Int)) - (0 - (((0 : Nat) : Int)))) rfl rfl (by omega) (by omega) ?_)
 refine XL.as (.int .i64 (((n : Int)) - (0 - (((0 : Nat) : Int))))) rfl ?_
 refine XL.nil (X.seq (X.region ?_))
 refine XL.mv (.int .i64 (((n : Int)) - (0 - (((0 : Nat) : Int))))) rfl ?_
 refine cX (XOp.gtr (a := ((n : Int)) - (0 - (((0 : Nat) : Int)))) (b := 0) rfl rfl ?_)
 refine XL.nil ?_
 refine X.condD (p := (((n : Int)) - (0 - (((0 : Nat) : Int))) : Int) > 0) rfl (fun h2 => ?_) (fun h2 => ?_)
 ·refine X.region ?_
  refine XL.mv ((.slice none 0 0)) rfl ?_
  refine XL.mv ((.slice none 0 0)) rfl ?_
  refine cX (XOp.capNil runUnderlying24 rfl ?_)
  refine cX (XOp.sliceNil runUnderlying24 sizeOf2 rfl ⟨_, rfl⟩ ?_)
  refine XL.mv (.int .i64 (((n : Int)) - (0 - (((0 : Nat) : Int))))) rfl ?_
  refine cX (XOp.appendZ (s := 1) (bytes := 8) (n := (((n : Int)) - (0 - (((0 : Nat) : Int)))).toNat) [.int .i64 (0)] runUnderlying24 runUnderlying3 typeInfo2 rfl rfl rfl rfl rfl (by decide) rfl (by rw [show (((((n : Int)) - (0 - (((0 : Nat) : Int)))).toNat : Nat) : Int) = ((n : Int)) - (0 - (((0 : Nat) : Int))) from by omega]; rfl) (by omega) (by omega) (by omega) ?_)
  intro v1 hv1
  have hv2 : IsSl v1 := by obtain ⟨b0, c0, h0⟩ := hv1; exact ⟨_, _, _, h0⟩
  rw [intsH_zeros]
  refine XL.mv ((.slice none 0 0)) rfl ?_
  refine cX (XOp.lenS (v := (.slice none 0 0)) (n := 0) runUnderlying24 rfl SlV.nil ?_)
  refine cX (XOp.sliceOwn (cs := List.map (Value.int .i64) ((List.replicate ((((n : Int)) - (0 - (((0 : Nat) : Int)))).toNat) 0))) [] _ 0 runUnderlying24 sizeOf2 rfl rfl ⟨_, rfl⟩ (Nat.zero_le _) ?_)
  intro v2 hs1
  show XL _ _ _ _ _ _ _ (intsH 2 v2 ([]) :: L)
  refine XL.as (v2) rfl ?_
  refine XL.nil (X.seq (X.region ?_))
  refine XL.mv (v2) rfl ?_
  refine XL.as (v2) rfl ?_
  refine XL.nil ?_
  refine X.ret (retEnd (L' := intsH 2 v2 ([]) :: L) [v2] (v2) (.tmp rfl .nil) rfl rF rF (sC sR) ?_)
  refine ⟨rfl, hs1, ?_⟩
  have hxs : ([] : List Int) = [] := rfl
  exact congrArg (fun z => intsH 2 _ z :: L) hxs
 omega

/- slices.Concat[[]int64,int64] -/
theorem Concat_spec {F : FH} {L : List HP} {xsv : Value} {xs : List (List Int)} (hxs : RowsF F xsv xs) (hg1 : 1 ≤ xs.flatten.length) (hn : xs.length ≤ 10) (hb : ∀ i, i < xs.length → (xs.getD i []).length ≤ 4000000) :
    Does prog 186 [xsv] F (L) (fun v F' L' => F = F' ∧ IsSl v ∧ intsH 2 v xs.flatten :: L = L') := by
 refine Does.of_X func186 rfl rfl rfl ?_
 refine X.seq (X.region ?_)
 refine XL.as ((.slice none 0 0)) rfl ?_
 refine XL.nil (X.seq (X.region ?_))
 refine XL.as (.int .i64 (0)) rfl ?_
 refine XL.nil (X.seq (X.seq (X.region ?_)))
 refine XL.mv (xsv) rfl ?_
 refine cX (XOp.lenS (v := xsv) (n := (xs).length) runUnderlying47 rfl hxs.slv ?_)
 refine XL.mv (.int .i64 (0)) rfl ?_
 refine XL.nil (X.block ?_)
 refine X.loop (α := Nat × Nat) (fun xQ => [(0, xsv), (3, .int .i64 (((xQ.2 : Nat) : Int))), (9, xsv), (10, .int .i64 ((xs.length : Int))), (11, .int .i64 (((xQ.1 : Nat) : Int)))]) (fun xQ => L) (fun xQ F' => F = F' ∧ (xQ.1 ≤ xs.length) ∧ (xQ.2 = (xs.take xQ.1).flatten.length) ∧ (xQ.2 ≤ xQ.1 * 4000000)) (fun xQ => xs.length - xQ.1) (0, 0) ⟨rfl, rfl, rfl, rfl, rfl, trivial⟩ sR ⟨rfl, (by (try dsimp only) <;> omega), (rfl), (by (try dsimp only) <;> omega)⟩ ?_
 rintro ⟨k, z⟩ rE _ _ ⟨rfl, hk, hz, hz2⟩
 show X _ _ _ _ (envs [(0, xsv), (3, .int .i64 ((z : Int))), (9, xsv), (10, .int .i64 ((xs.length : Int))), (11, .int .i64 ((k : Int)))] rE) _ (L)
 dsimp only at hk hz hz2
 have hbk := hb k
 have hft := fun h => congrArg List.length (flatten_take (xs := xs) (k := k) h)
 simp only [List.length_append] at hft
 refine X.seq (X.region ?_)
 refine cX (XOp.lss (a := (k : Int)) (b := (xs.length : Int)) rfl rfl ?_)
 refine XL.nil (X.seq ?_)
 refine X.condD (p := (k : Int) < (xs.length : Int)) rfl (fun h1 => ?_) (fun h1 => ?_)
 ·refine X.skip (X.seq (X.block (X.seq (X.region ?_))))
  refine cX (XOp.indexS (v := xsv) (i := (k : Int)) (n := (xs).length) k runUnderlying47 sizeOf24 rfl rfl rfl hxs.slv (by omega) (Nat.mul_one _) ?_)
  obtain ⟨a1, ha1, hr1⟩ := hxs.rd (i := k) (by omega)
  refine cX (XOp.load1 (v := a1) isAgg24 rfl (hr1 _) ?_)
  refine XL.as (a1) rfl ?_
  refine XL.nil (X.seq (X.region ?_))
  refine XL.mv (.int .i64 ((z : Int))) rfl ?_
  refine XL.mv (a1) rfl ?_
  refine cX (XOp.lenS (v := a1) (n := ((xs.getD k [])).length) runUnderlying24 rfl ha1.slv ?_)
  refine cX (XOp.addR (a := (z : Int)) (b := ((((xs.getD k [])).length : Nat) : Int)) (((z + (((xs.getD k [])).length) : Nat) : Int)) rfl rfl (by omega) (by omega) ?_)
  refine XL.as (.int .i64 (((z + (((xs.getD k [])).length) : Nat) : Int))) rfl ?_
  refine XL.nil (X.seq (X.region ?_))
  refine XL.mv (.int .i64 (((z + (((xs.getD k [])).length) : Nat) : Int))) rfl ?_
  refine cX (XOp.lss (a := ((z + (((xs.getD k [])).length) : Nat) : Int)) (b := 0) rfl rfl ?_)
  refine XL.nil ?_
  refine X.condD (p := (((z + (((xs.getD k [])).length) : Nat) : Int) : Int) < 0) rfl (fun h2 => ?_) (fun h2 => ?_)
  ·omega
  refine X.skip (X.region ?_)
  refine cX (XOp.addR (a := (k : Int)) (b := 1) (((k + 1 : Nat) : Int)) rfl rfl (by omega) (by omega) ?_)
  refine XL.mv (.int .i64 (((k + 1 : Nat) : Int))) rfl ?_
  refine XL.nil ?_
  exact ⟨(k + 1, z + (((xs.getD k [])).length)), _, FLe.refl _, rF, ⟨rfl, rfl, rfl, rfl, rfl, trivial⟩, sR, ⟨rfl, (by (try dsimp only) <;> omega), (by (try dsimp only) <;> omega), (by (try dsimp only) <;> omega)⟩, (by omega)⟩
 refine X.exit (thenQ_exit (thenQ_exit (blockQ_exit ?_)))
 refine X.seq (X.region ?_)
 have hz1 : 1 ≤ z := by rw [hz, show xs.take k = xs from List.take_of_length_le (by omega)]; exact hg1
 refine XL.mv (.int .i64 ((z : Int))) rfl ?_
 refine cX (XOp.call (args := [(.slice none 0 0), .int .i64 (z : Int)]) call204 rfl (GrowNil_spec (n := z) (hg1 := (hz1)) (hn := (by omega))) ?_)
 rintro v1 _ _ _ ⟨rfl, hs1, rfl⟩
 refine XL.as (v1) rfl ?_
 refine XL.nil (X.seq (X.seq (X.region ?_)))
 refine XL.mv (xsv) rfl ?_
 refine cX (XOp.lenS (v := xsv) (n := (xs).length) runUnderlying47 rfl hxs.slv ?_)
 refine XL.mv (.int .i64 (0)) rfl ?_
 refine XL.nil (X.block ?_)
 refine X.loop (α := Nat × Value × List Int) (fun xQ => [(6, xQ.2.1), (25, xsv), (26, .int .i64 ((xs.length : Int))), (27, .int .i64 (((xQ.1 : Nat) : Int)))]) (fun xQ => intsH 2 xQ.2.1 xQ.2.2 :: L) (fun xQ F' => F = F' ∧ (IsSl xQ.2.1) ∧ (xQ.1 ≤ xs.length) ∧ (xQ.2.2 = (xs.take xQ.1).flatten)) (fun xQ => xs.length - xQ.1) (0, v1, ([])) ⟨rfl, rfl, rfl, rfl, trivial⟩ (sC sR) ⟨rfl, (hs1), (by (try dsimp only) <;> omega), (rfl)⟩ ?_
 rintro ⟨k, ov, os⟩ rE _ _ ⟨rfl, hov, hk, hos⟩
 show X _ _ _ _ (envs [(6, ov), (25, xsv), (26, .int .i64 ((xs.length : Int))), (27, .int .i64 ((k : Int)))] rE) _ (intsH 2 ov os :: L)
 dsimp only at hov hk hos
 have hbk := hb k
 have hol : os.length ≤ k * 4000000 := by rw [hos]; exact flatten_bound hb k (by omega)
 refine X.seq (X.region ?_)
 refine cX (XOp.lss (a := (k : Int)) (b := (xs.length : Int)) rfl rfl ?_)
 refine XL.nil (X.seq ?_)
 refine X.condD (p := (k : Int) < (xs.length : Int)) rfl (fun h3 => ?_) (fun h3 => ?_)
 ·refine X.skip (X.seq (X.block (X.seq (X.region ?_))))
  refine cX (XOp.indexS (v := xsv) (i := (k : Int)) (n := (xs).length) k runUnderlying47 sizeOf24 rfl rfl rfl hxs.slv (by omega) (Nat.mul_one _) ?_)
  obtain ⟨a2, ha2, hr2⟩ := hxs.rd (i := k) (by omega)
  refine cX (XOp.load1 (v := a2) isAgg24 rfl (hr2 _) ?_)
  refine XL.as (a2) rfl ?_
  refine XL.nil (X.region ?_)
  refine XL.mv (ov) rfl ?_
  refine XL.mv (a2) rfl ?_
  refine cX (XOp.appendI [] _ runUnderlying24 typeInfo2 rfl rfl rfl rfl rfl rfl ha2 (by (try simp only [List.length_append, List.length_nil, List.length_cons, List.length_singleton, List.length_take, List.length_drop]); omega) ?_)
  intro v2 hs2 hn1 hm1
  refine XL.as (v2) rfl ?_
  refine XL.nil (X.region ?_)
  refine cX (XOp.addR (a := (k : Int)) (b := 1) (((k + 1 : Nat) : Int)) rfl rfl (by omega) (by omega) ?_)
  refine XL.mv (.int .i64 (((k + 1 : Nat) : Int))) rfl ?_
  refine XL.nil ?_
  exact ⟨(k + 1, v2, os ++ ((xs.getD k []))), _, FLe.refl _, rF, ⟨rfl, rfl, rfl, rfl, trivial⟩, (sC sR), ⟨rfl, (hs2), (by (try dsimp only) <;> omega), ((by dsimp only; rw [hos, flatten_take (by omega)]))⟩, (by omega)⟩
 refine X.exit (thenQ_exit (thenQ_exit (blockQ_exit ?_)))
 refine X.seq (X.region ?_)
 refine XL.mv (ov) rfl ?_
 refine XL.as (ov) rfl ?_
 refine XL.nil ?_
 refine X.ret (retEnd (L' := intsH 2 ov os :: L) [ov] (ov) (.tmp rfl .nil) rfl rF rF (sC sR) ?_)
 refine ⟨rfl, hov, ?_⟩
 have hxs : (xs.flatten : List Int) = os := by rw [hos, List.take_of_length_le (by omega)]
 exact congrArg (fun z => intsH 2 _ z :: L) hxs

/- impl.put -/
theorem put_spec {F : FH} {L : List HP} {arv : Value} {ar : List Int} (har : IntsF F arv ar) {tv : Value} {t : List Int} (ht : IntsF F tv t) {p : Nat} {uv : Value} {u : List Int} (hu : IntsF F uv u) (ho : termOk ar t = true) (hp : p < t.length) (hul : 1 ≤ u.length ∧ u.length ≤ 4000000) :
    Does prog 139 [.agg #[arv], tv, .int .i64 ((p : Int)), uv] F (L) (fun v F' L' => ∃ (a : Value), (.tuple #[a, .bool ((putL ar t p u).isSome)] : Value) = v ∧ (IntsF F' a ((putL ar t p u).getD [])) ∧ ((putL ar t p u).isSome = true → isNil a = false) ∧ (Fresh F F' (intsH 2 a ((putL ar t p u).getD []))) ∧ L = L') := by
 refine Does.of_X func139 rfl rfl rfl ?_
 have hsig := termOk_sig ho
 have hsl := sigOk_spec hsig
 have htl := termOk_len ho
 have hee := endN_spec ho hp
 refine X.seq (X.region ?_)
 refine cX (XOp.box [arv] rfl rfl ?_)
 intro b1
 refine XL.as ((.slice none 0 0)) rfl ?_
 refine XL.as (.bool (false)) rfl ?_
 refine XL.nil (X.seq ?_)
 refine X.drawG [cellsH b1 [arv] 26] L 10 [[], [], [], [], [], [], [], [], [], []] [[], [], [0, 1], [], [], [], [], [], [5, 6, 7], [4, 8]] [[], [], [], [], [], [], [], [], [], []] (phiG [fun FF us v => v = tv, fun FF us v => v = (.int .i64 ((p : Int)) : Value), fun FF us v => (v : Value) = v ∧ (IntsF FF v ((t.drop 0).take (p - 0))) ∧ (isNil v = isNil tv), fun FF us v => v = uv, fun FF us v => v = tv, fun FF us v => v = (.agg #[arv] : Value), fun FF us v => v = tv, fun FF us v => v = (.int .i64 ((p : Int)) : Value), fun FF us v => v = (.int .i64 (((endN ar t p : Nat) : Int)) : Value), fun FF us v => (v : Value) = v ∧ (IntsF FF v ((t.drop (endN ar t p)).take (((t).length) - (endN ar t p)))) ∧ (isNil v = isNil tv)]) (ownL [fun us v => [], fun us v => [], fun us v => [], fun us v => [], fun us v => [], fun us v => [], fun us v => [], fun us v => [], fun us v => [], fun us v => []]) mixed rfl rfl (by kernel_rfl) (by kernel_rfl) (MonoG.get (mC (fun le h => h) (mC (fun le h => h) (mC (fun le h => ⟨h.1, h.2.1.mono le, h.2.2⟩) (mC (fun le h => h) (mC (fun le h => h) (mC (fun le h => h) (mC (fun le h => h) (mC (fun le h => h) (mC (fun le h => h) (mC (fun le h => ⟨h.1, h.2.1.mono le, h.2.2⟩) MonoG.nil))))))))))) ?_ ?_
 ·refine gC (fun vals Fs R leFs hpZ => ?_) ?_
  ·refine XG.op (XOp.move (tv) rfl ?_)
   exact ⟨rfl, rfl⟩
  refine gC (fun vals Fs R leFs hpZ => ?_) ?_
  ·refine XG.op (XOp.move (.int .i64 ((p : Int))) rfl ?_)
   exact ⟨rfl, rfl⟩
  refine gC (fun vals Fs R leFs hpZ => ?_) ?_
  ·replace har := har.mono leFs
   replace ht := ht.mono leFs
   replace hu := hu.mono leFs
   rw [eS (l := [(0, tv), (1, (.int .i64 ((p : Int)) : Value))]) ⟨(hpZ 0 (by decide)), (hpZ 1 (by decide)), trivial⟩]
   refine XG.op (XOp.sliceI 0 p runUnderlying24 sizeOf2 rfl ht rfl ⟨_, rfl⟩ (by omega) (by omega) ?_)
   intro v3 hv3 hn3
   exact ⟨⟨rfl, hv3, hn3⟩, rfl⟩
  refine gC (fun vals Fs R leFs hpZ => ?_) ?_
  ·refine XG.op (XOp.move (uv) rfl ?_)
   exact ⟨rfl, rfl⟩
  refine gC (fun vals Fs R leFs hpZ => ?_) ?_
  ·refine XG.op (XOp.move (tv) rfl ?_)
   exact ⟨rfl, rfl⟩
  refine gC (fun vals Fs R leFs hpZ => ?_) ?_
  ·replace har := har.mono leFs
   replace ht := ht.mono leFs
   replace hu := hu.mono leFs
   refine XG.op (XOp.loadN [arv] isAgg26 sizeOf26 rfl rfl (Rd.ownN [] rfl rfl) ?_)
   exact ⟨rfl, rfl⟩
  refine gC (fun vals Fs R leFs hpZ => ?_) ?_
  ·refine XG.op (XOp.move (tv) rfl ?_)
   exact ⟨rfl, rfl⟩
  refine gC (fun vals Fs R leFs hpZ => ?_) ?_
  ·refine XG.op (XOp.move (.int .i64 ((p : Int))) rfl ?_)
   exact ⟨rfl, rfl⟩
  refine gC (fun vals Fs R leFs hpZ => ?_) ?_
  ·replace har := har.mono leFs
   replace ht := ht.mono leFs
   replace hu := hu.mono leFs
   rw [eS (l := [(5, (.agg #[arv] : Value)), (6, tv), (7, (.int .i64 ((p : Int)) : Value))]) ⟨(hpZ 5 (by decide)), (hpZ 6 (by decide)), (hpZ 7 (by decide)), trivial⟩]
   refine XG.op (XOp.call (args := [.agg #[arv], tv, .int .i64 (p : Int)]) call118 rfl (endAt_ok (p := p) har ht (ho := (by first | assumption | rfl | omega | (left; simp; done) | (right; simp; done))) (hp := (by first | assumption | rfl | omega | (left; simp; done) | (right; simp; done)))) ?_)
   rintro _ _ _ _ ⟨rfl, rfl, rfl⟩
   exact ⟨rfl, rfl⟩
  refine gC (fun vals Fs R leFs hpZ => ?_) ?_
  ·replace har := har.mono leFs
   replace ht := ht.mono leFs
   replace hu := hu.mono leFs
   rw [eS (l := [(4, tv), (8, (.int .i64 (((endN ar t p : Nat) : Int)) : Value))]) ⟨(hpZ 4 (by decide)), (hpZ 8 (by decide)), trivial⟩]
   refine XG.op (XOp.sliceI (endN ar t p) ((t).length) runUnderlying24 sizeOf2 rfl ht ⟨_, rfl⟩ rfl (by omega) (by omega) ?_)
   intro v4 hv4 hn4
   exact ⟨⟨rfl, hv4, hn4⟩, rfl⟩
  exact stepsG.nil
 intro vals F1 le1 hphi
 obtain ⟨e2, f2_1hv, f2_1hn⟩ := hphi 2 (by decide)
 obtain ⟨e9, f9_1hv, f9_1hn⟩ := hphi 9 (by decide)
 generalize hu1 : (vals 2) = u1 at e2 f2_1hv f2_1hn e9 f9_1hv f9_1hn
 generalize hu2 : (vals 9) = u2 at e2 f2_1hv f2_1hn e9 f9_1hv f9_1hn
 rw [eS (l := [(2, u1), (3, uv), (9, u2)]) ⟨hu1, (hphi 3 (by decide)), hu2, trivial⟩]
 replace hu := hu.mono le1
 show XL _ _ _ _ _ _ _ (cellsH b1 [arv] 26 :: L)
 refine cX (XOp.buildSlice (s := 1) [u1, uv, u2] [(.slice none 0 0)] [(0, [u1]), (1, [uv]), (2, [u2])] runUnderlying47 sizeOf24 zeroValue24 rfl (by decide) rfl (.cons (cells_one (IntsF.isSl f2_1hv)) (.cons (cells_one (IntsF.isSl hu)) (.cons (cells_one (IntsF.isSl f9_1hv)) CellsAre.nil))) rfl ?_)
 intro v5 hv5
 have hc1 : RowsC F1 [u1, uv, u2] ([((t.drop 0).take (p - 0)), u, ((t.drop (endN ar t p)).take (((t).length) - (endN ar t p)))] : List (List Int)) := (RowsC.snoc (RowsC.snoc (RowsC.snoc (CO.nil : RowsC F1 [] []) f2_1hv) hu) f9_1hv)
 refine XL.freezeF [] _ _ rfl (fun F2 le2 hz1 => ?_)
 replace hc1 := hc1.mono le2
 have hf1 : RowsF F2 v5 (([((t.drop 0).take (p - 0)), u, ((t.drop (endN ar t p)).take (((t).length) - (endN ar t p)))] : List (List Int))) := CO.fz hc1 (by first | rfl | simp | omega) hz1.fz
 refine cX (XOp.frzF <| XOp.call (args := [v5]) call186 rfl (Concat_spec hf1 (hg1 := (by simp; omega)) (hn := (by first | assumption | rfl | omega | simp)) (hb := (fun i hi => by match i, hi with | 0, _ => simp; omega | 1, _ => simp; omega | 2, _ => simp; omega))) ?_)
 rintro v6 _ _ _ ⟨rfl, hs1, rfl⟩
 refine ⟨_, _, rfl, fun F3 le3 hz2 => ?_⟩
 have hf2 : IntsF F3 v6 (((([((t.drop 0).take (p - 0)), u, ((t.drop (endN ar t p)).take (((t).length) - (endN ar t p)))] : List (List Int))).flatten)) := intsH.fz (xs := ((([((t.drop 0).take (p - 0)), u, ((t.drop (endN ar t p)).take (((t).length) - (endN ar t p)))] : List (List Int))).flatten)) hz2.fz
 refine XL.as (v6) rfl ?_
 refine XL.nil (X.seq (X.seq (X.region ?_)))
 refine XL.mv (v6) rfl ?_
 refine cX (XOp.lenS (v := v6) (n := (((([((t.drop 0).take (p - 0)), u, ((t.drop (endN ar t p)).take (((t).length) - (endN ar t p)))] : List (List Int))).flatten)).length) runUnderlying24 rfl hf2.slv ?_)
 refine cX (XOp.gtr (a := (((((([((t.drop 0).take (p - 0)), u, ((t.drop (endN ar t p)).take (((t).length) - (endN ar t p)))] : List (List Int))).flatten)).length : Nat) : Int)) (b := 60) rfl rfl ?_)
 refine XL.nil ?_
 refine X.condD (p := ((((((([((t.drop 0).take (p - 0)), u, ((t.drop (endN ar t p)).take (((t).length) - (endN ar t p)))] : List (List Int))).flatten)).length : Nat) : Int) : Int) > 60) rfl (fun h1 => ?_) (fun h1 => ?_)
 ·refine X.seq (X.region ?_)
  refine XL.as ((.slice none 0 0)) rfl ?_
  refine XL.as (.bool (false)) rfl ?_
  refine XL.nil ?_
  refine X.ret (thenQ_ret (retEnd (L' := L) [(.slice none 0 0), .bool (false)] (.tuple #[(.slice none 0 0), .bool (false)]) (.tmp rfl (.tmp rfl .nil)) rfl (FLe.trans (FLe.trans le1 le2) le3) rF (sD sR) ?_))
  have hz : putL ar t p u = none := putL_none put_flat (by omega)
  exact ⟨_, by rw [hz]; rfl, by rw [hz]; exact IntsF.nilV, fun h => (by rw [hz] at h; cases h), by rw [hz]; exact Fresh.ofNil _, rfl⟩
 refine X.skip (X.seq (X.region ?_))
 refine XL.mv (v6) rfl ?_
 refine XL.as (v6) rfl ?_
 refine XL.as (.bool (true)) rfl ?_
 refine XL.nil ?_
 refine X.ret (retEnd (L' := L) [v6, .bool (true)] (.tuple #[v6, .bool (true)]) (.tmp rfl (.tmp rfl .nil)) rfl (FLe.trans (FLe.trans le1 le2) le3) rF (sD sR) ?_)
 have hz := putL_some (ar := ar) (t := t) (p := p) (u := u) put_flat (by omega)
 exact ⟨_, by rw [hz]; rfl, by rw [hz]; exact hf2, fun _ => notNil_of_pos hf2 (by rw [put_flat]; simp; omega), by rw [hz]; exact (hz2.base (FLe.trans le1 le2)), rfl⟩

/- (impl.Subst).byVar -/
theorem byVar_spec {F : FH} {L : List HP} {sv : Value} {s : List (List Int)} (hs : RowsF F sv s) {i : Nat} (hsl : s.length ≤ 4000000) :
    Does prog 196 [.agg #[sv], .int .i64 ((i : Int))] F (L) (fun v F' L' => F = F' ∧ ∃ (a : Value), (a : Value) = v ∧ (IntsF F' a (s.getD i [])) ∧ (isNil a = decide (s.getD i [] = [])) ∧ L = L') := by
 refine Does.of_X func196 rfl rfl rfl ?_
 refine X.seq (X.region ?_)
 refine cX (XOp.box [sv] rfl rfl ?_)
 intro b1
 refine XL.as ((.slice none 0 0)) rfl ?_
 refine XL.nil (X.seq (X.seq (X.region ?_)))
 refine XL.mv (.int .i64 ((i : Int))) rfl ?_
 refine cX (XOp.fieldP (b := b1) (0) runUnderlying76 rfl sizeOf47 (by decide) rfl rfl ?_)
 refine cX (XOp.load1 (v := sv) isAgg47 rfl (Rd.own [] rfl rfl) ?_)
 refine cX (XOp.lenS (v := sv) (n := (s).length) runUnderlying47 rfl hs.slv ?_)
 refine cX (XOp.geq (a := (i : Int)) (b := (s.length : Int)) rfl rfl ?_)
 refine XL.mv (.bool (decide ((i : Int) ≥ (s.length : Int)))) rfl ?_
 by_cases h1 : (i : Int) ≥ (s.length : Int)
 ·refine XL.no (t := 10) rfl (vT h1) ?_
  refine XL.no (t := 10) rfl (vT h1) ?_
  refine XL.no (t := 10) rfl (vT h1) ?_
  refine XL.no (t := 10) rfl (vT h1) ?_
  refine XL.no (t := 10) rfl (vT h1) ?_
  refine XL.no (t := 10) rfl (vT h1) ?_
  refine XL.no (t := 10) rfl (vT h1) ?_
  refine cX (XOp.pickT (.bool (true)) (vT h1) rfl ?_)
  refine XL.nil ?_
  refine X.condT rfl ?_
  refine X.seq (X.region ?_)
  refine XL.as ((.slice none 0 0)) rfl ?_
  refine XL.nil ?_
  refine X.ret (thenQ_ret (retEnd (L' := L) [(.slice none 0 0)] ((.slice none 0 0)) (.tmp rfl .nil) rfl rF rF (sD sR) ?_))
  have e : s.getD i [] = [] := by first | exact List.eq_nil_of_length_eq_zero (by omega) | (rw [List.getD_eq_getElem?_getD, List.getElem?_eq_none (by omega)]; rfl)
  exact ⟨rfl, _, rfl, by rw [e]; exact IntsF.nilV, by rw [e]; rfl, rfl⟩
 refine XL.yes (t := 10) rfl (vF h1) (XOp.fieldP (b := b1) (0) runUnderlying76 rfl sizeOf47 (by decide) rfl rfl ?_)
 refine XL.yes (t := 10) rfl (vF h1) (XOp.load1 (v := sv) isAgg47 rfl (Rd.own [] rfl rfl) ?_)
 refine XL.yes (t := 10) rfl (vF h1) (XOp.move (.int .i64 ((i : Int))) rfl ?_)
 refine XL.yes (t := 10) rfl (vF h1) (XOp.indexS (v := sv) (i := (i : Int)) (n := (s).length) i runUnderlying47 sizeOf24 rfl rfl rfl hs.slv (by omega) (Nat.mul_one _) ?_)
 obtain ⟨a1, ha1, hr1⟩ := hs.rd (i := i) (by omega)
 refine XL.yes (t := 10) rfl (vF h1) (XOp.load1 (v := a1) isAgg24 rfl (hr1 _) ?_)
 refine XL.yes (t := 10) rfl (vF h1) (XOp.lenS (v := a1) (n := ((s.getD i [])).length) runUnderlying24 rfl ha1.slv ?_)
 refine XL.yes (t := 10) rfl (vF h1) (XOp.eql (a := ((((s.getD i [])).length : Nat) : Int)) (b := 0) rfl rfl ?_)
 refine cX (XOp.pickF (.bool (decide ((((((s.getD i [])).length : Nat) : Int) : Int) = 0))) (vF h1) rfl ?_)
 refine XL.nil ?_
 refine X.condD (p := (((((s.getD i [])).length : Nat) : Int) : Int) = 0) rfl (fun h2 => ?_) (fun h2 => ?_)
 ·refine X.seq (X.region ?_)
  refine XL.as ((.slice none 0 0)) rfl ?_
  refine XL.nil ?_
  refine X.ret (thenQ_ret (retEnd (L' := L) [(.slice none 0 0)] ((.slice none 0 0)) (.tmp rfl .nil) rfl rF rF (sD sR) ?_))
  have e : s.getD i [] = [] := by first | exact List.eq_nil_of_length_eq_zero (by omega) | (rw [List.getD_eq_getElem?_getD, List.getElem?_eq_none (by omega)]; rfl)
  exact ⟨rfl, _, rfl, by rw [e]; exact IntsF.nilV, by rw [e]; rfl, rfl⟩
 refine X.skip (X.seq (X.region ?_))
 refine cX (XOp.fieldP (b := b1) (0) runUnderlying76 rfl sizeOf47 (by decide) rfl rfl ?_)
 refine cX (XOp.load1 (v := sv) isAgg47 rfl (Rd.own [] rfl rfl) ?_)
 refine XL.mv (.int .i64 ((i : Int))) rfl ?_
 refine cX (XOp.indexS (v := sv) (i := (i : Int)) (n := (s).length) i runUnderlying47 sizeOf24 rfl rfl rfl hs.slv (by omega) (Nat.mul_one _) ?_)
 refine cX (XOp.load1 (v := a1) isAgg24 rfl (hr1 _) ?_)
 refine XL.as (a1) rfl ?_
 refine XL.nil ?_
 refine X.ret (retEnd (L' := L) [a1] (a1) (.tmp rfl .nil) rfl rF rF (sD sR) ?_)
 have e : s.getD i [] ≠ [] := by intro e; have := congrArg List.length e; simp only [List.length_nil] at this; omega
 exact ⟨rfl, _, rfl, ha1, by rw [notNil_of_pos ha1 (List.length_pos_iff.2 e)]; exact (decide_eq_false e).symm, rfl⟩

/- (impl.Subst).lookup$1 -/
theorem lookup1_spec {F : FH} {L : List HP} {n : Int} {sv : Value} {s : List (List Int)} (hs : RowsF F sv s) {b : Nat} (hzb : FzC F b [sv]) (hsl : s.length ≤ 4000000) (hg : -4000000 ≤ n) :
    Does prog 208 [.int .i64 (n), ptr b 0] F (L) (fun v F' L' => F = F' ∧ ∃ (a : Value), (a : Value) = v ∧ (IntsF F' a (lkN s n)) ∧ (isNil a = decide (lkN s n = [])) ∧ L = L') := by
 refine Does.of_X func208 rfl rfl rfl ?_
 refine X.seq (X.region ?_)
 refine XL.as ((.slice none 0 0)) rfl ?_
 refine XL.nil (X.seq (X.seq (X.region ?_)))
 refine XL.mv (.int .i64 (n)) rfl ?_
 refine cX (XOp.geq (a := n) (b := 0) rfl rfl ?_)
 refine XL.nil ?_
 refine X.condD (p := (n : Int) ≥ 0) rfl (fun h1 => ?_) (fun h1 => ?_)
 ·refine X.seq (X.region ?_)
  refine XL.as ((.slice none 0 0)) rfl ?_
  refine XL.nil ?_
  refine X.ret (thenQ_ret (retEnd (L' := L) [(.slice none 0 0)] ((.slice none 0 0)) (.tmp rfl .nil) rfl rF rF sR ?_))
  have e : lkN s n = [] := lkN_pos (by omega)
  exact ⟨rfl, _, rfl, by rw [e]; exact IntsF.nilV, by rw [e]; rfl, rfl⟩
 refine X.skip (X.seq (X.region ?_))
 refine cX (XOp.loadN [sv] isAgg76 sizeOf76 rfl rfl (FzC.rd hzb rfl) ?_)
 refine XL.mv (.int .i64 (n)) rfl ?_
 refine cX (XOp.subR (a := -1) (b := n) ((-1) - n) rfl rfl (by omega) (by omega) ?_)
 refine cX (XOp.call (args := [.agg #[sv], .int .i64 ((((-1) - n).toNat : Nat) : Int)]) call196 (by rw [show ((((-1) - n).toNat : Nat) : Int) = (-1) - n from by omega]; rfl) (byVar_spec (i := ((-1) - n).toNat) hs (hsl := (by first | assumption | rfl | omega | simp))) ?_)
 rintro _ _ _ _ ⟨rfl, x1, rfl, hr1, hr2, rfl⟩
 refine XL.as (x1) rfl ?_
 refine XL.nil ?_
 refine X.ret (retEnd (L' := L) [x1] (x1) (.tmp rfl .nil) rfl rF rF sR ?_)
 have e : lkN s n = s.getD (varIx n) [] := lkN_neg (by omega)
 exact ⟨rfl, _, rfl, by rw [e]; exact hr1, by rw [e]; exact hr2, rfl⟩

/- (impl.Subst).lookup -/
theorem lookup_spec {F : FH} {L : List HP} {sv : Value} {s : List (List Int)} (hs : RowsF F sv s) :
    Does prog 195 [.agg #[sv]] F (L) (fun v F' L' => ∃ (b : Nat), (.func (.func 208) #[] #[ptr b 0] : Value) = v ∧ (FzC F' b [sv]) ∧ L = L') := by
 refine Does.of_X func195 rfl rfl rfl ?_
 refine X.seq (X.region ?_)
 refine cX (XOp.box [sv] rfl rfl ?_)
 intro b1
 refine XL.as (.nilFunc) rfl ?_
 refine XL.nil (X.seq (X.region ?_))
 refine cX (XOp.makeFuncL [] [ptr b1 0] rfl rfl ?_)
 refine XL.as (.func (.func 208) #[] #[ptr b1 0]) rfl ?_
 refine XL.nil ?_
 refine X.freeze [] _ _ rfl (fun F1 le1 hz1 => ?_)
 have hf1 : FzC F1 b1 [sv] := Fz.cells hz1
 refine X.ret (retEnd (L' := L) [.func (.func 208) #[] #[ptr b1 0]] (.func (.func 208) #[] #[ptr b1 0]) (.tmp rfl .nil) rfl le1 rF sR ?_)
 exact ⟨_, rfl, hf1, rfl⟩

/- impl.fill -/
theorem fill_spec {F : FH} {L : List HP} {sv : Value} {s : List (List Int)} (hs : RowsF F sv s) {tv : Value} {t : List Int} (ht : IntsF F tv t) (hsl : s.length ≤ 4000000) (hsb : ∀ i, (s.getD i []).length ≤ 4000000) (htl : t.length ≤ 4000000) (htg : ∀ k, k < t.length → -4000000 ≤ t.getD k 0) :
    Does prog 158 [.agg #[sv], tv] F (L) (fun v F' L' => ∃ (a : Value), (.tuple #[a, .bool ((fillL s t).isSome)] : Value) = v ∧ (IntsF F' a ((fillL s t).getD [])) ∧ (Fresh F F' (intsH 2 a ((fillL s t).getD []))) ∧ L = L') := by
 refine Does.of_X func158 rfl rfl rfl ?_
 refine X.seq (X.region ?_)
 refine cX (XOp.box [sv] rfl rfl ?_)
 intro b1
 refine XL.as ((.slice none 0 0)) rfl ?_
 refine XL.as (.bool (false)) rfl ?_
 refine XL.nil (X.seq (X.region ?_))
 refine cX (XOp.loadN [sv] isAgg76 sizeOf76 rfl rfl (Rd.ownN [] rfl rfl) ?_)
 refine cX (XOp.call (args := [.agg #[sv]]) call195 rfl (lookup_spec hs) ?_)
 rintro _ F1 _ le1 ⟨x1, rfl, hr1, rfl⟩
 replace hs := hs.mono le1
 replace ht := ht.mono le1
 refine XL.as (.func (.func 208) #[] #[ptr x1 0]) rfl ?_
 refine XL.nil (X.seq (X.region ?_))
 refine XL.mv (tv) rfl ?_
 refine cX (XOp.lenS (v := tv) (n := (t).length) runUnderlying24 rfl ht.slv ?_)
 refine cX (XOp.makeSlice0 (n := (t).length) (bytes := 8) [.int .i64 (0)] runUnderlying24 sizeOf2 typeInfo2 rfl zeroValue2 rfl rfl rfl rfl (by omega) (by omega) ?_)
 intro v1 hv1
 have hs1 : IsSl v1 := by obtain ⟨b0, h0⟩ := hv1; exact ⟨_, _, _, h0⟩
 show XL _ _ _ _ _ _ _ (intsH 2 v1 ([]) :: cellsH b1 [sv] 76 :: L)
 refine XL.as (v1) rfl ?_
 refine XL.nil (X.seq (X.seq (X.region ?_)))
 refine XL.mv (tv) rfl ?_
 refine cX (XOp.lenS (v := tv) (n := (t).length) runUnderlying24 rfl ht.slv ?_)
 refine XL.mv (.int .i64 (0)) rfl ?_
 refine XL.nil (X.block ?_)
 refine X.loop (α := Nat × Value × List Int) (fun xQ => [(6, .func (.func 208) #[] #[ptr x1 0]), (7, xQ.2.1), (16, tv), (17, .int .i64 ((t.length : Int))), (18, .int .i64 (((xQ.1 : Nat) : Int)))]) (fun xQ => intsH 2 xQ.2.1 xQ.2.2 :: cellsH b1 [sv] 76 :: L) (fun xQ F' => F1 = F' ∧ (IsSl xQ.2.1) ∧ (xQ.1 ≤ t.length) ∧ (fillL s t = fillGo s (t.drop xQ.1) xQ.2.2) ∧ (xQ.2.2.length ≤ 60)) (fun xQ => t.length - xQ.1) (0, v1, []) ⟨rfl, rfl, rfl, rfl, rfl, trivial⟩ (sC (sC sR)) ⟨rfl, (hs1), (by (try dsimp only) <;> omega), (rfl), (by simp)⟩ ?_
 rintro ⟨k, ov, os⟩ rE _ _ ⟨rfl, hov, hk, hm, hol⟩
 show X _ _ _ _ (envs [(6, .func (.func 208) #[] #[ptr x1 0]), (7, ov), (16, tv), (17, .int .i64 ((t.length : Int))), (18, .int .i64 ((k : Int)))] rE) _ (intsH 2 ov os :: cellsH b1 [sv] 76 :: L)
 dsimp only at hov hk hm hol
 have htk := htg k
 refine X.seq (X.region ?_)
 refine cX (XOp.lss (a := (k : Int)) (b := (t.length : Int)) rfl rfl ?_)
 refine XL.nil (X.seq ?_)
 refine X.condD (p := (k : Int) < (t.length : Int)) rfl (fun h1 => ?_) (fun h1 => ?_)
 ·refine X.skip (X.seq (X.block (X.seq (X.region ?_))))
  refine cX (XOp.indexS (v := tv) (i := (k : Int)) (n := (t).length) k runUnderlying24 sizeOf2 rfl rfl rfl ht.slv (by omega) (Nat.mul_one _) ?_)
  refine cX (XOp.load1 (v := .int .i64 (t.getD k 0)) isAgg2 rfl (ht.rd (by omega)) ?_)
  refine XL.as (.int .i64 (t.getD k 0)) rfl ?_
  refine XL.nil (X.seq (X.seq (X.region ?_)))
  refine XL.mv (.func (.func 208) #[] #[ptr x1 0]) rfl ?_
  refine XL.mv (.int .i64 (t.getD k 0)) rfl ?_
  refine cX (XOp.callV (first := []) (captured := [ptr x1 0]) (args := [.int .i64 (t.getD k 0), ptr x1 0]) call208 rfl rfl (lookup1_spec (n := t.getD k 0) hs hr1 (hsl := (by first | assumption | rfl | omega | simp)) (hg := (by first | assumption | rfl | omega | simp))) ?_)
  rintro _ _ _ _ ⟨rfl, x2, rfl, hr2, hr3, rfl⟩
  skip
  refine XL.as (x2) rfl ?_
  refine XL.nil (X.seq (X.region ?_))
  refine XL.mv (x2) rfl ?_
  refine cX (XOp.eqNil (v := x2) runUnderlying24 rfl rfl (IntsF.isSl hr2) ?_)
  refine XL.nil ?_
  refine X.cond (t := isNil x2) rfl (fun h2 => ?_) (fun h2 => ?_)
  ·refine X.region ?_
   refine XL.mv (ov) rfl ?_
   refine XL.mv (.int .i64 (t.getD k 0)) rfl ?_
   refine cX (XOp.buildSlice (s := 1) [.int .i64 (t.getD k 0)] [.int .i64 (0)] [(0, [.int .i64 (t.getD k 0)])] runUnderlying24 sizeOf2 zeroValue2 rfl (by decide) rfl (.cons rfl CellsAre.nil) rfl ?_)
   intro v2 hv2
   refine cX (XOp.append1 (u := t.getD k 0) [_] _ runUnderlying24 typeInfo2 rfl rfl rfl rfl rfl rfl (SlV.own [] rfl) (Rd.sl [] rfl rfl) (by (try simp only [List.length_append, List.length_nil, List.length_cons, List.length_singleton, List.length_take, List.length_drop]); omega) ?_)
   intro v3 hs2 hn1
   refine XL.as (v3) rfl ?_
   refine XL.nil (X.seq (X.region ?_))
   refine XL.mv (v3) rfl ?_
   refine cX (XOp.lenS (v := v3) (n := (os ++ [t.getD k 0]).length) runUnderlying24 rfl (intsH.slv [_] rfl) ?_)
   refine cX (XOp.gtr (a := (((os ++ [t.getD k 0]).length : Nat) : Int)) (b := 60) rfl rfl ?_)
   refine XL.nil ?_
   refine X.condD (p := ((((os ++ [t.getD k 0]).length : Nat) : Int) : Int) > 60) rfl (fun h3 => ?_) (fun h3 => ?_)
   ·refine X.seq (X.region ?_)
    refine XL.as ((.slice none 0 0)) rfl ?_
    refine XL.as (.bool (false)) rfl ?_
    refine XL.nil ?_
    refine X.ret (blockQ_ret (thenQ_ret (thenQ_ret (blockQ_ret (thenQ_ret (retEnd (L' := L) [(.slice none 0 0), .bool (false)] (.tuple #[(.slice none 0 0), .bool (false)]) (.tmp rfl (.tmp rfl .nil)) rfl le1 rF (sD (sD (sD sR))) ?_))))))
    have hz : fillL s t = none := hm.trans (fillGo_long (a := os ++ [t.getD k 0]) (by omega) (by rw [lk_of_nil (of_decide_eq_true (hr3.symm.trans (by assumption)))]) (by omega))
    exact ⟨_, by rw [hz]; rfl, by rw [hz]; exact IntsF.nilV, by rw [hz]; exact Fresh.ofNil _, rfl⟩
   refine X.skip (X.region ?_)
   refine cX (XOp.addR (a := (k : Int)) (b := 1) (((k + 1 : Nat) : Int)) rfl rfl (by omega) (by omega) ?_)
   refine XL.mv (.int .i64 (((k + 1 : Nat) : Int))) rfl ?_
   refine XL.nil ?_
   exact ⟨(k + 1, v3, os ++ [t.getD k 0]), _, FLe.refl _, rF, ⟨rfl, rfl, rfl, rfl, rfl, trivial⟩, (sD (sC (sC sR))), ⟨rfl, (hs2), (by (try dsimp only) <;> omega), (by dsimp only; exact hm.trans (fillGo_next (by omega) (by rw [lk_of_nil (of_decide_eq_true (hr3.symm.trans (by assumption)))]) (by omega))), (by dsimp only; omega)⟩, (by omega)⟩
  refine X.region ?_
  have hlb : (lkN s (t.getD k 0)).length ≤ 4000000 := lkN_bound hsb
  refine XL.mv (ov) rfl ?_
  refine XL.mv (x2) rfl ?_
  refine cX (XOp.appendI [] _ runUnderlying24 typeInfo2 rfl rfl rfl rfl rfl rfl hr2 (by (try simp only [List.length_append, List.length_nil, List.length_cons, List.length_singleton, List.length_take, List.length_drop]); omega) ?_)
  intro v4 hs3 hn2 hm1
  refine XL.as (v4) rfl ?_
  refine XL.nil (X.seq (X.region ?_))
  refine XL.mv (v4) rfl ?_
  refine cX (XOp.lenS (v := v4) (n := (os ++ (lkN s (t.getD k 0))).length) runUnderlying24 rfl (intsH.slv [] rfl) ?_)
  refine cX (XOp.gtr (a := (((os ++ (lkN s (t.getD k 0))).length : Nat) : Int)) (b := 60) rfl rfl ?_)
  refine XL.nil ?_
  refine X.condD (p := ((((os ++ (lkN s (t.getD k 0))).length : Nat) : Int) : Int) > 60) rfl (fun h4 => ?_) (fun h4 => ?_)
  ·refine X.seq (X.region ?_)
   refine XL.as ((.slice none 0 0)) rfl ?_
   refine XL.as (.bool (false)) rfl ?_
   refine XL.nil ?_
   refine X.ret (blockQ_ret (thenQ_ret (thenQ_ret (blockQ_ret (thenQ_ret (retEnd (L' := L) [(.slice none 0 0), .bool (false)] (.tuple #[(.slice none 0 0), .bool (false)]) (.tmp rfl (.tmp rfl .nil)) rfl le1 rF (sD (sD sR)) ?_))))))
   have hz : fillL s t = none := hm.trans (fillGo_long (a := os ++ (lkN s (t.getD k 0))) (by omega) (by rw [lk_of_ne (of_decide_eq_false (hr3.symm.trans (by assumption)))]) (by omega))
   exact ⟨_, by rw [hz]; rfl, by rw [hz]; exact IntsF.nilV, by rw [hz]; exact Fresh.ofNil _, rfl⟩
  refine X.skip (X.region ?_)
  refine cX (XOp.addR (a := (k : Int)) (b := 1) (((k + 1 : Nat) : Int)) rfl rfl (by omega) (by omega) ?_)
  refine XL.mv (.int .i64 (((k + 1 : Nat) : Int))) rfl ?_
  refine XL.nil ?_
  exact ⟨(k + 1, v4, os ++ (lkN s (t.getD k 0))), _, FLe.refl _, rF, ⟨rfl, rfl, rfl, rfl, rfl, trivial⟩, (sC (sC sR)), ⟨rfl, (hs3), (by (try dsimp only) <;> omega), (by dsimp only; exact hm.trans (fillGo_next (by omega) (by rw [lk_of_ne (of_decide_eq_false (hr3.symm.trans (by assumption)))]) (by omega))), (by dsimp only; omega)⟩, (by omega)⟩
 refine X.exit (thenQ_exit (thenQ_exit (blockQ_exit ?_)))
 refine X.seq (X.region ?_)
 refine XL.mv (ov) rfl ?_
 refine XL.as (ov) rfl ?_
 refine XL.as (.bool (true)) rfl ?_
 refine XL.nil ?_
 refine X.freezeF [] _ _ rfl (fun F3 le3 hz1 => ?_)
 have hf1 : IntsF F3 ov os := intsH.fz (xs := os) hz1.fz
 refine X.ret (retEnd (L' := L) [ov, .bool (true)] (.tuple #[ov, .bool (true)]) (.tmp rfl (.tmp rfl .nil)) rfl (FLe.trans le1 le3) rF (sD sR) ?_)
 have hz : fillL s t = some os := hm.trans (fillGo_done (by omega))
 exact ⟨_, by rw [hz]; rfl, by rw [hz]; exact hf1, by rw [hz]; exact (hz1.base le1), rfl⟩

/- impl.step -/
theorem step_spec {F : FH} {L : List HP} {arv : Value} {ar : List Int} (har : IntsF F arv ar) {rsv : Value} {rs : List (List Int × List Int)} (hrs : PairsF F rsv rs) {tv : Value} {t : List Int} (ht : IntsF F tv t) {p : Nat} {r : Nat} (hsys : sysOk ar rs = true) (ho : termOk ar t = true) (hp : p < t.length) (hr : r < rs.length) :
    Does prog 106 [.agg #[arv, rsv], tv, .int .i64 ((p : Int)), .int .i64 ((r : Int))] F (L) (fun v F' L' => ∃ (a : Value), (.tuple #[a, .bool ((stepL ar rs t p r).isSome)] : Value) = v ∧ (IntsF F' a ((stepL ar rs t p r).getD [])) ∧ ((stepL ar rs t p r).isSome = true → isNil a = false) ∧ (Fresh F F' (intsH 2 a ((stepL ar rs t p r).getD []))) ∧ L = L') := by
 refine Does.of_X func106 rfl rfl rfl ?_
 have hnn := notNil_of_pos ht (by have := termOk_len ho; omega)
 have htl := termOk_len ho
 have hrl := (sysOk_iff.1 hsys).2.1
 have hsig := (sysOk_iff.1 hsys).1
 have hsl := sigOk_spec hsig
 have hR := ruleOk_iff.1 ((sysOk_iff.1 hsys).2.2 r hr)
 have hRl := hR.left
 have hRr := hR.right
 have hso := sub_ok ho hp
 have hsb := sub_length ho hp
 have hee := endN_spec ho hp
 have hRrl := termOk_len hRr
 have hRg := fun k (hk : k < (rs.getD r ([], [])).2.length) => termOk_ge hRr hk
 have hmp := matchP_len (ar := ar) (p := (rs.getD r ([], [])).1) (t := sub ar t p)
 have hmp2 := hmp.2
 have hmp3 := hmp.1
 refine X.seq (X.region ?_)
 refine cX (XOp.box [arv, rsv] rfl rfl ?_)
 intro b1
 refine XL.as ((.slice none 0 0)) rfl ?_
 refine XL.as (.bool (false)) rfl ?_
 refine XL.nil (X.seq ?_)
 obtain ⟨a1, a2, ha1, ha2, hr1, hr2⟩ := hrs.rd (i := r) (by omega)
 refine X.drawG [cellsH b1 [arv, rsv] 29] L 19 [[], [], [], [], [], [], [], [], [], [], [], [], [], [], [13], [13], [], [], [13, 17]] [[], [0], [], [2], [], [3, 4], [5], [6], [], [8], [], [], [9, 10, 11], [1, 7, 12], [13], [13, 14], [13, 14], [], [13, 15, 17]] [[], [], [], [], [], [], [], [], [], [], [], [], [], [], [], [], [], [], [17]] (phiG [fun FF us v => v = ptr b1 0, fun FF us v => v = (.agg #[arv] : Value), fun FF us v => v = ptr b1 1, fun FF us v => v = rsv, fun FF us v => v = (.int .i64 ((r : Int)) : Value), fun FF us v => v = (.pointer (some (elemA rsv (r * 2))) : Value), fun FF us v => v = (.pointer (some (elemA rsv (r * 2))) : Value), fun FF us v => v = a1, fun FF us v => v = ptr b1 0, fun FF us v => v = (.agg #[arv] : Value), fun FF us v => v = tv, fun FF us v => v = (.int .i64 ((p : Int)) : Value), fun FF us v => ((v) : Value) = v ∧ (IntsF FF (v) (sub ar t p)) ∧ (isNil (v) = false), fun FF us v => (.tuple #[.agg #[((aggAt (tupAt v 0) 0))], .bool ((matchB ar ((rs.getD r ([], [])).1) ((sub ar t p))).isSome)] : Value) = v ∧ (RowsF FF ((aggAt (tupAt v 0) 0)) (matchP ar ((rs.getD r ([], [])).1) ((sub ar t p)))), fun FF us v => v = (.tuple #[.agg #[((aggAt (tupAt (us.getD 0 undef) 0) 0))], .bool ((matchB ar ((rs.getD r ([], [])).1) ((sub ar t p))).isSome)] : Value), fun FF us v => v = (.agg #[((aggAt (tupAt (us.getD 0 undef) 0) 0))] : Value), fun FF us v => v = (.bool ((matchB ar ((rs.getD r ([], [])).1) ((sub ar t p))).isSome) : Value), fun FF us v => v = ptr (blk v) 0, fun FF us v => True]) (ownL [fun us v => [], fun us v => [], fun us v => [], fun us v => [], fun us v => [], fun us v => [], fun us v => [], fun us v => [], fun us v => [], fun us v => [], fun us v => [], fun us v => [], fun us v => [], fun us v => [], fun us v => [], fun us v => [], fun us v => [], fun us v => [cellsH (blk v) [(.slice none 0 0)] 76], fun us v => [cellsH (blk (us.getD 1 undef)) [((aggAt (tupAt (us.getD 0 undef) 0) 0))] 76]]) mixed rfl rfl (by kernel_rfl) (by kernel_rfl) (MonoG.get (mC (fun le h => h) (mC (fun le h => h) (mC (fun le h => h) (mC (fun le h => h) (mC (fun le h => h) (mC (fun le h => h) (mC (fun le h => h) (mC (fun le h => h) (mC (fun le h => h) (mC (fun le h => h) (mC (fun le h => h) (mC (fun le h => h) (mC (fun le h => ⟨h.1, h.2.1.mono le, h.2.2⟩) (mC (fun le h => ⟨h.1, h.2.mono le⟩) (mC (fun le h => h) (mC (fun le h => h) (mC (fun le h => h) (mC (fun le h => h) (mC (fun le h => h) MonoG.nil)))))))))))))))))))) ?_ ?_
 ·refine gC (fun vals Fs R leFs hpZ => ?_) ?_
  ·refine XG.op (XOp.fieldP (b := b1) (0) runUnderlying29 rfl sizeOf26 (by decide) rfl rfl ?_)
   exact ⟨rfl, rfl⟩
  refine gC (fun vals Fs R leFs hpZ => ?_) ?_
  ·replace har := har.mono leFs
   replace hrs := hrs.mono leFs
   replace ht := ht.mono leFs
   replace ha1 := ha1.mono leFs
   replace ha2 := ha2.mono leFs
   replace hr1 := Rd.monoA hr1 leFs
   replace hr2 := Rd.monoA hr2 leFs
   rw [eS (l := [(0, ptr b1 0)]) ⟨(hpZ 0 (by decide)), trivial⟩]
   refine XG.op (XOp.loadN [arv] isAgg26 sizeOf26 rfl rfl (Rd.ownN [] rfl rfl) ?_)
   exact ⟨rfl, rfl⟩
  refine gC (fun vals Fs R leFs hpZ => ?_) ?_
  ·refine XG.op (XOp.fieldP (b := b1) (1) runUnderlying29 rfl sizeOf27 (by decide) rfl rfl ?_)
   exact ⟨rfl, rfl⟩
  refine gC (fun vals Fs R leFs hpZ => ?_) ?_
  ·replace har := har.mono leFs
   replace hrs := hrs.mono leFs
   replace ht := ht.mono leFs
   replace ha1 := ha1.mono leFs
   replace ha2 := ha2.mono leFs
   replace hr1 := Rd.monoA hr1 leFs
   replace hr2 := Rd.monoA hr2 leFs
   rw [eS (l := [(2, ptr b1 1)]) ⟨(hpZ 2 (by decide)), trivial⟩]
   refine XG.op (XOp.load1 (v := rsv) isAgg27 rfl (Rd.own [] rfl rfl) ?_)
   exact ⟨rfl, rfl⟩
  refine gC (fun vals Fs R leFs hpZ => ?_) ?_
  ·refine XG.op (XOp.move (.int .i64 ((r : Int))) rfl ?_)
   exact ⟨rfl, rfl⟩
  refine gC (fun vals Fs R leFs hpZ => ?_) ?_
  ·replace har := har.mono leFs
   replace hrs := hrs.mono leFs
   replace ht := ht.mono leFs
   replace ha1 := ha1.mono leFs
   replace ha2 := ha2.mono leFs
   replace hr1 := Rd.monoA hr1 leFs
   replace hr2 := Rd.monoA hr2 leFs
   rw [eS (l := [(3, rsv), (4, (.int .i64 ((r : Int)) : Value))]) ⟨(hpZ 3 (by decide)), (hpZ 4 (by decide)), trivial⟩]
   refine XG.op (XOp.indexS (v := rsv) (i := (r : Int)) (n := (rs).length) r runUnderlying27 sizeOf117 rfl rfl rfl hrs.slv (by omega) rfl ?_)
   exact ⟨rfl, rfl⟩
  refine gC (fun vals Fs R leFs hpZ => ?_) ?_
  ·rw [eS (l := [(5, (.pointer (some (elemA rsv (r * 2))) : Value))]) ⟨(hpZ 5 (by decide)), trivial⟩]
   refine XG.op (XOp.fieldE (v := rsv) (r * 2) runUnderlying117 rfl sizeOf24 (by decide) rfl rfl ?_)
   exact ⟨rfl, rfl⟩
  refine gC (fun vals Fs R leFs hpZ => ?_) ?_
  ·replace har := har.mono leFs
   replace hrs := hrs.mono leFs
   replace ht := ht.mono leFs
   replace ha1 := ha1.mono leFs
   replace ha2 := ha2.mono leFs
   replace hr1 := Rd.monoA hr1 leFs
   replace hr2 := Rd.monoA hr2 leFs
   rw [eS (l := [(6, (.pointer (some (elemA rsv (r * 2))) : Value))]) ⟨(hpZ 6 (by decide)), trivial⟩]
   refine XG.op (XOp.load1 (v := a1) isAgg24 rfl (hr1 _) ?_)
   exact ⟨rfl, rfl⟩
  refine gC (fun vals Fs R leFs hpZ => ?_) ?_
  ·refine XG.op (XOp.fieldP (b := b1) (0) runUnderlying29 rfl sizeOf26 (by decide) rfl rfl ?_)
   exact ⟨rfl, rfl⟩
  refine gC (fun vals Fs R leFs hpZ => ?_) ?_
  ·replace har := har.mono leFs
   replace hrs := hrs.mono leFs
   replace ht := ht.mono leFs
   replace ha1 := ha1.mono leFs
   replace ha2 := ha2.mono leFs
   replace hr2 := Rd.monoA hr2 leFs
   rw [eS (l := [(8, ptr b1 0)]) ⟨(hpZ 8 (by decide)), trivial⟩]
   refine XG.op (XOp.loadN [arv] isAgg26 sizeOf26 rfl rfl (Rd.ownN [] rfl rfl) ?_)
   exact ⟨rfl, rfl⟩
  refine gC (fun vals Fs R leFs hpZ => ?_) ?_
  ·refine XG.op (XOp.move (tv) rfl ?_)
   exact ⟨rfl, rfl⟩
  refine gC (fun vals Fs R leFs hpZ => ?_) ?_
  ·refine XG.op (XOp.move (.int .i64 ((p : Int))) rfl ?_)
   exact ⟨rfl, rfl⟩
  refine gC (fun vals Fs R leFs hpZ => ?_) ?_
  ·replace har := har.mono leFs
   replace hrs := hrs.mono leFs
   replace ht := ht.mono leFs
   replace ha1 := ha1.mono leFs
   replace ha2 := ha2.mono leFs
   replace hr2 := Rd.monoA hr2 leFs
   rw [eS (l := [(9, (.agg #[arv] : Value)), (10, tv), (11, (.int .i64 ((p : Int)) : Value))]) ⟨(hpZ 9 (by decide)), (hpZ 10 (by decide)), (hpZ 11 (by decide)), trivial⟩]
   refine XG.op (XOp.call (args := [.agg #[arv], tv, .int .i64 (p : Int)]) call138 rfl (subAt_spec (p := p) har ht (ho := (by first | assumption | rfl | omega | simp)) (hp := (by first | assumption | rfl | omega | simp)) (hnn := (by first | assumption | rfl | omega | simp))) ?_)
   rintro v2 _ _ _ ⟨rfl, rfl, hv2, hn2⟩
   exact ⟨⟨rfl, hv2, hn2⟩, rfl⟩
  refine gC (fun vals Fs R leFs hpZ => ?_) ?_
  ·obtain ⟨e12, f12_1ha, f12_1hn⟩ := hpZ 12 (by decide)
   replace har := har.mono leFs
   replace hrs := hrs.mono leFs
   replace ht := ht.mono leFs
   replace ha1 := ha1.mono leFs
   replace ha2 := ha2.mono leFs
   replace hr2 := Rd.monoA hr2 leFs
   rw [eS (l := [(1, (.agg #[arv] : Value)), (7, a1), (12, ((vals 12)))]) ⟨(hpZ 1 (by decide)), (hpZ 7 (by decide)), (e12).symm, trivial⟩]
   refine XG.op (XOp.call (args := [.agg #[arv], a1, ((vals 12))]) call150 rfl (match_spec har ha1 f12_1ha (ho := (by first | assumption | rfl | omega | simp)) (hpo := (by first | assumption | rfl | omega | simp))) ?_)
   rintro _ F2 _ le2 ⟨x2, rfl, hr4, rfl⟩
   replace har := har.mono le2
   replace hrs := hrs.mono le2
   replace ht := ht.mono le2
   replace ha2 := ha2.mono le2
   replace f12_1ha := f12_1ha.mono le2
   replace hr2 := Rd.monoA hr2 le2
   exact ⟨⟨rfl, hr4⟩, rfl⟩
  refine gC (fun vals Fs R leFs hpZ => ?_) ?_
  ·obtain ⟨e13, f13_1hr⟩ := hpZ 13 (by decide)
   rw [eS (l := [(13, (.tuple #[.agg #[((aggAt (tupAt (vals 13) 0) 0))], .bool ((matchB ar ((rs.getD r ([], [])).1) ((sub ar t p))).isSome)] : Value))]) ⟨(e13).symm, trivial⟩]
   refine XG.op (XOp.move (.tuple #[.agg #[((aggAt (tupAt (vals 13) 0) 0))], .bool ((matchB ar ((rs.getD r ([], [])).1) ((sub ar t p))).isSome)]) rfl ?_)
   exact ⟨rfl, rfl⟩
  refine gC (fun vals Fs R leFs hpZ => ?_) ?_
  ·obtain ⟨e13, f13_1hr⟩ := hpZ 13 (by decide)
   have e14 : vals 14 = (.tuple #[.agg #[((aggAt (tupAt (vals 13) 0) 0))], .bool ((matchB ar ((rs.getD r ([], [])).1) ((sub ar t p))).isSome)] : Value) := hpZ 14 (by decide)
   rw [eS (l := [(13, (.tuple #[.agg #[((aggAt (tupAt (vals 13) 0) 0))], .bool ((matchB ar ((rs.getD r ([], [])).1) ((sub ar t p))).isSome)] : Value)), (14, (.tuple #[.agg #[((aggAt (tupAt (vals 13) 0) 0))], .bool ((matchB ar ((rs.getD r ([], [])).1) ((sub ar t p))).isSome)] : Value))]) ⟨(e13).symm, e14, trivial⟩]
   refine XG.op (XOp.extract (.agg #[((aggAt (tupAt (vals 13) 0) 0))]) rfl rfl ?_)
   exact ⟨rfl, rfl⟩
  refine gC (fun vals Fs R leFs hpZ => ?_) ?_
  ·obtain ⟨e13, f13_1hr⟩ := hpZ 13 (by decide)
   have e14 : vals 14 = (.tuple #[.agg #[((aggAt (tupAt (vals 13) 0) 0))], .bool ((matchB ar ((rs.getD r ([], [])).1) ((sub ar t p))).isSome)] : Value) := hpZ 14 (by decide)
   rw [eS (l := [(13, (.tuple #[.agg #[((aggAt (tupAt (vals 13) 0) 0))], .bool ((matchB ar ((rs.getD r ([], [])).1) ((sub ar t p))).isSome)] : Value)), (14, (.tuple #[.agg #[((aggAt (tupAt (vals 13) 0) 0))], .bool ((matchB ar ((rs.getD r ([], [])).1) ((sub ar t p))).isSome)] : Value))]) ⟨(e13).symm, e14, trivial⟩]
   refine XG.op (XOp.extract (.bool ((matchB ar ((rs.getD r ([], [])).1) ((sub ar t p))).isSome)) rfl rfl ?_)
   exact ⟨rfl, rfl⟩
  refine gC (fun vals Fs R leFs hpZ => ?_) ?_
  ·replace har := har.mono leFs
   replace hrs := hrs.mono leFs
   replace ht := ht.mono leFs
   replace ha2 := ha2.mono leFs
   replace hr2 := Rd.monoA hr2 leFs
   refine XG.op (XOp.alloc [(.slice none 0 0)] zeroValue76 rfl ?_)
   intro b3
   exact ⟨rfl, rfl⟩
  refine gC (fun vals Fs R leFs hpZ => ?_) ?_
  ·obtain ⟨e13, f13_1hr⟩ := hpZ 13 (by decide)
   have e15 : vals 15 = (.agg #[((aggAt (tupAt (vals 13) 0) 0))] : Value) := hpZ 15 (by decide)
   have e17 : vals 17 = ptr (blk (vals 17)) 0 := hpZ 17 (by decide)
   replace har := har.mono leFs
   replace hrs := hrs.mono leFs
   replace ht := ht.mono leFs
   replace ha2 := ha2.mono leFs
   replace hr2 := Rd.monoA hr2 leFs
   rw [eS (l := [(13, (.tuple #[.agg #[((aggAt (tupAt (vals 13) 0) 0))], .bool ((matchB ar ((rs.getD r ([], [])).1) ((sub ar t p))).isSome)] : Value)), (15, (.agg #[((aggAt (tupAt (vals 13) 0) 0))] : Value)), (17, ptr (blk (vals 17)) 0)]) ⟨(e13).symm, e15, e17, trivial⟩]
   show XG _ _ _ _ _ (cellsH (blk (vals 17)) [(.slice none 0 0)] 76 :: ([cellsH b1 [arv, rsv] 29] ++ R)) _
   refine XG.op (XOp.storeN (vs := [((aggAt (tupAt (vals 13) 0) 0))]) [] _ [((aggAt (tupAt (vals 13) 0) 0))] sizeOf76 rfl rfl rfl (ones_cons (one_sl (RowsF.isSl f13_1hr)) ones_nil) rfl rfl rfl ?_)
   exact ⟨trivial, rfl⟩
  exact stepsG.nil
 intro vals F3 le3 hphi
 obtain ⟨e12, f12_1ha, f12_1hn⟩ := hphi 12 (by decide)
 obtain ⟨e13, f13_1hr⟩ := hphi 13 (by decide)
 have e14 : vals 14 = (.tuple #[.agg #[((aggAt (tupAt (vals 13) 0) 0))], .bool ((matchB ar ((rs.getD r ([], [])).1) ((sub ar t p))).isSome)] : Value) := hphi 14 (by decide)
 have e15 : vals 15 = (.agg #[((aggAt (tupAt (vals 13) 0) 0))] : Value) := hphi 15 (by decide)
 have e17 : vals 17 = ptr (blk (vals 17)) 0 := hphi 17 (by decide)
 generalize hu1 : ((vals 12)) = u1 at e12 f12_1ha f12_1hn e13 f13_1hr e14 e15 e17
 generalize hu2 : ((aggAt (tupAt (vals 13) 0) 0)) = u2 at e12 f12_1ha f12_1hn e13 f13_1hr e14 e15 e17
 generalize hu3 : blk (vals 17) = b4 at e12 f12_1ha f12_1hn e13 f13_1hr e14 e15 e17
 rw [eS (l := [(13, (.tuple #[.agg #[u2], .bool ((matchB ar ((rs.getD r ([], [])).1) ((sub ar t p))).isSome)] : Value)), (16, (.bool ((matchB ar ((rs.getD r ([], [])).1) ((sub ar t p))).isSome) : Value)), (17, ptr b4 0)]) ⟨(e13).symm, (hphi 16 (by decide)), e17, trivial⟩]
 replace har := har.mono le3
 replace hrs := hrs.mono le3
 replace ht := ht.mono le3
 replace ha2 := ha2.mono le3
 replace hr2 := Rd.monoA hr2 le3
 show XL _ _ _ _ _ _ _ (cellsH b4 [u2] 76 :: cellsH b1 [arv, rsv] 29 :: L)
 refine XL.as (.bool ((matchB ar ((rs.getD r ([], [])).1) ((sub ar t p))).isSome)) rfl ?_
 refine XL.nil (X.seq (X.seq (X.region ?_)))
 refine XL.mv (.bool ((matchB ar ((rs.getD r ([], [])).1) ((sub ar t p))).isSome)) rfl ?_
 refine cX (XOp.notB (b := (matchB ar ((rs.getD r ([], [])).1) ((sub ar t p))).isSome) rfl ?_)
 refine XL.nil ?_
 refine X.cond (t := !((matchB ar ((rs.getD r ([], [])).1) ((sub ar t p))).isSome)) rfl (fun h1 => ?_) (fun h1 => ?_)
 ·have hms : (matchB ar (rs.getD r ([], [])).1 (sub ar t p)).isSome = false := by simpa using h1
  refine X.seq (X.region ?_)
  refine XL.as ((.slice none 0 0)) rfl ?_
  refine XL.as (.bool (false)) rfl ?_
  refine XL.nil ?_
  refine X.ret (thenQ_ret (retEnd (L' := L) [(.slice none 0 0), .bool (false)] (.tuple #[(.slice none 0 0), .bool (false)]) (.tmp rfl (.tmp rfl .nil)) rfl le3 rF (sD (sD sR)) ?_))
  have hz := stepL_nomatch hms
  exact ⟨_, by rw [hz]; rfl, by rw [hz]; exact IntsF.nilV, fun h => (by rw [hz] at h; cases h), by rw [hz]; exact Fresh.ofNil _, rfl⟩
 have hms : (matchB ar (rs.getD r ([], [])).1 (sub ar t p)).isSome = true := by simpa using h1
 refine X.skip (X.seq ?_)
 refine X.drawG [cellsH b4 [u2] 76, cellsH b1 [arv, rsv] 29] L 12 [[], [], [], [], [], [], [], [], [7], [7], [], [7]] [[], [], [1], [], [2, 3], [4], [5], [0, 6], [7], [7, 8], [7, 8], [7, 9]] [[], [], [], [], [], [], [], [], [], [], [], []] (phiG [fun FF us v => v = (.agg #[u2] : Value), fun FF us v => v = ptr b1 1, fun FF us v => v = rsv, fun FF us v => v = (.int .i64 ((r : Int)) : Value), fun FF us v => v = (.pointer (some (elemA rsv (r * 2))) : Value), fun FF us v => v = (.pointer (some (elemA rsv (r * 2 + 1))) : Value), fun FF us v => v = a2, fun FF us v => (.tuple #[((tupAt v 0)), .bool ((fillL (matchP ar ((rs.getD r ([], [])).1) ((sub ar t p))) ((rs.getD r ([], [])).2)).isSome)] : Value) = v ∧ (IntsF FF ((tupAt v 0)) ((fillL (matchP ar ((rs.getD r ([], [])).1) ((sub ar t p))) ((rs.getD r ([], [])).2)).getD [])), fun FF us v => v = (.tuple #[((tupAt (us.getD 0 undef) 0)), .bool ((fillL (matchP ar ((rs.getD r ([], [])).1) ((sub ar t p))) ((rs.getD r ([], [])).2)).isSome)] : Value), fun FF us v => v = ((tupAt (us.getD 0 undef) 0)), fun FF us v => v = (.bool ((fillL (matchP ar ((rs.getD r ([], [])).1) ((sub ar t p))) ((rs.getD r ([], [])).2)).isSome) : Value), fun FF us v => v = ((tupAt (us.getD 0 undef) 0))]) (ownL [fun us v => [], fun us v => [], fun us v => [], fun us v => [], fun us v => [], fun us v => [], fun us v => [], fun us v => [], fun us v => [], fun us v => [], fun us v => [], fun us v => []]) mixed rfl rfl (by kernel_rfl) (by kernel_rfl) (MonoG.get (mC (fun le h => h) (mC (fun le h => h) (mC (fun le h => h) (mC (fun le h => h) (mC (fun le h => h) (mC (fun le h => h) (mC (fun le h => h) (mC (fun le h => ⟨h.1, h.2.mono le⟩) (mC (fun le h => h) (mC (fun le h => h) (mC (fun le h => h) (mC (fun le h => h) MonoG.nil))))))))))))) ?_ ?_
 ·refine gC (fun vals Fs R leFs hpZ => ?_) ?_
  ·replace har := har.mono leFs
   replace hrs := hrs.mono leFs
   replace ht := ht.mono leFs
   replace ha2 := ha2.mono leFs
   replace f13_1hr := f13_1hr.mono leFs
   replace hr2 := Rd.monoA hr2 leFs
   refine XG.op (XOp.loadN [u2] isAgg76 sizeOf76 rfl rfl (Rd.ownN [] rfl rfl) ?_)
   exact ⟨rfl, rfl⟩
  refine gC (fun vals Fs R leFs hpZ => ?_) ?_
  ·refine XG.op (XOp.fieldP (b := b1) (1) runUnderlying29 rfl sizeOf27 (by decide) rfl rfl ?_)
   exact ⟨rfl, rfl⟩
  refine gC (fun vals Fs R leFs hpZ => ?_) ?_
  ·replace har := har.mono leFs
   replace hrs := hrs.mono leFs
   replace ht := ht.mono leFs
   replace ha2 := ha2.mono leFs
   replace f13_1hr := f13_1hr.mono leFs
   replace hr2 := Rd.monoA hr2 leFs
   rw [eS (l := [(1, ptr b1 1)]) ⟨(hpZ 1 (by decide)), trivial⟩]
   refine XG.op (XOp.load1 (v := rsv) isAgg27 rfl (Rd.own [_] rfl rfl) ?_)
   exact ⟨rfl, rfl⟩
  refine gC (fun vals Fs R leFs hpZ => ?_) ?_
  ·refine XG.op (XOp.move (.int .i64 ((r : Int))) rfl ?_)
   exact ⟨rfl, rfl⟩
  refine gC (fun vals Fs R leFs hpZ => ?_) ?_
  ·replace har := har.mono leFs
   replace hrs := hrs.mono leFs
   replace ht := ht.mono leFs
   replace ha2 := ha2.mono leFs
   replace f13_1hr := f13_1hr.mono leFs
   replace hr2 := Rd.monoA hr2 leFs
   rw [eS (l := [(2, rsv), (3, (.int .i64 ((r : Int)) : Value))]) ⟨(hpZ 2 (by decide)), (hpZ 3 (by decide)), trivial⟩]
   refine XG.op (XOp.indexS (v := rsv) (i := (r : Int)) (n := (rs).length) r runUnderlying27 sizeOf117 rfl rfl rfl hrs.slv (by omega) rfl ?_)
   exact ⟨rfl, rfl⟩
  refine gC (fun vals Fs R leFs hpZ => ?_) ?_
  ·rw [eS (l := [(4, (.pointer (some (elemA rsv (r * 2))) : Value))]) ⟨(hpZ 4 (by decide)), trivial⟩]
   refine XG.op (XOp.fieldE (v := rsv) (r * 2 + 1) runUnderlying117 rfl sizeOf24 (by decide) rfl rfl ?_)
   exact ⟨rfl, rfl⟩
  refine gC (fun vals Fs R leFs hpZ => ?_) ?_
  ·replace har := har.mono leFs
   replace ht := ht.mono leFs
   replace ha2 := ha2.mono leFs
   replace f13_1hr := f13_1hr.mono leFs
   replace hr2 := Rd.monoA hr2 leFs
   rw [eS (l := [(5, (.pointer (some (elemA rsv (r * 2 + 1))) : Value))]) ⟨(hpZ 5 (by decide)), trivial⟩]
   refine XG.op (XOp.load1 (v := a2) isAgg24 rfl (hr2 _) ?_)
   exact ⟨rfl, rfl⟩
  refine gC (fun vals Fs R leFs hpZ => ?_) ?_
  ·replace har := har.mono leFs
   replace ht := ht.mono leFs
   replace ha2 := ha2.mono leFs
   replace f13_1hr := f13_1hr.mono leFs
   rw [eS (l := [(0, (.agg #[u2] : Value)), (6, a2)]) ⟨(hpZ 0 (by decide)), (hpZ 6 (by decide)), trivial⟩]
   refine XG.op (XOp.call (args := [.agg #[u2], a2]) call158 rfl (fill_spec f13_1hr ha2 (hsl := (by first | assumption | rfl | omega | simp)) (hsb := (fun i => by have := hmp2 i; omega)) (htl := (by first | assumption | rfl | omega | simp)) (htg := (fun k hk => by have := hRg k hk; omega))) ?_)
   rintro _ F5 _ le5 ⟨x4, rfl, hr7, hr8, rfl⟩
   replace har := har.mono le5
   replace ht := ht.mono le5
   exact ⟨⟨rfl, hr7⟩, rfl⟩
  refine gC (fun vals Fs R leFs hpZ => ?_) ?_
  ·obtain ⟨e7, f7_2hr⟩ := hpZ 7 (by decide)
   rw [eS (l := [(7, (.tuple #[((tupAt (vals 7) 0)), .bool ((fillL (matchP ar ((rs.getD r ([], [])).1) ((sub ar t p))) ((rs.getD r ([], [])).2)).isSome)] : Value))]) ⟨(e7).symm, trivial⟩]
   refine XG.op (XOp.move (.tuple #[((tupAt (vals 7) 0)), .bool ((fillL (matchP ar ((rs.getD r ([], [])).1) ((sub ar t p))) ((rs.getD r ([], [])).2)).isSome)]) rfl ?_)
   exact ⟨rfl, rfl⟩
  refine gC (fun vals Fs R leFs hpZ => ?_) ?_
  ·obtain ⟨e7, f7_2hr⟩ := hpZ 7 (by decide)
   have e8 : vals 8 = (.tuple #[((tupAt (vals 7) 0)), .bool ((fillL (matchP ar ((rs.getD r ([], [])).1) ((sub ar t p))) ((rs.getD r ([], [])).2)).isSome)] : Value) := hpZ 8 (by decide)
   rw [eS (l := [(7, (.tuple #[((tupAt (vals 7) 0)), .bool ((fillL (matchP ar ((rs.getD r ([], [])).1) ((sub ar t p))) ((rs.getD r ([], [])).2)).isSome)] : Value)), (8, (.tuple #[((tupAt (vals 7) 0)), .bool ((fillL (matchP ar ((rs.getD r ([], [])).1) ((sub ar t p))) ((rs.getD r ([], [])).2)).isSome)] : Value))]) ⟨(e7).symm, e8, trivial⟩]
   refine XG.op (XOp.extract (((tupAt (vals 7) 0))) rfl rfl ?_)
   exact ⟨rfl, rfl⟩
  refine gC (fun vals Fs R leFs hpZ => ?_) ?_
  ·obtain ⟨e7, f7_2hr⟩ := hpZ 7 (by decide)
   have e8 : vals 8 = (.tuple #[((tupAt (vals 7) 0)), .bool ((fillL (matchP ar ((rs.getD r ([], [])).1) ((sub ar t p))) ((rs.getD r ([], [])).2)).isSome)] : Value) := hpZ 8 (by decide)
   rw [eS (l := [(7, (.tuple #[((tupAt (vals 7) 0)), .bool ((fillL (matchP ar ((rs.getD r ([], [])).1) ((sub ar t p))) ((rs.getD r ([], [])).2)).isSome)] : Value)), (8, (.tuple #[((tupAt (vals 7) 0)), .bool ((fillL (matchP ar ((rs.getD r ([], [])).1) ((sub ar t p))) ((rs.getD r ([], [])).2)).isSome)] : Value))]) ⟨(e7).symm, e8, trivial⟩]
   refine XG.op (XOp.extract (.bool ((fillL (matchP ar ((rs.getD r ([], [])).1) ((sub ar t p))) ((rs.getD r ([], [])).2)).isSome)) rfl rfl ?_)
   exact ⟨rfl, rfl⟩
  refine gC (fun vals Fs R leFs hpZ => ?_) ?_
  ·obtain ⟨e7, f7_2hr⟩ := hpZ 7 (by decide)
   have e9 : vals 9 = ((tupAt (vals 7) 0)) := hpZ 9 (by decide)
   rw [eS (l := [(7, (.tuple #[((tupAt (vals 7) 0)), .bool ((fillL (matchP ar ((rs.getD r ([], [])).1) ((sub ar t p))) ((rs.getD r ([], [])).2)).isSome)] : Value)), (9, ((tupAt (vals 7) 0)))]) ⟨(e7).symm, e9, trivial⟩]
   refine XG.op (XOp.assign (((tupAt (vals 7) 0))) rfl ?_)
   exact ⟨rfl, rfl⟩
  exact stepsG.nil
 intro vals F6 le6 hphi
 obtain ⟨e7, f7_2hr⟩ := hphi 7 (by decide)
 have e8 : vals 8 = (.tuple #[((tupAt (vals 7) 0)), .bool ((fillL (matchP ar ((rs.getD r ([], [])).1) ((sub ar t p))) ((rs.getD r ([], [])).2)).isSome)] : Value) := hphi 8 (by decide)
 have e9 : vals 9 = ((tupAt (vals 7) 0)) := hphi 9 (by decide)
 have e11 : vals 11 = ((tupAt (vals 7) 0)) := hphi 11 (by decide)
 generalize hu4 : ((tupAt (vals 7) 0)) = u3 at e7 f7_2hr e8 e9 e11
 rw [eS (l := [(7, (.tuple #[u3, .bool ((fillL (matchP ar ((rs.getD r ([], [])).1) ((sub ar t p))) ((rs.getD r ([], [])).2)).isSome)] : Value)), (10, (.bool ((fillL (matchP ar ((rs.getD r ([], [])).1) ((sub ar t p))) ((rs.getD r ([], [])).2)).isSome) : Value)), (11, u3)]) ⟨(e7).symm, (hphi 10 (by decide)), e11, trivial⟩]
 replace har := har.mono le6
 replace ht := ht.mono le6
 show XL _ _ _ _ _ _ _ (cellsH b4 [u2] 76 :: cellsH b1 [arv, rsv] 29 :: L)
 refine XL.as (.bool ((fillL (matchP ar ((rs.getD r ([], [])).1) ((sub ar t p))) ((rs.getD r ([], [])).2)).isSome)) rfl ?_
 refine XL.nil (X.seq (X.seq (X.region ?_)))
 refine XL.mv (.bool ((fillL (matchP ar ((rs.getD r ([], [])).1) ((sub ar t p))) ((rs.getD r ([], [])).2)).isSome)) rfl ?_
 refine cX (XOp.notB (b := (fillL (matchP ar ((rs.getD r ([], [])).1) ((sub ar t p))) ((rs.getD r ([], [])).2)).isSome) rfl ?_)
 refine XL.nil ?_
 refine X.cond (t := !((fillL (matchP ar ((rs.getD r ([], [])).1) ((sub ar t p))) ((rs.getD r ([], [])).2)).isSome)) rfl (fun h2 => ?_) (fun h2 => ?_)
 ·have hfs : (fillL (matchP ar (rs.getD r ([], [])).1 (sub ar t p)) (rs.getD r ([], [])).2).isSome = false := by simpa using h2
  refine X.seq (X.region ?_)
  refine XL.as ((.slice none 0 0)) rfl ?_
  refine XL.as (.bool (false)) rfl ?_
  refine XL.nil ?_
  refine X.ret (thenQ_ret (retEnd (L' := L) [(.slice none 0 0), .bool (false)] (.tuple #[(.slice none 0 0), .bool (false)]) (.tmp rfl (.tmp rfl .nil)) rfl (FLe.trans le3 le6) rF (sD (sD sR)) ?_))
  have hz := stepL_nofill hms hfs
  exact ⟨_, by rw [hz]; rfl, by rw [hz]; exact IntsF.nilV, fun h => (by rw [hz] at h; cases h), by rw [hz]; exact Fresh.ofNil _, rfl⟩
 have hfs : (fillL (matchP ar (rs.getD r ([], [])).1 (sub ar t p)) (rs.getD r ([], [])).2).isSome = true := by simpa using h2
 have hfl := fill_getD_len hfs (by omega)
 refine X.skip (X.seq (X.region ?_))
 refine cX (XOp.fieldP (b := b1) (0) runUnderlying29 rfl sizeOf26 (by decide) rfl rfl ?_)
 refine cX (XOp.loadN [arv] isAgg26 sizeOf26 rfl rfl (Rd.ownN [_] rfl rfl) ?_)
 refine XL.mv (tv) rfl ?_
 refine XL.mv (.int .i64 ((p : Int))) rfl ?_
 refine XL.mv (u3) rfl ?_
 refine cX (XOp.call (args := [.agg #[arv], tv, .int .i64 (p : Int), u3]) call139 rfl (put_spec (p := p) har ht f7_2hr (ho := (by first | assumption | rfl | omega | simp)) (hp := (by first | assumption | rfl | omega | simp)) (hul := (by first | assumption | rfl | omega | simp))) ?_)
 rintro _ F7 _ le7 ⟨x5, rfl, hr9, hr10, hr11, rfl⟩
 refine cX (XOp.extract (x5) rfl rfl ?_)
 refine cX (XOp.extract (.bool ((putL ar t p ((fillL (matchP ar ((rs.getD r ([], [])).1) ((sub ar t p))) ((rs.getD r ([], [])).2)).getD [])).isSome)) rfl rfl ?_)
 refine XL.as (x5) rfl ?_
 refine XL.as (.bool ((putL ar t p ((fillL (matchP ar ((rs.getD r ([], [])).1) ((sub ar t p))) ((rs.getD r ([], [])).2)).getD [])).isSome)) rfl ?_
 refine XL.nil ?_
 refine X.ret (retEnd (L' := L) [x5, .bool ((putL ar t p ((fillL (matchP ar ((rs.getD r ([], [])).1) ((sub ar t p))) ((rs.getD r ([], [])).2)).getD [])).isSome)] (.tuple #[x5, .bool ((putL ar t p ((fillL (matchP ar ((rs.getD r ([], [])).1) ((sub ar t p))) ((rs.getD r ([], [])).2)).getD [])).isSome)]) (.tmp rfl (.tmp rfl .nil)) rfl (FLe.trans (FLe.trans le3 le6) le7) rF (sD (sD sR)) ?_)
 have hz := stepL_put hms hfs
 exact ⟨_, by rw [hz], by rw [hz]; exact hr9, by rw [hz]; exact hr10, by rw [hz]; exact (hr11.base (FLe.trans le3 le6)), rfl⟩
end Go.Proofs.YtmaaifhmhclhdaaGreat
set_option linter.unusedSimpArgs false
set_option linter.unusedVariables false
namespace Go.Proofs.YtmaaifhmhclhdaaGreat
open Go X M Tryz

/- spec.l2Gives -/
theorem l2Gives_spec {F : FH} {L : List HP} {sv : Value} {s : List (List Int)} (hs : RowsF F sv s) {i : Nat} (hsl : s.length ≤ 4000000) (hi : i ≤ 4000000) (hsb : (s.getD i []).length ≤ 4000000) :
    Does prog 169 [.agg #[sv], .int .i64 ((i : Int))] F (L) (fun v F' L' => F = F' ∧ IsSl v ∧ intsH 2 v (lk s (-1 - (i : Int))) :: L = L') := by
 refine Does.of_X func169 rfl rfl rfl ?_
 refine X.seq (X.region ?_)
 refine cX (XOp.box [sv] rfl rfl ?_)
 intro b1
 refine XL.as ((.slice none 0 0)) rfl ?_
 refine XL.nil (X.seq (X.seq (X.region ?_)))
 refine XL.mv (.int .i64 ((i : Int))) rfl ?_
 refine cX (XOp.fieldP (b := b1) (0) runUnderlying76 rfl sizeOf47 (by decide) rfl rfl ?_)
 refine cX (XOp.load1 (v := sv) isAgg47 rfl (Rd.own [] rfl rfl) ?_)
 refine cX (XOp.lenS (v := sv) (n := (s).length) runUnderlying47 rfl hs.slv ?_)
 refine cX (XOp.lss (a := (i : Int)) (b := (s.length : Int)) rfl rfl ?_)
 refine XL.mv (.bool (decide ((i : Int) < (s.length : Int)))) rfl ?_
 by_cases h1 : (i : Int) < (s.length : Int)
 ·refine XL.yes (t := 10) rfl (vT h1) (XOp.fieldP (b := b1) (0) runUnderlying76 rfl sizeOf47 (by decide) rfl rfl ?_)
  refine XL.yes (t := 10) rfl (vT h1) (XOp.load1 (v := sv) isAgg47 rfl (Rd.own [] rfl rfl) ?_)
  refine XL.yes (t := 10) rfl (vT h1) (XOp.move (.int .i64 ((i : Int))) rfl ?_)
  refine XL.yes (t := 10) rfl (vT h1) (XOp.indexS (v := sv) (i := (i : Int)) (n := (s).length) i runUnderlying47 sizeOf24 rfl rfl rfl hs.slv (by omega) (Nat.mul_one _) ?_)
  obtain ⟨a1, ha1, hr1⟩ := hs.rd (i := i) (by omega)
  refine XL.yes (t := 10) rfl (vT h1) (XOp.load1 (v := a1) isAgg24 rfl (hr1 _) ?_)
  refine XL.yes (t := 10) rfl (vT h1) (XOp.lenS (v := a1) (n := ((s.getD i [])).length) runUnderlying24 rfl ha1.slv ?_)
  refine XL.yes (t := 10) rfl (vT h1) (XOp.gtr (a := ((((s.getD i [])).length : Nat) : Int)) (b := 0) rfl rfl ?_)
  refine cX (XOp.pickT (.bool (decide ((((((s.getD i [])).length : Nat) : Int) : Int) > 0))) (vT h1) rfl ?_)
  refine XL.nil ?_
  refine X.condD (p := (((((s.getD i [])).length : Nat) : Int) : Int) > 0) rfl (fun h2 => ?_) (fun h2 => ?_)
  ·refine X.seq (X.region ?_)
   refine cX (XOp.fieldP (b := b1) (0) runUnderlying76 rfl sizeOf47 (by decide) rfl rfl ?_)
   refine cX (XOp.load1 (v := sv) isAgg47 rfl (Rd.own [] rfl rfl) ?_)
   refine XL.mv (.int .i64 ((i : Int))) rfl ?_
   refine cX (XOp.indexS (v := sv) (i := (i : Int)) (n := (s).length) i runUnderlying47 sizeOf24 rfl rfl rfl hs.slv (by omega) (Nat.mul_one _) ?_)
   refine cX (XOp.load1 (v := a1) isAgg24 rfl (hr1 _) ?_)
   refine cX (XOp.call (args := [a1]) call52 rfl (l1Copy_spec ha1 (hlt := (by first | assumption | rfl | omega | simp))) ?_)
   rintro v1 _ _ _ ⟨rfl, hs1, rfl⟩
   refine XL.as (v1) rfl ?_
   refine XL.nil ?_
   refine X.ret (thenQ_ret (retEnd (L' := intsH 2 v1 ((((s.getD i [])))) :: L) [v1] (v1) (.tmp rfl .nil) rfl rF rF (sC (sD sR)) ?_))
   refine ⟨rfl, hs1, ?_⟩
   have hxs : (lk s (-1 - (i : Int)) : List Int) = (((s.getD i []))) := lk_copy (by omega)
   exact congrArg (fun z => intsH 2 _ z :: L) hxs
  refine X.skip (X.seq (X.region ?_))
  refine XL.mv (.int .i64 ((i : Int))) rfl ?_
  refine cX (XOp.subR (a := -1) (b := (i : Int)) ((-1) - ((i : Int))) rfl rfl (by omega) (by omega) ?_)
  refine cX (XOp.buildSlice (s := 1) [.int .i64 ((-1) - ((i : Int)))] [.int .i64 (0)] [(0, [.int .i64 ((-1) - ((i : Int)))])] runUnderlying24 sizeOf2 zeroValue2 rfl (by decide) rfl (.cons rfl CellsAre.nil) rfl ?_)
  intro v2 hv1
  refine XL.as (v2) rfl ?_
  refine XL.nil ?_
  refine X.ret (retEnd (L' := intsH 2 v2 ([(-1) - ((i : Int))]) :: L) [v2] (v2) (.tmp rfl .nil) rfl rF rF (sC (sD sR)) ?_)
  refine ⟨rfl, (isSl_lit hv1), ?_⟩
  have hxs : (lk s (-1 - (i : Int)) : List Int) = [(-1) - ((i : Int))] := lk_self (by first | omega | (rw [getD_out (by omega)]; simp))
  exact congrArg (fun z => intsH 2 _ z :: L) hxs
 refine XL.no (t := 10) rfl (vF h1) ?_
 refine XL.no (t := 10) rfl (vF h1) ?_
 refine XL.no (t := 10) rfl (vF h1) ?_
 refine XL.no (t := 10) rfl (vF h1) ?_
 refine XL.no (t := 10) rfl (vF h1) ?_
 refine XL.no (t := 10) rfl (vF h1) ?_
 refine XL.no (t := 10) rfl (vF h1) ?_
 refine cX (XOp.pickF (.bool (false)) (vF h1) rfl ?_)
 refine XL.nil ?_
 refine X.condF rfl ?_
 refine X.skip (X.seq (X.region ?_))
 refine XL.mv (.int .i64 ((i : Int))) rfl ?_
 refine cX (XOp.subR (a := -1) (b := (i : Int)) ((-1) - ((i : Int))) rfl rfl (by omega) (by omega) ?_)
 refine cX (XOp.buildSlice (s := 1) [.int .i64 ((-1) - ((i : Int)))] [.int .i64 (0)] [(0, [.int .i64 ((-1) - ((i : Int)))])] runUnderlying24 sizeOf2 zeroValue2 rfl (by decide) rfl (.cons rfl CellsAre.nil) rfl ?_)
 intro v3 hv2
 refine XL.as (v3) rfl ?_
 refine XL.nil ?_
 refine X.ret (retEnd (L' := intsH 2 v3 ([(-1) - ((i : Int))]) :: L) [v3] (v3) (.tmp rfl .nil) rfl rF rF (sC (sD sR)) ?_)
 refine ⟨rfl, (isSl_lit hv2), ?_⟩
 have hxs : (lk s (-1 - (i : Int)) : List Int) = [(-1) - ((i : Int))] := lk_self (by first | omega | (rw [getD_out (by omega)]; simp))
 exact congrArg (fun z => intsH 2 _ z :: L) hxs

/- spec.l2Plain -/
theorem l2Plain_spec {F : FH} {L : List HP} {sv : Value} {s : List (List Int)} (hs : RowsF F sv s) (hsl : s.length ≤ 24) (hsb : ∀ i, (s.getD i []).length ≤ 4000000) :
    Does prog 168 [.agg #[sv]] F (L) (fun v F' L' => ∃ (a : Value), (.agg #[a] : Value) = v ∧ (RowsF F' a (plainL s)) ∧ L = L') := by
 refine Does.of_X func168 rfl rfl rfl ?_
 refine X.seq (X.region ?_)
 refine cX (XOp.box [sv] rfl rfl ?_)
 intro b1
 refine cX (XOp.alloc [(.slice none 0 0)] zeroValue76 rfl ?_)
 intro b2
 refine XL.nil (X.seq (X.region ?_))
 refine cX (XOp.build [(.slice none 0 0)] [(.slice none 0 0)] [(0, 1)] [] runUnderlying76 zeroValue76 rfl (.cons rfl sizeOf47 PlacesAre.nil) rfl CellsAre.nil ?_)
 refine cX (XOp.alloc [(.slice none 0 0)] zeroValue76 rfl ?_)
 intro b3
 refine cX (XOp.storeN (vs := [(.slice none 0 0)]) [] _ [(.slice none 0 0)] sizeOf76 rfl rfl rfl (ones_cons rfl ones_nil) rfl rfl rfl ?_)
 refine XL.nil (X.seq (X.seq (X.region ?_)))
 refine XL.as (.int .i64 (0)) rfl ?_
 refine XL.nil (X.block ?_)
 refine X.loop (α := Nat × Value × RowL × FH) (fun xQ => [(1, ptr b1 0), (2, ptr b2 0), (3, ptr b3 0), (4, .int .i64 (((xQ.1 : Nat) : Int)))]) (fun xQ => rowsH 24 xQ.2.2.2 xQ.2.1 xQ.2.2.1 :: cellsH b3 [xQ.2.1] 76 :: cellsH b2 [(.slice none 0 0)] 76 :: cellsH b1 [sv] 76 :: L) (fun xQ F' => xQ.2.2.2 = F' ∧ F ≤ xQ.2.2.2 ∧ (IsSl xQ.2.1) ∧ (xQ.2.2.1 = (plainGo 0 s).take xQ.1) ∧ (xQ.1 ≤ s.length)) (fun xQ => s.length - xQ.1) (0, (.slice none 0 0), [], F) ⟨rfl, rfl, rfl, rfl, trivial⟩ (coH.addNil none (sC (sC (sC sR)))) ⟨rfl, FLe.refl _, (⟨_, _, _, rfl⟩), (rfl), (by (try dsimp only) <;> omega)⟩ ?_
 rintro ⟨k, ov, os, G1⟩ rE _ _ ⟨rfl, leG, hov, hos, hk⟩
 show X _ _ _ _ (envs [(1, ptr b1 0), (2, ptr b2 0), (3, ptr b3 0), (4, .int .i64 ((k : Int)))] rE) _ (rowsH 24 G1 ov os :: cellsH b3 [ov] 76 :: cellsH b2 [(.slice none 0 0)] 76 :: cellsH b1 [sv] 76 :: L)
 replace leG : F ≤ G1 := leG
 dsimp only at hov hos hk
 have hol : os.length ≤ k := by rw [hos, List.length_take]; omega
 have hsbk := hsb k
 have hlkb : (lk s (-1 - (k : Int))).length ≤ 4000000 := by rw [lk_var]; split <;> simp; exact hsbk
 have leG1 := leG
 replace hs := hs.mono leG1
 refine X.open [] rfl (fun cs1 hc1 => ?_)
 replace hc1 : RowsC G1 cs1 os := hc1
 refine X.seq (X.seq (X.region ?_))
 refine XL.mv (.int .i64 ((k : Int))) rfl ?_
 refine cX (XOp.fieldP (b := b1) (0) runUnderlying76 rfl sizeOf47 (by decide) rfl rfl ?_)
 refine cX (XOp.load1 (v := sv) isAgg47 rfl (Rd.own [_, _, _] rfl rfl) ?_)
 refine cX (XOp.lenS (v := sv) (n := (s).length) runUnderlying47 rfl hs.slv ?_)
 refine cX (XOp.lss (a := (k : Int)) (b := (s.length : Int)) rfl rfl ?_)
 refine XL.nil ?_
 refine X.condD (p := (k : Int) < (s.length : Int)) rfl (fun h1 => ?_) (fun h1 => ?_)
 ·refine X.skip (X.seq (X.block (X.seq (X.region ?_))))
  refine cX (XOp.loadN [sv] isAgg76 sizeOf76 rfl rfl (Rd.ownN [_, _, _] rfl rfl) ?_)
  refine XL.mv (.int .i64 ((k : Int))) rfl ?_
  refine cX (XOp.frzF <| XOp.call (args := [.agg #[sv], .int .i64 (k : Int)]) call169 rfl (l2Gives_spec (i := k) hs (hsl := (by first | assumption | rfl | omega | simp)) (hi := (by first | assumption | rfl | omega | simp)) (hsb := (hsb k))) ?_)
  rintro v1 _ _ _ ⟨rfl, hs1, rfl⟩
  refine ⟨_, _, rfl, fun F1 le1 hz1 => ?_⟩
  replace hc1 := hc1.mono le1
  have hf1 : IntsF F1 v1 ((lk s (-1 - (k : Int)))) := intsH.fz (xs := (lk s (-1 - (k : Int)))) hz1.fz
  refine XL.as (v1) rfl ?_
  refine XL.nil (X.seq (X.seq (X.region ?_)))
  refine XL.mv (v1) rfl ?_
  refine cX (XOp.lenS (v := v1) (n := ((lk s (-1 - (k : Int)))).length) runUnderlying24 rfl hf1.slv ?_)
  refine cX (XOp.eql (a := ((((lk s (-1 - (k : Int)))).length : Nat) : Int)) (b := 1) rfl rfl ?_)
  refine XL.mv (.bool (decide ((((((lk s (-1 - (k : Int)))).length : Nat) : Int) : Int) = 1))) rfl ?_
  by_cases h2 : (((((lk s (-1 - (k : Int)))).length : Nat) : Int) : Int) = 1
  ·refine XL.yes (t := 20) rfl (vT h2) (XOp.move (v1) rfl ?_)
   refine XL.yes (t := 20) rfl (vT h2) (XOp.indexS (v := v1) (i := 0) (n := ((lk s (-1 - (k : Int)))).length) 0 runUnderlying24 sizeOf2 rfl rfl rfl hf1.slv (by omega) (Nat.mul_one _) ?_)
   refine XL.yes (t := 20) rfl (vT h2) (XOp.load1 (v := .int .i64 (((lk s (-1 - (k : Int)))).getD 0 0)) isAgg2 rfl (hf1.rd (by omega)) ?_)
   refine XL.yes (t := 20) rfl (vT h2) (XOp.move (.int .i64 ((k : Int))) rfl ?_)
   refine XL.yes (t := 20) rfl (vT h2) (XOp.subR (a := -1) (b := (k : Int)) ((-1) - ((k : Int))) rfl rfl (by omega) (by omega) ?_)
   refine XL.yes (t := 20) rfl (vT h2) (XOp.eql (a := ((lk s (-1 - (k : Int)))).getD 0 0) (b := (-1) - ((k : Int))) rfl rfl ?_)
   refine cX (XOp.pickT (.bool (decide ((((lk s (-1 - (k : Int)))).getD 0 0 : Int) = (-1) - ((k : Int))))) (vT h2) rfl ?_)
   refine XL.nil ?_
   refine X.condD (p := (((lk s (-1 - (k : Int)))).getD 0 0 : Int) = (-1) - ((k : Int))) rfl (fun h3 => ?_) (fun h3 => ?_)
   ·refine X.region ?_
    refine cX (XOp.buildSlice (s := 1) [] [.int .i64 (0)] [] runUnderlying24 sizeOf2 zeroValue2 rfl (by decide) rfl CellsAre.nil rfl ?_)
    intro v2 hv1
    refine XL.as (v2) rfl ?_
    refine XL.nil (X.region ?_)
    refine cX (XOp.fieldP (b := b3) (0) runUnderlying76 rfl sizeOf47 (by decide) rfl rfl ?_)
    refine cX (XOp.load1 (v := ov) isAgg47 rfl (Rd.own [_, _] rfl rfl) ?_)
    refine XL.mv (v2) rfl ?_
    refine cX (XOp.buildSlice (s := 1) [v2] [(.slice none 0 0)] [(0, [v2])] runUnderlying47 sizeOf24 zeroValue24 rfl (by decide) rfl (.cons (cells_one (isSl_lit hv1)) CellsAre.nil) rfl ?_)
    intro v3 hv2
    show XL _ _ _ _ _ _ _ (slH 24 1 v3 1 [v2] :: intsH 2 v2 ([] : List Int) :: slH 24 1 ov ((os).length) cs1 :: cellsH b3 [ov] 76 :: cellsH b2 [(.slice none 0 0)] 76 :: cellsH b1 [sv] 76 :: L)
    refine XL.freezeF [_] _ _ rfl (fun F2 le2 hz2 => ?_)
    replace hc1 := hc1.mono le2
    replace hf1 := hf1.mono le2
    have hf2 : IntsF F2 v2 ([]) := intsH.fz (xs := []) hz2.fz
    refine cX (XOp.append (m := 1) (bytes := 24) (cs := cs1) [_] _ [v2] runUnderlying47 typeInfo24 rfl rfl rfl rfl rfl rfl rfl (SlV.own [] rfl) rfl (Rd.lit [] rfl) (ones_cons (one_sl (IntsF.isSl hf2)) ones_nil) (by (try simp only [List.length_append, List.length_nil, List.length_cons, List.length_singleton]); omega) (by (try simp only [List.length_append, List.length_nil, List.length_cons, List.length_singleton]); omega) ?_)
    intro v4 hs2 hn1 hm1
    have hc2 := RowsC.snoc hc1 hf2
    refine cX (XOp.fieldP (b := b3) (0) runUnderlying76 rfl sizeOf47 (by decide) rfl rfl ?_)
    refine cX (XOp.store1 (v := v4) [_, _] _ [v4] sizeOf47 rfl rfl (one_sl hs2) rfl rfl rfl ?_)
    refine XL.nil (X.region ?_)
    refine XL.mv (.int .i64 ((k : Int))) rfl ?_
    refine cX (XOp.addR (a := (k : Int)) (b := 1) (((k + 1 : Nat) : Int)) rfl rfl (by omega) (by omega) ?_)
    refine XL.as (.int .i64 (((k + 1 : Nat) : Int))) rfl ?_
    refine XL.nil ?_
    exact ⟨(k + 1, v4, os ++ [[]], F2), _, (FLe.trans (FLe.trans leG1 le1) le2), rF, ⟨rfl, rfl, rfl, rfl, trivial⟩, (sD (coH.close hc2 (by first | rfl | simp) (sC (sC (sC sR))))), ⟨rfl, (FLe.trans (FLe.trans leG1 le1) le2), (hs2), (by dsimp only; rw [hos, plainGo_take (by omega), plainGo_self (one_eq (by omega) (by omega))]), (by (try dsimp only) <;> omega)⟩, (by omega)⟩
   refine X.skip (X.region ?_)
   refine cX (XOp.fieldP (b := b3) (0) runUnderlying76 rfl sizeOf47 (by decide) rfl rfl ?_)
   refine cX (XOp.load1 (v := ov) isAgg47 rfl (Rd.own [_] rfl rfl) ?_)
   refine XL.mv (v1) rfl ?_
   refine cX (XOp.buildSlice (s := 1) [v1] [(.slice none 0 0)] [(0, [v1])] runUnderlying47 sizeOf24 zeroValue24 rfl (by decide) rfl (.cons (cells_one (IntsF.isSl hf1)) CellsAre.nil) rfl ?_)
   intro v5 hv3
   refine cX (XOp.append (m := 1) (bytes := 24) (cs := cs1) [_] _ [v1] runUnderlying47 typeInfo24 rfl rfl rfl rfl rfl rfl rfl (SlV.own [] rfl) rfl (Rd.lit [] rfl) (ones_cons (one_sl (IntsF.isSl hf1)) ones_nil) (by (try simp only [List.length_append, List.length_nil, List.length_cons, List.length_singleton]); omega) (by (try simp only [List.length_append, List.length_nil, List.length_cons, List.length_singleton]); omega) ?_)
   intro v6 hs3 hn2 hm2
   have hc3 := RowsC.snoc hc1 hf1
   refine cX (XOp.fieldP (b := b3) (0) runUnderlying76 rfl sizeOf47 (by decide) rfl rfl ?_)
   refine cX (XOp.store1 (v := v6) [_, _] _ [v6] sizeOf47 rfl rfl (one_sl hs3) rfl rfl rfl ?_)
   refine XL.nil (X.region ?_)
   refine XL.mv (.int .i64 ((k : Int))) rfl ?_
   refine cX (XOp.addR (a := (k : Int)) (b := 1) (((k + 1 : Nat) : Int)) rfl rfl (by omega) (by omega) ?_)
   refine XL.as (.int .i64 (((k + 1 : Nat) : Int))) rfl ?_
   refine XL.nil ?_
   exact ⟨(k + 1, v6, os ++ [(lk s (-1 - (k : Int)))], F1), _, (FLe.trans leG1 le1), rF, ⟨rfl, rfl, rfl, rfl, trivial⟩, (sD (coH.close hc3 (by first | rfl | simp) (sC (sC (sC sR))))), ⟨rfl, (FLe.trans leG1 le1), (hs3), (by dsimp only; rw [hos, plainGo_take (by omega), plainGo_other (by intro e; have e1 := congrArg List.length e; have e2 := congrArg (fun l => l.getD 0 0) e; simp only [List.length_singleton, List.getD_cons_zero] at e1 e2; omega)]), (by (try dsimp only) <;> omega)⟩, (by omega)⟩
  refine XL.no (t := 20) rfl (vF h2) ?_
  refine XL.no (t := 20) rfl (vF h2) ?_
  refine XL.no (t := 20) rfl (vF h2) ?_
  refine XL.no (t := 20) rfl (vF h2) ?_
  refine XL.no (t := 20) rfl (vF h2) ?_
  refine XL.no (t := 20) rfl (vF h2) ?_
  refine cX (XOp.pickF (.bool (false)) (vF h2) rfl ?_)
  refine XL.nil ?_
  refine X.condF rfl ?_
  refine X.skip (X.region ?_)
  refine cX (XOp.fieldP (b := b3) (0) runUnderlying76 rfl sizeOf47 (by decide) rfl rfl ?_)
  refine cX (XOp.load1 (v := ov) isAgg47 rfl (Rd.own [_] rfl rfl) ?_)
  refine XL.mv (v1) rfl ?_
  refine cX (XOp.buildSlice (s := 1) [v1] [(.slice none 0 0)] [(0, [v1])] runUnderlying47 sizeOf24 zeroValue24 rfl (by decide) rfl (.cons (cells_one (IntsF.isSl hf1)) CellsAre.nil) rfl ?_)
  intro v7 hv4
  refine cX (XOp.append (m := 1) (bytes := 24) (cs := cs1) [_] _ [v1] runUnderlying47 typeInfo24 rfl rfl rfl rfl rfl rfl rfl (SlV.own [] rfl) rfl (Rd.lit [] rfl) (ones_cons (one_sl (IntsF.isSl hf1)) ones_nil) (by (try simp only [List.length_append, List.length_nil, List.length_cons, List.length_singleton]); omega) (by (try simp only [List.length_append, List.length_nil, List.length_cons, List.length_singleton]); omega) ?_)
  intro v8 hs4 hn3 hm3
  have hc4 := RowsC.snoc hc1 hf1
  refine cX (XOp.fieldP (b := b3) (0) runUnderlying76 rfl sizeOf47 (by decide) rfl rfl ?_)
  refine cX (XOp.store1 (v := v8) [_, _] _ [v8] sizeOf47 rfl rfl (one_sl hs4) rfl rfl rfl ?_)
  refine XL.nil (X.region ?_)
  refine XL.mv (.int .i64 ((k : Int))) rfl ?_
  refine cX (XOp.addR (a := (k : Int)) (b := 1) (((k + 1 : Nat) : Int)) rfl rfl (by omega) (by omega) ?_)
  refine XL.as (.int .i64 (((k + 1 : Nat) : Int))) rfl ?_
  refine XL.nil ?_
  exact ⟨(k + 1, v8, os ++ [(lk s (-1 - (k : Int)))], F1), _, (FLe.trans leG1 le1), rF, ⟨rfl, rfl, rfl, rfl, trivial⟩, (sD (coH.close hc4 (by first | rfl | simp) (sC (sC (sC sR))))), ⟨rfl, (FLe.trans leG1 le1), (hs4), (by dsimp only; rw [hos, plainGo_take (by omega), plainGo_other (by intro e; have e1 := congrArg List.length e; have e2 := congrArg (fun l => l.getD 0 0) e; simp only [List.length_singleton, List.getD_cons_zero] at e1 e2; omega)]), (by (try dsimp only) <;> omega)⟩, (by omega)⟩
 refine X.exit (thenQ_exit (thenQ_exit (blockQ_exit ?_)))
 refine X.seq (X.block ?_)
 refine X.loop (α := Value × RowL × FH) (fun xQ => [(2, ptr b2 0), (3, ptr b3 0)]) (fun xQ => rowsH 24 xQ.2.2 xQ.1 xQ.2.1 :: cellsH b3 [xQ.1] 76 :: cellsH b2 [(.slice none 0 0)] 76 :: cellsH b1 [sv] 76 :: L) (fun xQ F' => xQ.2.2 = F' ∧ G1 ≤ xQ.2.2 ∧ (IsSl xQ.1) ∧ (trim xQ.2.1 = plainL s) ∧ (xQ.2.1.length ≤ 24)) (fun xQ => xQ.2.1.length) (ov, os, G1) ⟨rfl, rfl, trivial⟩ (coH.close hc1 (by first | rfl | simp) (sC (sC (sC sR)))) ⟨rfl, FLe.refl _, (hov), (by dsimp only; rw [hos, plainL, List.take_of_length_le (by rw [plainGo_length]; omega)]), (by dsimp only; rw [hos, List.length_take, plainGo_length]; omega)⟩ ?_
 rintro ⟨ov2, os2, G2⟩ rE _ _ ⟨rfl, leG, hov2, hos2, hl2⟩
 show X _ _ _ _ (envs [(2, ptr b2 0), (3, ptr b3 0)] rE) _ (rowsH 24 G2 ov2 os2 :: cellsH b3 [ov2] 76 :: cellsH b2 [(.slice none 0 0)] 76 :: cellsH b1 [sv] 76 :: L)
 replace leG : G1 ≤ G2 := leG
 dsimp only at hov2 hos2 hl2
 have leG2 := leG
 refine X.open [] rfl (fun cs2 hc5 => ?_)
 replace hc5 : RowsC G2 cs2 os2 := hc5
 refine X.seq (X.seq (X.region ?_))
 refine cX (XOp.fieldP (b := b3) (0) runUnderlying76 rfl sizeOf47 (by decide) rfl rfl ?_)
 refine cX (XOp.load1 (v := ov2) isAgg47 rfl (Rd.own [_] rfl rfl) ?_)
 refine cX (XOp.lenS (v := ov2) (n := os2.length) runUnderlying47 rfl (SlV.own [] rfl) ?_)
 refine cX (XOp.gtr (a := (os2.length : Int)) (b := 0) rfl rfl ?_)
 refine XL.mv (.bool (decide (((os2.length : Int) : Int) > 0))) rfl ?_
 by_cases h4 : ((os2.length : Int) : Int) > 0
 ·refine XL.yes (t := 39) rfl (vT h4) (XOp.fieldP (b := b3) (0) runUnderlying76 rfl sizeOf47 (by decide) rfl rfl ?_)
  refine XL.yes (t := 39) rfl (vT h4) (XOp.load1 (v := ov2) isAgg47 rfl (Rd.own [_] rfl rfl) ?_)
  refine XL.yes (t := 39) rfl (vT h4) (XOp.fieldP (b := b3) (0) runUnderlying76 rfl sizeOf47 (by decide) rfl rfl ?_)
  refine XL.yes (t := 39) rfl (vT h4) (XOp.load1 (v := ov2) isAgg47 rfl (Rd.own [_] rfl rfl) ?_)
  refine XL.yes (t := 39) rfl (vT h4) (XOp.lenS (v := ov2) (n := os2.length) runUnderlying47 rfl (SlV.own [] rfl) ?_)
  refine XL.yes (t := 39) rfl (vT h4) (XOp.subR (a := (os2.length : Int)) (b := 1) (((os2.length - 1 : Nat) : Int)) rfl rfl (by omega) (by omega) ?_)
  refine XL.yes (t := 39) rfl (vT h4) (XOp.indexS (v := ov2) (i := ((os2.length - 1 : Nat) : Int)) (n := os2.length) (os2.length - 1) runUnderlying47 sizeOf24 rfl rfl rfl (SlV.own [] rfl) (by omega) (Nat.mul_one _) ?_)
  obtain ⟨a1, ha1, he1⟩ := hc5.get (i := os2.length - 1) (by omega)
  refine XL.yes (t := 39) rfl (vT h4) (XOp.load1 (v := a1) isAgg24 rfl (Rd.sl [] rfl he1) ?_)
  refine XL.yes (t := 39) rfl (vT h4) (XOp.lenS (v := a1) (n := ((os2.getD (os2.length - 1) [])).length) runUnderlying24 rfl ha1.slv ?_)
  refine XL.yes (t := 39) rfl (vT h4) (XOp.eql (a := ((((os2.getD (os2.length - 1) [])).length : Nat) : Int)) (b := 0) rfl rfl ?_)
  refine cX (XOp.pickT (.bool (decide ((((((os2.getD (os2.length - 1) [])).length : Nat) : Int) : Int) = 0))) (vT h4) rfl ?_)
  refine XL.nil ?_
  refine X.condD (p := (((((os2.getD (os2.length - 1) [])).length : Nat) : Int) : Int) = 0) rfl (fun h5 => ?_) (fun h5 => ?_)
  ·refine X.skip (X.block (X.region ?_))
   refine cX (XOp.fieldP (b := b3) (0) runUnderlying76 rfl sizeOf47 (by decide) rfl rfl ?_)
   refine cX (XOp.load1 (v := ov2) isAgg47 rfl (Rd.own [_] rfl rfl) ?_)
   refine cX (XOp.fieldP (b := b3) (0) runUnderlying76 rfl sizeOf47 (by decide) rfl rfl ?_)
   refine cX (XOp.load1 (v := ov2) isAgg47 rfl (Rd.own [_] rfl rfl) ?_)
   refine cX (XOp.lenS (v := ov2) (n := os2.length) runUnderlying47 rfl (SlV.own [] rfl) ?_)
   refine cX (XOp.subR (a := (os2.length : Int)) (b := 1) (((os2.length - 1 : Nat) : Int)) rfl rfl (by omega) (by omega) ?_)
   refine cX (XOp.sliceOwn (cs := cs2) [] _ (os2.length - 1) runUnderlying47 sizeOf24 rfl rfl ⟨_, rfl⟩ (by omega) ?_)
   intro v9 hs5
   have hc6 : RowsC G2 _ _ := CO.take hc5 (k := os2.length - 1) (by omega)
   refine cX (XOp.fieldP (b := b3) (0) runUnderlying76 rfl sizeOf47 (by decide) rfl rfl ?_)
   refine cX (XOp.store1 (v := v9) [_] _ [v9] sizeOf47 rfl rfl (one_sl hs5) rfl rfl rfl ?_)
   refine XL.nil ?_
   exact ⟨(v9, (os2.take (os2.length - 1)), G2), _, leG2, rF, ⟨rfl, rfl, trivial⟩, (coH.close hc6 (by first | rfl | simp) (sC (sC (sC sR)))), ⟨rfl, leG2, (hs5), (by dsimp only; rw [trim_cut (by omega) (List.eq_nil_of_length_eq_zero (by omega))]; exact hos2), (by dsimp only; rw [List.length_take]; omega)⟩, (by dsimp only; rw [List.length_take]; omega)⟩
  refine X.exit (thenQ_exit (thenQ_exit (blockQ_exit ?_)))
  refine X.seq (X.region ?_)
  refine cX (XOp.loadN [ov2] isAgg76 sizeOf76 rfl rfl (Rd.ownN [_] rfl rfl) ?_)
  refine cX (XOp.storeN (vs := [ov2]) [_, _] _ [ov2] sizeOf76 rfl rfl rfl (ones_cons (one_sl hov2) ones_nil) rfl rfl rfl ?_)
  refine XL.nil ?_
  refine X.freezeF [] _ _ rfl (fun F3 le3 hz3 => ?_)
  replace hc5 := hc5.mono le3
  have hf3 : RowsF F3 ov2 os2 := CO.fz hc5 (by first | rfl | simp | omega) hz3.fz
  refine X.ret (retEnd (L' := L) [.agg #[ov2]] (.agg #[ov2]) (.cell rfl (loadNV [ov2] isAgg76 sizeOf76 rfl (Rd.ownN [_] rfl rfl)) .nil) rfl (FLe.trans (FLe.trans leG1 leG2) le3) rF (sD (sD (sD sR))) ?_)
  have e : os2 = plainL s := by rw [← hos2]; exact (trim_last (fun h0 e => by have := congrArg List.length e; simp only [List.length_nil] at this; omega)).symm
  exact ⟨_, rfl, by rw [← e]; exact hf3, rfl⟩
 refine XL.no (t := 39) rfl (vF h4) ?_
 refine XL.no (t := 39) rfl (vF h4) ?_
 refine XL.no (t := 39) rfl (vF h4) ?_
 refine XL.no (t := 39) rfl (vF h4) ?_
 refine XL.no (t := 39) rfl (vF h4) ?_
 refine XL.no (t := 39) rfl (vF h4) ?_
 refine XL.no (t := 39) rfl (vF h4) ?_
 refine XL.no (t := 39) rfl (vF h4) ?_
 refine XL.no (t := 39) rfl (vF h4) ?_
 refine XL.no (t := 39) rfl (vF h4) ?_
 refine cX (XOp.pickF (.bool (false)) (vF h4) rfl ?_)
 refine XL.nil ?_
 refine X.condF rfl ?_
 refine X.exit (thenQ_exit (thenQ_exit (blockQ_exit ?_)))
 refine X.seq (X.region ?_)
 refine cX (XOp.loadN [ov2] isAgg76 sizeOf76 rfl rfl (Rd.ownN [_] rfl rfl) ?_)
 refine cX (XOp.storeN (vs := [ov2]) [_, _] _ [ov2] sizeOf76 rfl rfl rfl (ones_cons (one_sl hov2) ones_nil) rfl rfl rfl ?_)
 refine XL.nil ?_
 refine X.freezeF [] _ _ rfl (fun F4 le4 hz4 => ?_)
 replace hc5 := hc5.mono le4
 have hf4 : RowsF F4 ov2 os2 := CO.fz hc5 (by first | rfl | simp | omega) hz4.fz
 refine X.ret (retEnd (L' := L) [.agg #[ov2]] (.agg #[ov2]) (.cell rfl (loadNV [ov2] isAgg76 sizeOf76 rfl (Rd.ownN [_] rfl rfl)) .nil) rfl (FLe.trans (FLe.trans leG1 leG2) le4) rF (sD (sD (sD sR))) ?_)
 have e : os2 = plainL s := by rw [← hos2]; exact (trim_last (fun h0 e => by have := congrArg List.length e; simp only [List.length_nil] at this; omega)).symm
 exact ⟨_, rfl, by rw [← e]; exact hf4, rfl⟩

/- spec.l4Match -/
theorem l4Match_spec {F : FH} {L : List HP} {arv : Value} {ar : List Int} (har : IntsF F arv ar) {pv : Value} {p : List Int} (hp : IntsF F pv p) {tv : Value} {t : List Int} (ht : IntsF F tv t) (ho : termOk ar t = true) (hpo : termOk ar p = true) :
    Does prog 109 [.agg #[arv], pv, tv] F (L) (fun v F' L' => ∃ (a : Value), (.tuple #[.agg #[a], .bool ((matchB ar p t).isSome)] : Value) = v ∧ (RowsF F' a (matchP ar p t)) ∧ L = L') := by
 refine Does.of_X func109 rfl rfl rfl ?_
 have hpl := termOk_len hpo
 have hpg := fun k (hk : k < p.length) => termOk_ge hpo hk
 have htl := termOk_len ho
 have hsl := sigOk_spec (termOk_sig ho)
 refine X.seq (X.region ?_)
 refine cX (XOp.box [arv] rfl rfl ?_)
 intro b1
 refine cX (XOp.alloc [(.slice none 0 0)] zeroValue76 rfl ?_)
 intro b2
 refine XL.as (.bool (false)) rfl ?_
 refine XL.nil (X.seq (X.region ?_))
 refine cX (XOp.makeSlice (n := 24) (bytes := 24) [(.slice none 0 0)] runUnderlying47 sizeOf24 typeInfo24 rfl zeroValue24 rfl rfl rfl rfl (by omega) (by omega) ?_)
 intro v1 hv1
 rw [nils]
 have hc1 : RowsC F _ _ := RowsC.nils 24
 refine cX (XOp.build [v1] [(.slice none 0 0)] [(0, 1)] [(0, [v1])] runUnderlying76 zeroValue76 rfl (.cons rfl sizeOf47 PlacesAre.nil) rfl (.cons (cells_one (isSl_lit hv1)) CellsAre.nil) ?_)
 refine cX (XOp.alloc [(.slice none 0 0)] zeroValue76 rfl ?_)
 intro b3
 refine cX (XOp.storeN (vs := [v1]) [] _ [v1] sizeOf76 rfl rfl rfl (ones_cons (one_sl (isSl_lit hv1)) ones_nil) rfl rfl rfl ?_)
 refine XL.nil (X.seq (X.region ?_))
 refine XL.as (.int .i64 (0)) rfl ?_
 refine XL.nil (X.seq (X.seq (X.region ?_)))
 refine XL.as (.int .i64 (0)) rfl ?_
 refine XL.nil (X.block ?_)
 refine X.loop (α := Nat × Nat × RowL × FH) (fun xQ => [(1, pv), (2, tv), (3, ptr b1 0), (6, ptr b2 0), (8, ptr b3 0), (9, .int .i64 (((xQ.2.1 : Nat) : Int))), (10, .int .i64 (((xQ.1 : Nat) : Int)))]) (fun xQ => cellsH b3 [v1] 76 :: rowsH 24 xQ.2.2.2 v1 xQ.2.2.1 :: cellsH b2 [(.slice none 0 0)] 76 :: cellsH b1 [arv] 26 :: L) (fun xQ F' => xQ.2.2.2 = F' ∧ F ≤ xQ.2.2.2 ∧ (xQ.2.2.1.length = 24) ∧ (xQ.1 ≤ p.length) ∧ (xQ.2.1 ≤ t.length) ∧ (matchB ar p t = mGo ar t (p.drop xQ.1) xQ.2.1 xQ.2.2.1)) (fun xQ => p.length - xQ.1) (0, 0, (List.replicate 24 [] : List (List Int)), F) ⟨rfl, rfl, rfl, rfl, rfl, rfl, rfl, trivial⟩ (sC (coH.close hc1 (by first | rfl | simp) (sC (sC sR)))) ⟨rfl, FLe.refl _, (by simp), (by (try dsimp only) <;> omega), (by (try dsimp only) <;> omega), (rfl)⟩ ?_
 rintro ⟨k, i, bl, G1⟩ rE _ _ ⟨rfl, leG, hbl, hk, hi, hm⟩
 show X _ _ _ _ (envs [(1, pv), (2, tv), (3, ptr b1 0), (6, ptr b2 0), (8, ptr b3 0), (9, .int .i64 ((i : Int))), (10, .int .i64 ((k : Int)))] rE) _ (cellsH b3 [v1] 76 :: rowsH 24 G1 v1 bl :: cellsH b2 [(.slice none 0 0)] 76 :: cellsH b1 [arv] 26 :: L)
 replace leG : F ≤ G1 := leG
 dsimp only at hbl hk hi hm
 have hpk := hpg k
 have hsl2 := fun h => sub_length (p := i) ho h
 have hee := fun h => endN_spec (p := i) ho h
 have leG1 := leG
 replace har := har.mono leG1
 replace hp := hp.mono leG1
 replace ht := ht.mono leG1
 refine X.open [_] rfl (fun cs1 hc2 => ?_)
 replace hc2 : RowsC G1 cs1 bl := hc2
 refine X.seq (X.seq (X.region ?_))
 refine XL.mv (.int .i64 ((k : Int))) rfl ?_
 refine XL.mv (pv) rfl ?_
 refine cX (XOp.lenS (v := pv) (n := (p).length) runUnderlying24 rfl hp.slv ?_)
 refine cX (XOp.lss (a := (k : Int)) (b := (p.length : Int)) rfl rfl ?_)
 refine XL.nil ?_
 refine X.condD (p := (k : Int) < (p.length : Int)) rfl (fun h1 => ?_) (fun h1 => ?_)
 ·refine X.skip (X.seq (X.block (X.seq (X.seq (X.region ?_)))))
  refine XL.mv (.int .i64 ((i : Int))) rfl ?_
  refine XL.mv (tv) rfl ?_
  refine cX (XOp.lenS (v := tv) (n := (t).length) runUnderlying24 rfl ht.slv ?_)
  refine cX (XOp.geq (a := (i : Int)) (b := (t.length : Int)) rfl rfl ?_)
  refine XL.nil ?_
  refine X.condD (p := (i : Int) ≥ (t.length : Int)) rfl (fun h2 => ?_) (fun h2 => ?_)
  ·refine X.seq (X.region ?_)
   refine cX (XOp.build [(.slice none 0 0)] [(.slice none 0 0)] [(0, 1)] [] runUnderlying76 zeroValue76 rfl (.cons rfl sizeOf47 PlacesAre.nil) rfl CellsAre.nil ?_)
   refine cX (XOp.storeN (vs := [(.slice none 0 0)]) [_, _] _ [(.slice none 0 0)] sizeOf76 rfl rfl rfl (ones_cons rfl ones_nil) rfl rfl rfl ?_)
   refine XL.as (.bool (false)) rfl ?_
   refine XL.nil ?_
   refine X.ret (thenQ_ret (blockQ_ret (thenQ_ret (thenQ_ret (blockQ_ret (thenQ_ret (retEnd (L' := L) [.agg #[(.slice none 0 0)], .bool (false)] (.tuple #[.agg #[(.slice none 0 0)], .bool (false)]) (.cell rfl (loadNV [(.slice none 0 0)] isAgg76 sizeOf76 rfl (Rd.ownN [_, _] rfl rfl)) (.tmp rfl .nil)) rfl leG1 rF (sD (sD (sD (sD sR)))) ?_)))))))
   have hz : matchB ar p t = none := hm.trans (mGo_short (by omega) (by omega))
   exact ⟨_, by rw [hz]; rfl, by rw [matchP, hz]; exact SlOf.nilV, rfl⟩
  refine X.skip (X.seq (X.seq (X.region ?_)))
  refine XL.mv (pv) rfl ?_
  refine XL.mv (.int .i64 ((k : Int))) rfl ?_
  refine cX (XOp.indexS (v := pv) (i := (k : Int)) (n := (p).length) k runUnderlying24 sizeOf2 rfl rfl rfl hp.slv (by omega) (Nat.mul_one _) ?_)
  refine cX (XOp.load1 (v := .int .i64 (p.getD k 0)) isAgg2 rfl (hp.rd (by omega)) ?_)
  refine cX (XOp.geq (a := p.getD k 0) (b := 0) rfl rfl ?_)
  refine XL.nil ?_
  refine X.condD (p := (p.getD k 0 : Int) ≥ 0) rfl (fun h3 => ?_) (fun h3 => ?_)
  ·refine X.seq (X.seq ?_)
   refine X.draw [cellsH b3 [v1] 76, slH 24 1 v1 ((bl).length) cs1, cellsH b2 [(.slice none 0 0)] 76, cellsH b1 [arv] 26] L 8 [[], [], [], [], [], [], [], []] [[], [], [0, 1], [2], [], [], [4, 5], [6]] (phiL [fun us v => v = pv, fun us v => v = (.int .i64 ((k : Int)) : Value), fun us v => v = (.pointer (some (elemA pv (k))) : Value), fun us v => v = (.int .i64 (p.getD k 0) : Value), fun us v => v = tv, fun us v => v = (.int .i64 ((i : Int)) : Value), fun us v => v = (.pointer (some (elemA tv (i))) : Value), fun us v => v = (.int .i64 (t.getD i 0) : Value)]) (ownL [fun us v => [], fun us v => [], fun us v => [], fun us v => [], fun us v => [], fun us v => [], fun us v => [], fun us v => []]) mixed rfl rfl (by kernel_rfl) ?_ ?_
   ·refine pC (fun vals R hpZ => ?_) ?_
    ·refine XG.op (XOp.move (pv) rfl ?_)
     exact ⟨rfl, rfl, rfl⟩
    refine pC (fun vals R hpZ => ?_) ?_
    ·refine XG.op (XOp.move (.int .i64 ((k : Int))) rfl ?_)
     exact ⟨rfl, rfl, rfl⟩
    refine pC (fun vals R hpZ => ?_) ?_
    ·rw [eS (l := [(0, pv), (1, (.int .i64 ((k : Int)) : Value))]) ⟨hpZ 0 (by decide), hpZ 1 (by decide), trivial⟩]
     refine XG.op (XOp.indexS (v := pv) (i := (k : Int)) (n := (p).length) k runUnderlying24 sizeOf2 rfl rfl rfl hp.slv (by omega) (Nat.mul_one _) ?_)
     exact ⟨rfl, rfl, rfl⟩
    refine pC (fun vals R hpZ => ?_) ?_
    ·rw [eS (l := [(2, (.pointer (some (elemA pv (k))) : Value))]) ⟨hpZ 2 (by decide), trivial⟩]
     refine XG.op (XOp.load1 (v := .int .i64 (p.getD k 0)) isAgg2 rfl (hp.rd (by omega)) ?_)
     exact ⟨rfl, rfl, rfl⟩
    refine pC (fun vals R hpZ => ?_) ?_
    ·refine XG.op (XOp.move (tv) rfl ?_)
     exact ⟨rfl, rfl, rfl⟩
    refine pC (fun vals R hpZ => ?_) ?_
    ·refine XG.op (XOp.move (.int .i64 ((i : Int))) rfl ?_)
     exact ⟨rfl, rfl, rfl⟩
    refine pC (fun vals R hpZ => ?_) ?_
    ·rw [eS (l := [(4, tv), (5, (.int .i64 ((i : Int)) : Value))]) ⟨hpZ 4 (by decide), hpZ 5 (by decide), trivial⟩]
     refine XG.op (XOp.indexS (v := tv) (i := (i : Int)) (n := (t).length) i runUnderlying24 sizeOf2 rfl rfl rfl ht.slv (by omega) (Nat.mul_one _) ?_)
     exact ⟨rfl, rfl, rfl⟩
    refine pC (fun vals R hpZ => ?_) ?_
    ·rw [eS (l := [(6, (.pointer (some (elemA tv (i))) : Value))]) ⟨hpZ 6 (by decide), trivial⟩]
     refine XG.op (XOp.load1 (v := .int .i64 (t.getD i 0)) isAgg2 rfl (ht.rd (by omega)) ?_)
     exact ⟨rfl, rfl, rfl⟩
    exact stepsP.nil
   intro vals hphi
   rw [eS (l := [(3, (.int .i64 (p.getD k 0) : Value)), (7, (.int .i64 (t.getD i 0) : Value))]) ⟨(hphi 3 (by decide)), (hphi 7 (by decide)), trivial⟩]
   show XL _ _ _ _ _ _ _ (cellsH b3 [v1] 76 :: slH 24 1 v1 ((bl).length) cs1 :: cellsH b2 [(.slice none 0 0)] 76 :: cellsH b1 [arv] 26 :: L)
   refine cX (XOp.neq (a := p.getD k 0) (b := t.getD i 0) rfl rfl ?_)
   refine XL.nil ?_
   refine X.condD (p := (p.getD k 0 : Int) ≠ t.getD i 0) rfl (fun h4 => ?_) (fun h4 => ?_)
   ·refine X.seq (X.region ?_)
    refine cX (XOp.build [(.slice none 0 0)] [(.slice none 0 0)] [(0, 1)] [] runUnderlying76 zeroValue76 rfl (.cons rfl sizeOf47 PlacesAre.nil) rfl CellsAre.nil ?_)
    refine cX (XOp.storeN (vs := [(.slice none 0 0)]) [_, _] _ [(.slice none 0 0)] sizeOf76 rfl rfl rfl (ones_cons rfl ones_nil) rfl rfl rfl ?_)
    refine XL.as (.bool (false)) rfl ?_
    refine XL.nil ?_
    refine X.ret (thenQ_ret (thenQ_ret (blockQ_ret (thenQ_ret (thenQ_ret (blockQ_ret (thenQ_ret (retEnd (L' := L) [.agg #[(.slice none 0 0)], .bool (false)] (.tuple #[.agg #[(.slice none 0 0)], .bool (false)]) (.cell rfl (loadNV [(.slice none 0 0)] isAgg76 sizeOf76 rfl (Rd.ownN [_, _] rfl rfl)) (.tmp rfl .nil)) rfl leG1 rF (sD (sD (sD (sD sR)))) ?_))))))))
    have hz : matchB ar p t = none := hm.trans (mGo_ne (by omega) (by omega) (by omega) (by omega))
    exact ⟨_, by rw [hz]; rfl, by rw [matchP, hz]; exact SlOf.nilV, rfl⟩
   refine X.skip (X.seq (X.region ?_))
   refine XL.mv (.int .i64 ((i : Int))) rfl ?_
   refine cX (XOp.addR (a := (i : Int)) (b := 1) (((i + 1 : Nat) : Int)) rfl rfl (by omega) (by omega) ?_)
   refine XL.as (.int .i64 (((i + 1 : Nat) : Int))) rfl ?_
   refine XL.nil ?_
   refine X.exit (thenQ_exit (blockQ_exit ?_))
   refine X.region ?_
   refine XL.mv (.int .i64 ((k : Int))) rfl ?_
   refine cX (XOp.addR (a := (k : Int)) (b := 1) (((k + 1 : Nat) : Int)) rfl rfl (by omega) (by omega) ?_)
   refine XL.as (.int .i64 (((k + 1 : Nat) : Int))) rfl ?_
   refine XL.nil ?_
   exact ⟨(k + 1, i + 1, bl, G1), _, leG1, rF, ⟨rfl, rfl, rfl, rfl, rfl, rfl, rfl, trivial⟩, (sC (coH.close hc2 (by first | rfl | simp) (sC (sC sR)))), ⟨rfl, leG1, (by (try dsimp only); (try simp only [List.length_set]) <;> omega), (by (try dsimp only) <;> omega), (by (try dsimp only) <;> omega), (hm.trans (mGo_sym (by omega) (by omega) (by omega) (by omega)))⟩, (by omega)⟩
  refine X.skip (X.seq (X.region ?_))
  refine cX (XOp.loadN [arv] isAgg26 sizeOf26 rfl rfl (Rd.ownN [_, _, _] rfl rfl) ?_)
  refine XL.mv (tv) rfl ?_
  refine XL.mv (.int .i64 ((i : Int))) rfl ?_
  refine cX (XOp.frzF <| XOp.call (args := [.agg #[arv], tv, .int .i64 (i : Int)]) call110 rfl (l1Sub_spec (p := i) har ht (ho := (by first | assumption | rfl | omega | simp)) (hp := (by first | assumption | rfl | omega | simp))) ?_)
  rintro v2 _ _ _ ⟨rfl, hs1, rfl⟩
  refine ⟨_, _, rfl, fun F1 le1 hz1 => ?_⟩
  replace hp := hp.mono le1
  replace hc2 := hc2.mono le1
  have hf1 : IntsF F1 v2 ((sub ar t i)) := intsH.fz (xs := (sub ar t i)) hz1.fz
  refine XL.as (v2) rfl ?_
  refine XL.nil (X.seq ?_)
  refine X.draw [cellsH b3 [v1] 76, slH 24 1 v1 ((bl).length) cs1, cellsH b2 [(.slice none 0 0)] 76, cellsH b1 [arv] 26] L 7 [[], [], [], [], [], [], []] [[], [0], [], [], [2, 3], [4], [5]] (phiL [fun us v => v = ptr b3 0, fun us v => v = v1, fun us v => v = pv, fun us v => v = (.int .i64 ((k : Int)) : Value), fun us v => v = (.pointer (some (elemA pv (k))) : Value), fun us v => v = (.int .i64 (p.getD k 0) : Value), fun us v => v = (.int .i64 ((-1) - (p.getD k 0)) : Value)]) (ownL [fun us v => [], fun us v => [], fun us v => [], fun us v => [], fun us v => [], fun us v => [], fun us v => []]) mixed rfl rfl (by kernel_rfl) ?_ ?_
  ·refine pC (fun vals R hpZ => ?_) ?_
   ·refine XG.op (XOp.fieldP (b := b3) (0) runUnderlying76 rfl sizeOf47 (by decide) rfl rfl ?_)
    exact ⟨rfl, rfl, rfl⟩
   refine pC (fun vals R hpZ => ?_) ?_
   ·rw [eS (l := [(0, ptr b3 0)]) ⟨hpZ 0 (by decide), trivial⟩]
    refine XG.op (XOp.load1 (v := v1) isAgg47 rfl (Rd.own [] rfl rfl) ?_)
    exact ⟨rfl, rfl, rfl⟩
   refine pC (fun vals R hpZ => ?_) ?_
   ·refine XG.op (XOp.move (pv) rfl ?_)
    exact ⟨rfl, rfl, rfl⟩
   refine pC (fun vals R hpZ => ?_) ?_
   ·refine XG.op (XOp.move (.int .i64 ((k : Int))) rfl ?_)
    exact ⟨rfl, rfl, rfl⟩
   refine pC (fun vals R hpZ => ?_) ?_
   ·rw [eS (l := [(2, pv), (3, (.int .i64 ((k : Int)) : Value))]) ⟨hpZ 2 (by decide), hpZ 3 (by decide), trivial⟩]
    refine XG.op (XOp.indexS (v := pv) (i := (k : Int)) (n := (p).length) k runUnderlying24 sizeOf2 rfl rfl rfl hp.slv (by omega) (Nat.mul_one _) ?_)
    exact ⟨rfl, rfl, rfl⟩
   refine pC (fun vals R hpZ => ?_) ?_
   ·rw [eS (l := [(4, (.pointer (some (elemA pv (k))) : Value))]) ⟨hpZ 4 (by decide), trivial⟩]
    refine XG.op (XOp.load1 (v := .int .i64 (p.getD k 0)) isAgg2 rfl (hp.rd (by omega)) ?_)
    exact ⟨rfl, rfl, rfl⟩
   refine pC (fun vals R hpZ => ?_) ?_
   ·rw [eS (l := [(5, (.int .i64 (p.getD k 0) : Value))]) ⟨hpZ 5 (by decide), trivial⟩]
    refine XG.op (XOp.subR (a := -1) (b := p.getD k 0) ((-1) - (p.getD k 0)) rfl rfl (by omega) (by omega) ?_)
    exact ⟨rfl, rfl, rfl⟩
   exact stepsP.nil
  intro vals hphi
  rw [eS (l := [(1, v1), (6, (.int .i64 ((-1) - (p.getD k 0)) : Value))]) ⟨(hphi 1 (by decide)), (hphi 6 (by decide)), trivial⟩]
  show XL _ _ _ _ _ _ _ (cellsH b3 [v1] 76 :: slH 24 1 v1 ((bl).length) cs1 :: cellsH b2 [(.slice none 0 0)] 76 :: cellsH b1 [arv] 26 :: L)
  refine cX (XOp.indexS (v := v1) (i := (-1) - (p.getD k 0)) (n := bl.length) (((-1) - (p.getD k 0)).toNat) runUnderlying47 sizeOf24 rfl rfl (by omega) (SlV.own [_] rfl) (by omega) (Nat.mul_one _) ?_)
  obtain ⟨a1, ha1, he1⟩ := hc2.get (i := ((-1) - (p.getD k 0)).toNat) (by omega)
  refine cX (XOp.load1 (v := a1) isAgg24 rfl (Rd.sl [_] rfl he1) ?_)
  refine XL.as (a1) rfl ?_
  refine XL.nil (X.seq (X.seq (X.region ?_)))
  refine XL.mv (a1) rfl ?_
  refine cX (XOp.lenS (v := a1) (n := ((bl.getD (((-1) - (p.getD k 0)).toNat) [])).length) runUnderlying24 rfl ha1.slv ?_)
  refine cX (XOp.gtr (a := ((((bl.getD (((-1) - (p.getD k 0)).toNat) [])).length : Nat) : Int)) (b := 0) rfl rfl ?_)
  refine XL.mv (.bool (decide ((((((bl.getD (((-1) - (p.getD k 0)).toNat) [])).length : Nat) : Int) : Int) > 0))) rfl ?_
  by_cases h5 : (((((bl.getD (((-1) - (p.getD k 0)).toNat) [])).length : Nat) : Int) : Int) > 0
  ·refine XL.yes (t := 59) rfl (vT h5) (XOp.move (a1) rfl ?_)
   refine XL.yes (t := 59) rfl (vT h5) (XOp.move (v2) rfl ?_)
   refine XL.yes (t := 59) rfl (vT h5) (XOp.call (args := [a1, v2]) call34 rfl (SameTerm_spec ha1 hf1 (hbd := (by first | assumption | rfl | omega | (left; simp; done) | (right; simp; done)))) ?_)
   rintro _ _ _ _ ⟨rfl, rfl, rfl⟩
   refine XL.yes (t := 59) rfl (vT h5) (XOp.notD (p := ((bl.getD (((-1) - (p.getD k 0)).toNat) [])) = ((sub ar t i))) rfl ?_)
   refine cX (XOp.pickT (.bool (decide (¬(((bl.getD (((-1) - (p.getD k 0)).toNat) [])) = ((sub ar t i)))))) (vT h5) rfl ?_)
   refine XL.nil ?_
   refine X.condD (p := ¬(((bl.getD (((-1) - (p.getD k 0)).toNat) [])) = ((sub ar t i)))) rfl (fun h6 => ?_) (fun h6 => ?_)
   ·refine X.seq (X.region ?_)
    refine cX (XOp.build [(.slice none 0 0)] [(.slice none 0 0)] [(0, 1)] [] runUnderlying76 zeroValue76 rfl (.cons rfl sizeOf47 PlacesAre.nil) rfl CellsAre.nil ?_)
    refine cX (XOp.storeN (vs := [(.slice none 0 0)]) [_, _] _ [(.slice none 0 0)] sizeOf76 rfl rfl rfl (ones_cons rfl ones_nil) rfl rfl rfl ?_)
    refine XL.as (.bool (false)) rfl ?_
    refine XL.nil ?_
    refine X.ret (thenQ_ret (blockQ_ret (thenQ_ret (thenQ_ret (blockQ_ret (thenQ_ret (retEnd (L' := L) [.agg #[(.slice none 0 0)], .bool (false)] (.tuple #[.agg #[(.slice none 0 0)], .bool (false)]) (.cell rfl (loadNV [(.slice none 0 0)] isAgg76 sizeOf76 rfl (Rd.ownN [_, _] rfl rfl)) (.tmp rfl .nil)) rfl (FLe.trans leG1 le1) rF (sD (sD (sD (sD sR)))) ?_)))))))
    have hz : matchB ar p t = none := hm.trans (mGo_clash (by omega) (by omega) (by omega) (by intro e; have := congrArg List.length (show bl.getD (-1 - p.getD k 0).toNat [] = [] from e); simp only [List.length_nil] at this; omega) (by assumption))
    exact ⟨_, by rw [hz]; rfl, by rw [matchP, hz]; exact SlOf.nilV, rfl⟩
   refine X.skip (X.seq ?_)
   refine X.draw [cellsH b3 [v1] 76, slH 24 1 v1 ((bl).length) cs1, cellsH b2 [(.slice none 0 0)] 76, cellsH b1 [arv] 26] L 8 [[], [], [], [], [], [], [], []] [[], [0], [], [], [2, 3], [4], [5], []] (phiL [fun us v => v = ptr b3 0, fun us v => v = v1, fun us v => v = pv, fun us v => v = (.int .i64 ((k : Int)) : Value), fun us v => v = (.pointer (some (elemA pv (k))) : Value), fun us v => v = (.int .i64 (p.getD k 0) : Value), fun us v => v = (.int .i64 ((-1) - (p.getD k 0)) : Value), fun us v => v = v2]) (ownL [fun us v => [], fun us v => [], fun us v => [], fun us v => [], fun us v => [], fun us v => [], fun us v => [], fun us v => []]) mixed rfl rfl (by kernel_rfl) ?_ ?_
   ·refine pC (fun vals R hpZ => ?_) ?_
    ·refine XG.op (XOp.fieldP (b := b3) (0) runUnderlying76 rfl sizeOf47 (by decide) rfl rfl ?_)
     exact ⟨rfl, rfl, rfl⟩
    refine pC (fun vals R hpZ => ?_) ?_
    ·rw [eS (l := [(0, ptr b3 0)]) ⟨hpZ 0 (by decide), trivial⟩]
     refine XG.op (XOp.load1 (v := v1) isAgg47 rfl (Rd.own [] rfl rfl) ?_)
     exact ⟨rfl, rfl, rfl⟩
    refine pC (fun vals R hpZ => ?_) ?_
    ·refine XG.op (XOp.move (pv) rfl ?_)
     exact ⟨rfl, rfl, rfl⟩
    refine pC (fun vals R hpZ => ?_) ?_
    ·refine XG.op (XOp.move (.int .i64 ((k : Int))) rfl ?_)
     exact ⟨rfl, rfl, rfl⟩
    refine pC (fun vals R hpZ => ?_) ?_
    ·rw [eS (l := [(2, pv), (3, (.int .i64 ((k : Int)) : Value))]) ⟨hpZ 2 (by decide), hpZ 3 (by decide), trivial⟩]
     refine XG.op (XOp.indexS (v := pv) (i := (k : Int)) (n := (p).length) k runUnderlying24 sizeOf2 rfl rfl rfl hp.slv (by omega) (Nat.mul_one _) ?_)
     exact ⟨rfl, rfl, rfl⟩
    refine pC (fun vals R hpZ => ?_) ?_
    ·rw [eS (l := [(4, (.pointer (some (elemA pv (k))) : Value))]) ⟨hpZ 4 (by decide), trivial⟩]
     refine XG.op (XOp.load1 (v := .int .i64 (p.getD k 0)) isAgg2 rfl (hp.rd (by omega)) ?_)
     exact ⟨rfl, rfl, rfl⟩
    refine pC (fun vals R hpZ => ?_) ?_
    ·rw [eS (l := [(5, (.int .i64 (p.getD k 0) : Value))]) ⟨hpZ 5 (by decide), trivial⟩]
     refine XG.op (XOp.subR (a := -1) (b := p.getD k 0) ((-1) - (p.getD k 0)) rfl rfl (by omega) (by omega) ?_)
     exact ⟨rfl, rfl, rfl⟩
    refine pC (fun vals R hpZ => ?_) ?_
    ·refine XG.op (XOp.move (v2) rfl ?_)
     exact ⟨rfl, rfl, rfl⟩
    exact stepsP.nil
   intro vals hphi
   rw [eS (l := [(1, v1), (6, (.int .i64 ((-1) - (p.getD k 0)) : Value)), (7, v2)]) ⟨(hphi 1 (by decide)), (hphi 6 (by decide)), (hphi 7 (by decide)), trivial⟩]
   show XL _ _ _ _ _ _ _ (cellsH b3 [v1] 76 :: slH 24 1 v1 ((bl).length) cs1 :: cellsH b2 [(.slice none 0 0)] 76 :: cellsH b1 [arv] 26 :: L)
   refine cX (XOp.indexS (v := v1) (i := (-1) - (p.getD k 0)) (n := bl.length) (((-1) - (p.getD k 0)).toNat) runUnderlying47 sizeOf24 rfl rfl (by omega) (SlV.own [_] rfl) (by omega) (Nat.mul_one _) ?_)
   refine cX (XOp.storeS (i := ((-1) - (p.getD k 0)).toNat) (cs := cs1) [_] _ sizeOf24 rfl rfl (one_sl (IntsF.isSl hf1)) rfl (by have h9 := CO.len hc2; (try simp only [List.length_set, List.length_replicate] at h9 ⊢) <;> omega) ?_)
   have hc3 := hc2.set (((-1) - (p.getD k 0)).toNat) hf1
   refine XL.nil (X.region ?_)
   refine XL.mv (.int .i64 ((i : Int))) rfl ?_
   refine XL.mv (v2) rfl ?_
   refine cX (XOp.lenS (v := v2) (n := ((sub ar t i)).length) runUnderlying24 rfl hf1.slv ?_)
   refine cX (XOp.addR (a := (i : Int)) (b := ((((sub ar t i)).length : Nat) : Int)) (((i + (((sub ar t i)).length) : Nat) : Int)) rfl rfl (by omega) (by omega) ?_)
   refine XL.as (.int .i64 (((i + (((sub ar t i)).length) : Nat) : Int))) rfl ?_
   refine XL.nil (X.region ?_)
   refine XL.mv (.int .i64 ((k : Int))) rfl ?_
   refine cX (XOp.addR (a := (k : Int)) (b := 1) (((k + 1 : Nat) : Int)) rfl rfl (by omega) (by omega) ?_)
   refine XL.as (.int .i64 (((k + 1 : Nat) : Int))) rfl ?_
   refine XL.nil ?_
   exact ⟨(k + 1, i + (((sub ar t i)).length), (bl.set (((-1) - (p.getD k 0)).toNat) ((sub ar t i))), F1), _, (FLe.trans leG1 le1), rF, ⟨rfl, rfl, rfl, rfl, rfl, rfl, rfl, trivial⟩, (sC (coH.close hc3 (by first | rfl | simp) (sC (sC sR)))), ⟨rfl, (FLe.trans leG1 le1), (by (try dsimp only); (try simp only [List.length_set]) <;> omega), (by (try dsimp only) <;> omega), (by (try dsimp only) <;> omega), (hm.trans (m4_next (by omega) (by omega) (by omega) (by first | (left; exact List.eq_nil_of_length_eq_zero (show (bl.getD (-1 - p.getD k 0).toNat []).length = 0 by omega)) | (right; first | assumption | exact Classical.not_not.1 (by assumption)))))⟩, (by omega)⟩
  refine XL.no (t := 59) rfl (vF h5) ?_
  refine XL.no (t := 59) rfl (vF h5) ?_
  refine XL.no (t := 59) rfl (vF h5) ?_
  refine XL.no (t := 59) rfl (vF h5) ?_
  refine cX (XOp.pickF (.bool (false)) (vF h5) rfl ?_)
  refine XL.nil ?_
  refine X.condF rfl ?_
  refine X.skip (X.seq ?_)
  refine X.draw [cellsH b3 [v1] 76, slH 24 1 v1 ((bl).length) cs1, cellsH b2 [(.slice none 0 0)] 76, cellsH b1 [arv] 26] L 8 [[], [], [], [], [], [], [], []] [[], [0], [], [], [2, 3], [4], [5], []] (phiL [fun us v => v = ptr b3 0, fun us v => v = v1, fun us v => v = pv, fun us v => v = (.int .i64 ((k : Int)) : Value), fun us v => v = (.pointer (some (elemA pv (k))) : Value), fun us v => v = (.int .i64 (p.getD k 0) : Value), fun us v => v = (.int .i64 ((-1) - (p.getD k 0)) : Value), fun us v => v = v2]) (ownL [fun us v => [], fun us v => [], fun us v => [], fun us v => [], fun us v => [], fun us v => [], fun us v => [], fun us v => []]) mixed rfl rfl (by kernel_rfl) ?_ ?_
  ·refine pC (fun vals R hpZ => ?_) ?_
   ·refine XG.op (XOp.fieldP (b := b3) (0) runUnderlying76 rfl sizeOf47 (by decide) rfl rfl ?_)
    exact ⟨rfl, rfl, rfl⟩
   refine pC (fun vals R hpZ => ?_) ?_
   ·rw [eS (l := [(0, ptr b3 0)]) ⟨hpZ 0 (by decide), trivial⟩]
    refine XG.op (XOp.load1 (v := v1) isAgg47 rfl (Rd.own [] rfl rfl) ?_)
    exact ⟨rfl, rfl, rfl⟩
   refine pC (fun vals R hpZ => ?_) ?_
   ·refine XG.op (XOp.move (pv) rfl ?_)
    exact ⟨rfl, rfl, rfl⟩
   refine pC (fun vals R hpZ => ?_) ?_
   ·refine XG.op (XOp.move (.int .i64 ((k : Int))) rfl ?_)
    exact ⟨rfl, rfl, rfl⟩
   refine pC (fun vals R hpZ => ?_) ?_
   ·rw [eS (l := [(2, pv), (3, (.int .i64 ((k : Int)) : Value))]) ⟨hpZ 2 (by decide), hpZ 3 (by decide), trivial⟩]
    refine XG.op (XOp.indexS (v := pv) (i := (k : Int)) (n := (p).length) k runUnderlying24 sizeOf2 rfl rfl rfl hp.slv (by omega) (Nat.mul_one _) ?_)
    exact ⟨rfl, rfl, rfl⟩
   refine pC (fun vals R hpZ => ?_) ?_
   ·rw [eS (l := [(4, (.pointer (some (elemA pv (k))) : Value))]) ⟨hpZ 4 (by decide), trivial⟩]
    refine XG.op (XOp.load1 (v := .int .i64 (p.getD k 0)) isAgg2 rfl (hp.rd (by omega)) ?_)
    exact ⟨rfl, rfl, rfl⟩
   refine pC (fun vals R hpZ => ?_) ?_
   ·rw [eS (l := [(5, (.int .i64 (p.getD k 0) : Value))]) ⟨hpZ 5 (by decide), trivial⟩]
    refine XG.op (XOp.subR (a := -1) (b := p.getD k 0) ((-1) - (p.getD k 0)) rfl rfl (by omega) (by omega) ?_)
    exact ⟨rfl, rfl, rfl⟩
   refine pC (fun vals R hpZ => ?_) ?_
   ·refine XG.op (XOp.move (v2) rfl ?_)
    exact ⟨rfl, rfl, rfl⟩
   exact stepsP.nil
  intro vals hphi
  rw [eS (l := [(1, v1), (6, (.int .i64 ((-1) - (p.getD k 0)) : Value)), (7, v2)]) ⟨(hphi 1 (by decide)), (hphi 6 (by decide)), (hphi 7 (by decide)), trivial⟩]
  show XL _ _ _ _ _ _ _ (cellsH b3 [v1] 76 :: slH 24 1 v1 ((bl).length) cs1 :: cellsH b2 [(.slice none 0 0)] 76 :: cellsH b1 [arv] 26 :: L)
  refine cX (XOp.indexS (v := v1) (i := (-1) - (p.getD k 0)) (n := bl.length) (((-1) - (p.getD k 0)).toNat) runUnderlying47 sizeOf24 rfl rfl (by omega) (SlV.own [_] rfl) (by omega) (Nat.mul_one _) ?_)
  refine cX (XOp.storeS (i := ((-1) - (p.getD k 0)).toNat) (cs := cs1) [_] _ sizeOf24 rfl rfl (one_sl (IntsF.isSl hf1)) rfl (by have h9 := CO.len hc2; (try simp only [List.length_set, List.length_replicate] at h9 ⊢) <;> omega) ?_)
  have hc4 := hc2.set (((-1) - (p.getD k 0)).toNat) hf1
  refine XL.nil (X.region ?_)
  refine XL.mv (.int .i64 ((i : Int))) rfl ?_
  refine XL.mv (v2) rfl ?_
  refine cX (XOp.lenS (v := v2) (n := ((sub ar t i)).length) runUnderlying24 rfl hf1.slv ?_)
  refine cX (XOp.addR (a := (i : Int)) (b := ((((sub ar t i)).length : Nat) : Int)) (((i + (((sub ar t i)).length) : Nat) : Int)) rfl rfl (by omega) (by omega) ?_)
  refine XL.as (.int .i64 (((i + (((sub ar t i)).length) : Nat) : Int))) rfl ?_
  refine XL.nil (X.region ?_)
  refine XL.mv (.int .i64 ((k : Int))) rfl ?_
  refine cX (XOp.addR (a := (k : Int)) (b := 1) (((k + 1 : Nat) : Int)) rfl rfl (by omega) (by omega) ?_)
  refine XL.as (.int .i64 (((k + 1 : Nat) : Int))) rfl ?_
  refine XL.nil ?_
  exact ⟨(k + 1, i + (((sub ar t i)).length), (bl.set (((-1) - (p.getD k 0)).toNat) ((sub ar t i))), F1), _, (FLe.trans leG1 le1), rF, ⟨rfl, rfl, rfl, rfl, rfl, rfl, rfl, trivial⟩, (sC (coH.close hc4 (by first | rfl | simp) (sC (sC sR)))), ⟨rfl, (FLe.trans leG1 le1), (by (try dsimp only); (try simp only [List.length_set]) <;> omega), (by (try dsimp only) <;> omega), (by (try dsimp only) <;> omega), (hm.trans (m4_next (by omega) (by omega) (by omega) (by first | (left; exact List.eq_nil_of_length_eq_zero (show (bl.getD (-1 - p.getD k 0).toNat []).length = 0 by omega)) | (right; first | assumption | exact Classical.not_not.1 (by assumption)))))⟩, (by omega)⟩
 refine X.exit (thenQ_exit (thenQ_exit (blockQ_exit ?_)))
 refine X.seq (X.region ?_)
 refine cX (XOp.loadN [v1] isAgg76 sizeOf76 rfl rfl (Rd.ownN [] rfl rfl) ?_)
 have hmb := (matchB_len (hm.trans (mGo_done (by omega)))).2
 refine XL.freezeF [_] _ _ rfl (fun F2 le2 hz2 => ?_)
 replace hc2 := hc2.mono le2
 have hf2 : RowsF F2 v1 bl := CO.fz hc2 (by first | rfl | simp | omega) hz2.fz
 refine cX (XOp.call (args := [.agg #[v1]]) call168 rfl (l2Plain_spec hf2 (hsl := (by omega)) (hsb := (fun j => by have := hmb j; omega))) ?_)
 rintro _ F3 _ le3 ⟨x1, rfl, hr1, rfl⟩
 refine cX (XOp.storeN (vs := [x1]) [_] _ [x1] sizeOf76 rfl rfl rfl (ones_cons (one_sl (RowsF.isSl hr1)) ones_nil) rfl rfl rfl ?_)
 refine XL.as (.bool (true)) rfl ?_
 refine XL.nil ?_
 refine X.ret (retEnd (L' := L) [.agg #[x1], .bool (true)] (.tuple #[.agg #[x1], .bool (true)]) (.cell rfl (loadNV [x1] isAgg76 sizeOf76 rfl (Rd.ownN [_] rfl rfl)) (.tmp rfl .nil)) rfl (FLe.trans (FLe.trans leG1 le2) le3) rF (sD (sD (sD sR))) ?_)
 have hz : matchB ar p t = some bl := hm.trans (mGo_done (by omega))
 exact ⟨_, by rw [hz]; rfl, by rw [matchP, hz]; exact hr1, rfl⟩
end Go.Proofs.YtmaaifhmhclhdaaGreat
set_option linter.unusedSimpArgs false
set_option linter.unusedVariables false
namespace Go.Proofs.YtmaaifhmhclhdaaGreat
open Go X M Tryz

/- spec.l7Right -/
theorem l7Right_spec {F : FH} {L : List HP} {arv : Value} {ar : List Int} (har : IntsF F arv ar) {rsv : Value} {rs : List (List Int × List Int)} (hrs : PairsF F rsv rs) {tv : Value} {t : List Int} (ht : IntsF F tv t) (hla : ar.length ≤ 4000000) (hlr : rs.length ≤ 4000000) (hrb : ∀ i, i < rs.length → (rs.getD i ([], [])).1.length ≤ 4000000 ∧ (rs.getD i ([], [])).2.length ≤ 4000000) (hlt : t.length ≤ 4000000) :
    Does prog 76 [.agg #[arv, rsv], tv] F (L) (fun v F' L' => (.bool (rightB ar rs t) : Value) = v ∧ F = F' ∧ L = L') := by
 refine Does.of_X func76 rfl rfl rfl ?_
 refine X.seq (X.region ?_)
 refine cX (XOp.box [arv, rsv] rfl rfl ?_)
 intro b1
 refine XL.as (.bool (false)) rfl ?_
 refine XL.nil (X.seq (X.region ?_))
 refine cX (XOp.loadN [arv, rsv] isAgg29 sizeOf29 rfl rfl (Rd.ownN [] rfl rfl) ?_)
 refine cX (XOp.call (args := [.agg #[arv, rsv]]) call92 rfl (sSystemOk_spec har hrs (hla := (by first | assumption | rfl | omega | simp)) (hlr := (by first | assumption | rfl | omega | simp)) (hrb := (by first | assumption | rfl | omega | simp))) ?_)
 rintro _ _ _ _ ⟨rfl, rfl, rfl⟩
 refine XL.mv (.bool (sysOk ar rs)) rfl ?_
 by_cases h1 : (sysOk ar rs) = true
 ·refine XL.yes (t := 7) rfl (vB h1) (XOp.fieldP (b := b1) (0) runUnderlying29 rfl sizeOf26 (by decide) rfl rfl ?_)
  refine XL.yes (t := 7) rfl (vB h1) (XOp.loadN [arv] isAgg26 sizeOf26 rfl rfl (Rd.ownN [] rfl rfl) ?_)
  refine XL.yes (t := 7) rfl (vB h1) (XOp.move (tv) rfl ?_)
  refine XL.yes (t := 7) rfl (vB h1) (XOp.call (args := [.agg #[arv], tv]) call82 rfl (sTermOk_spec har ht (hla := (by first | assumption | rfl | omega | simp)) (hlt := (by first | assumption | rfl | omega | simp))) ?_)
  rintro _ _ _ _ ⟨rfl, rfl, rfl⟩
  refine cX (XOp.pickT (.bool (termOk ar t)) (vB h1) rfl ?_)
  refine XL.as (.bool (termOk ar t)) rfl ?_
  refine XL.nil ?_
  refine X.ret (retEnd (L' := L) [.bool (termOk ar t)] (.bool (termOk ar t)) (.tmp rfl .nil) rfl rF rF (sD sR) ?_)
  exact ⟨(vB (by rw [rightB]; simp_all)), rfl, rfl⟩
 rw [Bool.not_eq_true] at h1
 refine XL.no (t := 7) rfl (vB h1) ?_
 refine XL.no (t := 7) rfl (vB h1) ?_
 refine XL.no (t := 7) rfl (vB h1) ?_
 refine XL.no (t := 7) rfl (vB h1) ?_
 refine cX (XOp.pickF (.bool (false)) (vB h1) rfl ?_)
 refine XL.as (.bool (false)) rfl ?_
 refine XL.nil ?_
 refine X.ret (retEnd (L' := L) [.bool (false)] (.bool (false)) (.tmp rfl .nil) rfl rF rF (sD sR) ?_)
 exact ⟨(vB (by rw [rightB]; simp_all)), rfl, rfl⟩

/- spec.l8Redex -/
theorem l8Redex_spec {F : FH} {L : List HP} {arv : Value} {ar : List Int} (har : IntsF F arv ar) {rsv : Value} {rs : List (List Int × List Int)} (hrs : PairsF F rsv rs) {tv : Value} {t : List Int} (ht : IntsF F tv t) {p : Nat} (hsys : sysOk ar rs = true) (ho : termOk ar t = true) (hp : p < t.length) :
    Does prog 108 [.agg #[arv, rsv], tv, .int .i64 ((p : Int))] F (L) (fun v F' L' => (.int .i64 (ruleAtL ar rs t p) : Value) = v ∧ F = F' ∧ L = L') := by
 refine Does.of_X func108 rfl rfl rfl ?_
 have hnn := notNil_of_pos ht (by have := termOk_len ho; omega)
 have htl := termOk_len ho
 have hrl := (sysOk_iff.1 hsys).2.1
 have hsig := (sysOk_iff.1 hsys).1
 have hsl := sigOk_spec hsig
 have hso := sub_ok ho hp
 refine X.seq (X.region ?_)
 refine cX (XOp.box [arv, rsv] rfl rfl ?_)
 intro b1
 refine XL.as (.int .i64 (0)) rfl ?_
 refine XL.nil (X.seq (X.region ?_))
 refine cX (XOp.fieldP (b := b1) (0) runUnderlying29 rfl sizeOf26 (by decide) rfl rfl ?_)
 refine cX (XOp.loadN [arv] isAgg26 sizeOf26 rfl rfl (Rd.ownN [] rfl rfl) ?_)
 refine XL.mv (tv) rfl ?_
 refine XL.mv (.int .i64 ((p : Int))) rfl ?_
 refine cX (XOp.frzF <| XOp.call (args := [.agg #[arv], tv, .int .i64 (p : Int)]) call110 rfl (l1Sub_spec (p := p) har ht (ho := (by first | assumption | rfl | omega | simp)) (hp := (by first | assumption | rfl | omega | simp))) ?_)
 rintro v1 _ _ _ ⟨rfl, hs1, rfl⟩
 refine ⟨_, _, rfl, fun F1 le1 hz1 => ?_⟩
 replace har := har.mono le1
 replace hrs := hrs.mono le1
 have hf1 : IntsF F1 v1 ((sub ar t p)) := intsH.fz (xs := (sub ar t p)) hz1.fz
 refine XL.as (v1) rfl ?_
 refine XL.nil (X.seq (X.seq (X.region ?_)))
 refine XL.as (.int .i64 (0)) rfl ?_
 refine XL.nil (X.block ?_)
 refine X.loop (α := Nat) (fun r => [(3, ptr b1 0), (7, v1), (8, .int .i64 ((r : Int)))]) (fun r => cellsH b1 [arv, rsv] 29 :: L) (fun r F' => F1 = F' ∧ (r ≤ rs.length) ∧ (ruleAtL ar rs t p = ruleAtGo ar rs t p (rs.length - r) r)) (fun r => rs.length - r) 0 ⟨rfl, rfl, rfl, trivial⟩ (sC sR) ⟨rfl, (by (try dsimp only) <;> omega), (rfl)⟩ ?_
 rintro r rE _ _ ⟨rfl, hr, hm⟩
 show X _ _ _ _ (envs [(3, ptr b1 0), (7, v1), (8, .int .i64 ((r : Int)))] rE) _ (cellsH b1 [arv, rsv] 29 :: L)
 refine X.seq (X.seq (X.region ?_))
 refine XL.mv (.int .i64 ((r : Int))) rfl ?_
 refine cX (XOp.fieldP (b := b1) (1) runUnderlying29 rfl sizeOf27 (by decide) rfl rfl ?_)
 refine cX (XOp.load1 (v := rsv) isAgg27 rfl (Rd.own [] rfl rfl) ?_)
 refine cX (XOp.lenS (v := rsv) (n := (rs).length) runUnderlying27 rfl hrs.slv ?_)
 refine cX (XOp.lss (a := (r : Int)) (b := (rs.length : Int)) rfl rfl ?_)
 refine XL.nil ?_
 refine X.condD (p := (r : Int) < (rs.length : Int)) rfl (fun h1 => ?_) (fun h1 => ?_)
 ·refine X.skip (X.seq (X.block (X.seq ?_)))
  obtain ⟨a1, a2, ha1, ha2, hr1, hr2⟩ := hrs.rd (i := r) (by omega)
  refine X.drawG [cellsH b1 [arv, rsv] 29] L 15 [[], [], [], [], [], [], [], [], [], [], [9], [9], [], [], [9, 13]] [[], [0], [], [2], [], [3, 4], [5], [6], [], [1, 7, 8], [9], [9, 10], [9, 10], [], [9, 11, 13]] [[], [], [], [], [], [], [], [], [], [], [], [], [], [], [13]] (phiG [fun FF us v => v = ptr b1 0, fun FF us v => v = (.agg #[arv] : Value), fun FF us v => v = ptr b1 1, fun FF us v => v = rsv, fun FF us v => v = (.int .i64 ((r : Int)) : Value), fun FF us v => v = (.pointer (some (elemA rsv (r * 2))) : Value), fun FF us v => v = (.pointer (some (elemA rsv (r * 2))) : Value), fun FF us v => v = a1, fun FF us v => v = v1, fun FF us v => (.tuple #[.agg #[((aggAt (tupAt v 0) 0))], .bool ((matchB ar ((rs.getD r ([], [])).1) ((sub ar t p))).isSome)] : Value) = v ∧ (RowsF FF ((aggAt (tupAt v 0) 0)) (matchP ar ((rs.getD r ([], [])).1) ((sub ar t p)))), fun FF us v => v = (.tuple #[.agg #[((aggAt (tupAt (us.getD 0 undef) 0) 0))], .bool ((matchB ar ((rs.getD r ([], [])).1) ((sub ar t p))).isSome)] : Value), fun FF us v => v = (.agg #[((aggAt (tupAt (us.getD 0 undef) 0) 0))] : Value), fun FF us v => v = (.bool ((matchB ar ((rs.getD r ([], [])).1) ((sub ar t p))).isSome) : Value), fun FF us v => v = ptr (blk v) 0, fun FF us v => True]) (ownL [fun us v => [], fun us v => [], fun us v => [], fun us v => [], fun us v => [], fun us v => [], fun us v => [], fun us v => [], fun us v => [], fun us v => [], fun us v => [], fun us v => [], fun us v => [], fun us v => [cellsH (blk v) [(.slice none 0 0)] 76], fun us v => [cellsH (blk (us.getD 1 undef)) [((aggAt (tupAt (us.getD 0 undef) 0) 0))] 76]]) mixed rfl rfl (by kernel_rfl) (by kernel_rfl) (MonoG.get (mC (fun le h => h) (mC (fun le h => h) (mC (fun le h => h) (mC (fun le h => h) (mC (fun le h => h) (mC (fun le h => h) (mC (fun le h => h) (mC (fun le h => h) (mC (fun le h => h) (mC (fun le h => ⟨h.1, h.2.mono le⟩) (mC (fun le h => h) (mC (fun le h => h) (mC (fun le h => h) (mC (fun le h => h) (mC (fun le h => h) MonoG.nil)))))))))))))))) ?_ ?_
  ·refine gC (fun vals Fs R leFs hpZ => ?_) ?_
   ·refine XG.op (XOp.fieldP (b := b1) (0) runUnderlying29 rfl sizeOf26 (by decide) rfl rfl ?_)
    exact ⟨rfl, rfl⟩
   refine gC (fun vals Fs R leFs hpZ => ?_) ?_
   ·replace har := har.mono leFs
    replace hrs := hrs.mono leFs
    replace hf1 := hf1.mono leFs
    replace ha1 := ha1.mono leFs
    replace hr1 := Rd.monoA hr1 leFs
    rw [eS (l := [(0, ptr b1 0)]) ⟨(hpZ 0 (by decide)), trivial⟩]
    refine XG.op (XOp.loadN [arv] isAgg26 sizeOf26 rfl rfl (Rd.ownN [] rfl rfl) ?_)
    exact ⟨rfl, rfl⟩
   refine gC (fun vals Fs R leFs hpZ => ?_) ?_
   ·refine XG.op (XOp.fieldP (b := b1) (1) runUnderlying29 rfl sizeOf27 (by decide) rfl rfl ?_)
    exact ⟨rfl, rfl⟩
   refine gC (fun vals Fs R leFs hpZ => ?_) ?_
   ·replace har := har.mono leFs
    replace hrs := hrs.mono leFs
    replace hf1 := hf1.mono leFs
    replace ha1 := ha1.mono leFs
    replace hr1 := Rd.monoA hr1 leFs
    rw [eS (l := [(2, ptr b1 1)]) ⟨(hpZ 2 (by decide)), trivial⟩]
    refine XG.op (XOp.load1 (v := rsv) isAgg27 rfl (Rd.own [] rfl rfl) ?_)
    exact ⟨rfl, rfl⟩
   refine gC (fun vals Fs R leFs hpZ => ?_) ?_
   ·refine XG.op (XOp.move (.int .i64 ((r : Int))) rfl ?_)
    exact ⟨rfl, rfl⟩
   refine gC (fun vals Fs R leFs hpZ => ?_) ?_
   ·replace har := har.mono leFs
    replace hrs := hrs.mono leFs
    replace hf1 := hf1.mono leFs
    replace ha1 := ha1.mono leFs
    replace hr1 := Rd.monoA hr1 leFs
    rw [eS (l := [(3, rsv), (4, (.int .i64 ((r : Int)) : Value))]) ⟨(hpZ 3 (by decide)), (hpZ 4 (by decide)), trivial⟩]
    refine XG.op (XOp.indexS (v := rsv) (i := (r : Int)) (n := (rs).length) r runUnderlying27 sizeOf117 rfl rfl rfl hrs.slv (by omega) rfl ?_)
    exact ⟨rfl, rfl⟩
   refine gC (fun vals Fs R leFs hpZ => ?_) ?_
   ·rw [eS (l := [(5, (.pointer (some (elemA rsv (r * 2))) : Value))]) ⟨(hpZ 5 (by decide)), trivial⟩]
    refine XG.op (XOp.fieldE (v := rsv) (r * 2) runUnderlying117 rfl sizeOf24 (by decide) rfl rfl ?_)
    exact ⟨rfl, rfl⟩
   refine gC (fun vals Fs R leFs hpZ => ?_) ?_
   ·replace har := har.mono leFs
    replace hf1 := hf1.mono leFs
    replace ha1 := ha1.mono leFs
    replace hr1 := Rd.monoA hr1 leFs
    rw [eS (l := [(6, (.pointer (some (elemA rsv (r * 2))) : Value))]) ⟨(hpZ 6 (by decide)), trivial⟩]
    refine XG.op (XOp.load1 (v := a1) isAgg24 rfl (hr1 _) ?_)
    exact ⟨rfl, rfl⟩
   refine gC (fun vals Fs R leFs hpZ => ?_) ?_
   ·refine XG.op (XOp.move (v1) rfl ?_)
    exact ⟨rfl, rfl⟩
   refine gC (fun vals Fs R leFs hpZ => ?_) ?_
   ·replace har := har.mono leFs
    replace hf1 := hf1.mono leFs
    replace ha1 := ha1.mono leFs
    rw [eS (l := [(1, (.agg #[arv] : Value)), (7, a1), (8, v1)]) ⟨(hpZ 1 (by decide)), (hpZ 7 (by decide)), (hpZ 8 (by decide)), trivial⟩]
    refine XG.op (XOp.call (args := [.agg #[arv], a1, v1]) call109 rfl (l4Match_spec har ha1 hf1 (ho := (by first | assumption | rfl | omega | simp)) (hpo := ((ruleOk_iff.1 ((sysOk_iff.1 hsys).2.2 r (by omega))).left))) ?_)
    rintro _ F3 _ le3 ⟨x2, rfl, hr4, rfl⟩
    replace har := har.mono le3
    exact ⟨⟨rfl, hr4⟩, rfl⟩
   refine gC (fun vals Fs R leFs hpZ => ?_) ?_
   ·obtain ⟨e9, f9_1hr⟩ := hpZ 9 (by decide)
    rw [eS (l := [(9, (.tuple #[.agg #[((aggAt (tupAt (vals 9) 0) 0))], .bool ((matchB ar ((rs.getD r ([], [])).1) ((sub ar t p))).isSome)] : Value))]) ⟨(e9).symm, trivial⟩]
    refine XG.op (XOp.move (.tuple #[.agg #[((aggAt (tupAt (vals 9) 0) 0))], .bool ((matchB ar ((rs.getD r ([], [])).1) ((sub ar t p))).isSome)]) rfl ?_)
    exact ⟨rfl, rfl⟩
   refine gC (fun vals Fs R leFs hpZ => ?_) ?_
   ·obtain ⟨e9, f9_1hr⟩ := hpZ 9 (by decide)
    have e10 : vals 10 = (.tuple #[.agg #[((aggAt (tupAt (vals 9) 0) 0))], .bool ((matchB ar ((rs.getD r ([], [])).1) ((sub ar t p))).isSome)] : Value) := hpZ 10 (by decide)
    rw [eS (l := [(9, (.tuple #[.agg #[((aggAt (tupAt (vals 9) 0) 0))], .bool ((matchB ar ((rs.getD r ([], [])).1) ((sub ar t p))).isSome)] : Value)), (10, (.tuple #[.agg #[((aggAt (tupAt (vals 9) 0) 0))], .bool ((matchB ar ((rs.getD r ([], [])).1) ((sub ar t p))).isSome)] : Value))]) ⟨(e9).symm, e10, trivial⟩]
    refine XG.op (XOp.extract (.agg #[((aggAt (tupAt (vals 9) 0) 0))]) rfl rfl ?_)
    exact ⟨rfl, rfl⟩
   refine gC (fun vals Fs R leFs hpZ => ?_) ?_
   ·obtain ⟨e9, f9_1hr⟩ := hpZ 9 (by decide)
    have e10 : vals 10 = (.tuple #[.agg #[((aggAt (tupAt (vals 9) 0) 0))], .bool ((matchB ar ((rs.getD r ([], [])).1) ((sub ar t p))).isSome)] : Value) := hpZ 10 (by decide)
    rw [eS (l := [(9, (.tuple #[.agg #[((aggAt (tupAt (vals 9) 0) 0))], .bool ((matchB ar ((rs.getD r ([], [])).1) ((sub ar t p))).isSome)] : Value)), (10, (.tuple #[.agg #[((aggAt (tupAt (vals 9) 0) 0))], .bool ((matchB ar ((rs.getD r ([], [])).1) ((sub ar t p))).isSome)] : Value))]) ⟨(e9).symm, e10, trivial⟩]
    refine XG.op (XOp.extract (.bool ((matchB ar ((rs.getD r ([], [])).1) ((sub ar t p))).isSome)) rfl rfl ?_)
    exact ⟨rfl, rfl⟩
   refine gC (fun vals Fs R leFs hpZ => ?_) ?_
   ·replace har := har.mono leFs
    refine XG.op (XOp.alloc [(.slice none 0 0)] zeroValue76 rfl ?_)
    intro b3
    exact ⟨rfl, rfl⟩
   refine gC (fun vals Fs R leFs hpZ => ?_) ?_
   ·obtain ⟨e9, f9_1hr⟩ := hpZ 9 (by decide)
    have e11 : vals 11 = (.agg #[((aggAt (tupAt (vals 9) 0) 0))] : Value) := hpZ 11 (by decide)
    have e13 : vals 13 = ptr (blk (vals 13)) 0 := hpZ 13 (by decide)
    rw [eS (l := [(9, (.tuple #[.agg #[((aggAt (tupAt (vals 9) 0) 0))], .bool ((matchB ar ((rs.getD r ([], [])).1) ((sub ar t p))).isSome)] : Value)), (11, (.agg #[((aggAt (tupAt (vals 9) 0) 0))] : Value)), (13, ptr (blk (vals 13)) 0)]) ⟨(e9).symm, e11, e13, trivial⟩]
    show XG _ _ _ _ _ (cellsH (blk (vals 13)) [(.slice none 0 0)] 76 :: ([cellsH b1 [arv, rsv] 29] ++ R)) _
    refine XG.op (XOp.storeN (vs := [((aggAt (tupAt (vals 9) 0) 0))]) [] _ [((aggAt (tupAt (vals 9) 0) 0))] sizeOf76 rfl rfl rfl (ones_cons (one_sl (RowsF.isSl f9_1hr)) ones_nil) rfl rfl rfl ?_)
    exact ⟨trivial, rfl⟩
   exact stepsG.nil
  intro vals F4 le4 hphi
  obtain ⟨e9, f9_1hr⟩ := hphi 9 (by decide)
  have e10 : vals 10 = (.tuple #[.agg #[((aggAt (tupAt (vals 9) 0) 0))], .bool ((matchB ar ((rs.getD r ([], [])).1) ((sub ar t p))).isSome)] : Value) := hphi 10 (by decide)
  have e11 : vals 11 = (.agg #[((aggAt (tupAt (vals 9) 0) 0))] : Value) := hphi 11 (by decide)
  have e13 : vals 13 = ptr (blk (vals 13)) 0 := hphi 13 (by decide)
  generalize hu1 : ((aggAt (tupAt (vals 9) 0) 0)) = u1 at e9 f9_1hr e10 e11 e13
  generalize hu2 : blk (vals 13) = b4 at e9 f9_1hr e10 e11 e13
  rw [eS (l := [(9, (.tuple #[.agg #[u1], .bool ((matchB ar ((rs.getD r ([], [])).1) ((sub ar t p))).isSome)] : Value)), (12, (.bool ((matchB ar ((rs.getD r ([], [])).1) ((sub ar t p))).isSome) : Value)), (13, ptr b4 0)]) ⟨(e9).symm, (hphi 12 (by decide)), e13, trivial⟩]
  show XL _ _ _ _ _ _ _ (cellsH b4 [u1] 76 :: cellsH b1 [arv, rsv] 29 :: L)
  refine XL.as (.bool ((matchB ar ((rs.getD r ([], [])).1) ((sub ar t p))).isSome)) rfl ?_
  refine XL.nil (X.seq (X.region ?_))
  refine XL.mv (.bool ((matchB ar ((rs.getD r ([], [])).1) ((sub ar t p))).isSome)) rfl ?_
  refine XL.nil ?_
  refine X.cond (t := (matchB ar ((rs.getD r ([], [])).1) ((sub ar t p))).isSome) rfl (fun h2 => ?_) (fun h2 => ?_)
  ·refine X.seq (X.region ?_)
   refine XL.mv (.int .i64 ((r : Int))) rfl ?_
   refine XL.as (.int .i64 ((r : Int))) rfl ?_
   refine XL.nil ?_
   refine X.ret (blockQ_ret (thenQ_ret (thenQ_ret (blockQ_ret (thenQ_ret (retEnd (L' := L) [.int .i64 ((r : Int))] (.int .i64 ((r : Int))) (.tmp rfl .nil) rfl rF (FLe.trans le1 le4) (sD (sD sR)) ?_))))))
   exact ⟨(vI (hm.trans (ruleAt_hit (by omega) (by unfold isRedex; assumption)))), rfl, rfl⟩
  refine X.skip (X.region ?_)
  refine XL.mv (.int .i64 ((r : Int))) rfl ?_
  refine cX (XOp.addR (a := (r : Int)) (b := 1) (((r + 1 : Nat) : Int)) rfl rfl (by omega) (by omega) ?_)
  refine XL.as (.int .i64 (((r + 1 : Nat) : Int))) rfl ?_
  refine XL.nil ?_
  exact ⟨r + 1, _, FLe.refl _, le4, ⟨rfl, rfl, rfl, trivial⟩, (sD (sC sR)), ⟨rfl, (by (try dsimp only) <;> omega), (hm.trans (ruleAt_miss (by omega) (by unfold isRedex; assumption)))⟩, (by omega)⟩
 refine X.exit (thenQ_exit (thenQ_exit (blockQ_exit ?_)))
 refine X.seq (X.region ?_)
 refine XL.as (.int .i64 (-1)) rfl ?_
 refine XL.nil ?_
 refine X.ret (retEnd (L' := L) [.int .i64 (-1)] (.int .i64 (-1)) (.tmp rfl .nil) rfl rF le1 (sD sR) ?_)
 exact ⟨(vI (hm.trans (ruleAt_end (by omega)))), rfl, rfl⟩

/- spec.RedexesIn -/
theorem sRedexesIn_spec {F : FH} {L : List HP} {arv : Value} {ar : List Int} (har : IntsF F arv ar) {rsv : Value} {rs : List (List Int × List Int)} (hrs : PairsF F rsv rs) {tv : Value} {t : List Int} (ht : IntsF F tv t) (hla : ar.length ≤ 4000000) (hlr : rs.length ≤ 4000000) (hrb : ∀ i, i < rs.length → (rs.getD i ([], [])).1.length ≤ 4000000 ∧ (rs.getD i ([], [])).2.length ≤ 4000000) (hlt : t.length ≤ 4000000) :
    Does prog 167 [.agg #[arv, rsv], tv] F (L) (fun v F' L' => F = F' ∧ IsSl v ∧ intsH 2 v (redS ar rs t) :: L = L') := by
 refine Does.of_X func167 rfl rfl rfl ?_
 refine X.seq (X.region ?_)
 refine cX (XOp.box [arv, rsv] rfl rfl ?_)
 intro b1
 refine XL.as ((.slice none 0 0)) rfl ?_
 refine XL.nil (X.seq (X.region ?_))
 refine cX (XOp.buildSlice (s := 1) [] [.int .i64 (0)] [] runUnderlying24 sizeOf2 zeroValue2 rfl (by decide) rfl CellsAre.nil rfl ?_)
 intro v1 hv1
 refine XL.as (v1) rfl ?_
 refine XL.nil (X.seq (X.seq (X.region ?_)))
 refine XL.as (.int .i64 (0)) rfl ?_
 refine XL.nil (X.block ?_)
 refine X.loop (α := Nat × Value × List Int) (fun xQ => [(1, tv), (2, ptr b1 0), (5, xQ.2.1), (6, .int .i64 (((xQ.1 : Nat) : Int)))]) (fun xQ => intsH 2 xQ.2.1 xQ.2.2 :: cellsH b1 [arv, rsv] 29 :: L) (fun xQ F' => F = F' ∧ (IsSl xQ.2.1) ∧ (xQ.1 ≤ t.length) ∧ (xQ.2.2 = if rightB ar rs t = true then redTo ar rs t xQ.1 else [])) (fun xQ => t.length - xQ.1) (0, v1, []) ⟨rfl, rfl, rfl, rfl, trivial⟩ (sC (sC sR)) ⟨rfl, ((isSl_lit hv1)), (by (try dsimp only) <;> omega), (by dsimp only; split <;> rfl)⟩ ?_
 rintro ⟨k, ov, os⟩ rE _ _ ⟨rfl, hov, hk, hos⟩
 show X _ _ _ _ (envs [(1, tv), (2, ptr b1 0), (5, ov), (6, .int .i64 ((k : Int)))] rE) _ (intsH 2 ov os :: cellsH b1 [arv, rsv] 29 :: L)
 dsimp only at hov hk hos
 have hol : os.length ≤ k := by rw [hos]; split; exact redTo_len; simp
 refine X.seq (X.seq (X.region ?_))
 refine XL.mv (.int .i64 ((k : Int))) rfl ?_
 refine XL.mv (tv) rfl ?_
 refine cX (XOp.lenS (v := tv) (n := (t).length) runUnderlying24 rfl ht.slv ?_)
 refine cX (XOp.lss (a := (k : Int)) (b := (t.length : Int)) rfl rfl ?_)
 refine XL.mv (.bool (decide ((k : Int) < (t.length : Int)))) rfl ?_
 by_cases h1 : (k : Int) < (t.length : Int)
 ·refine XL.yes (t := 12) rfl (vT h1) (XOp.loadN [arv, rsv] isAgg29 sizeOf29 rfl rfl (Rd.ownN [_] rfl rfl) ?_)
  refine XL.yes (t := 12) rfl (vT h1) (XOp.move (tv) rfl ?_)
  refine XL.yes (t := 12) rfl (vT h1) (XOp.call (args := [.agg #[arv, rsv], tv]) call76 rfl (l7Right_spec har hrs ht (hla := (by first | assumption | rfl | omega | simp)) (hlr := (by first | assumption | rfl | omega | simp)) (hrb := (by first | assumption | rfl | omega | simp)) (hlt := (by first | assumption | rfl | omega | simp))) ?_)
  rintro _ _ _ _ ⟨rfl, rfl, rfl⟩
  refine cX (XOp.pickT (.bool (rightB ar rs t)) (vT h1) rfl ?_)
  refine XL.nil ?_
  refine X.cond (t := rightB ar rs t) rfl (fun h2 => ?_) (fun h2 => ?_)
  ·have hsys := (right_iff.1 h2).1
   have ho := (right_iff.1 h2).2
   refine X.skip (X.seq (X.block (X.seq (X.region ?_))))
   refine cX (XOp.loadN [arv, rsv] isAgg29 sizeOf29 rfl rfl (Rd.ownN [_] rfl rfl) ?_)
   refine XL.mv (tv) rfl ?_
   refine XL.mv (.int .i64 ((k : Int))) rfl ?_
   refine cX (XOp.call (args := [.agg #[arv, rsv], tv, .int .i64 (k : Int)]) call108 rfl (l8Redex_spec (p := k) har hrs ht (hsys := (by first | assumption | rfl | omega | simp)) (ho := (by first | assumption | rfl | omega | simp)) (hp := (by first | assumption | rfl | omega | simp))) ?_)
   rintro _ _ _ _ ⟨rfl, rfl, rfl⟩
   refine cX (XOp.geq (a := ruleAtL ar rs t k) (b := 0) rfl rfl ?_)
   refine XL.nil ?_
   refine X.condD (p := (ruleAtL ar rs t k : Int) ≥ 0) rfl (fun h3 => ?_) (fun h3 => ?_)
   ·refine X.region ?_
    refine XL.mv (ov) rfl ?_
    refine XL.mv (.int .i64 ((k : Int))) rfl ?_
    refine cX (XOp.buildSlice (s := 1) [.int .i64 ((k : Int))] [.int .i64 (0)] [(0, [.int .i64 ((k : Int))])] runUnderlying24 sizeOf2 zeroValue2 rfl (by decide) rfl (.cons rfl CellsAre.nil) rfl ?_)
    intro v2 hv2
    refine cX (XOp.append1 (u := (k : Int)) [_] _ runUnderlying24 typeInfo2 rfl rfl rfl rfl rfl rfl (SlV.own [] rfl) (Rd.sl [] rfl rfl) (by (try simp only [List.length_append, List.length_nil, List.length_cons, List.length_singleton, List.length_take, List.length_drop]); omega) ?_)
    intro v3 hs1 hn1
    refine XL.as (v3) rfl ?_
    refine XL.nil (X.region ?_)
    refine XL.mv (.int .i64 ((k : Int))) rfl ?_
    refine cX (XOp.addR (a := (k : Int)) (b := 1) (((k + 1 : Nat) : Int)) rfl rfl (by omega) (by omega) ?_)
    refine XL.as (.int .i64 (((k + 1 : Nat) : Int))) rfl ?_
    refine XL.nil ?_
    exact ⟨(k + 1, v3, os ++ [(k : Int)]), _, FLe.refl _, rF, ⟨rfl, rfl, rfl, rfl, trivial⟩, (sD (sC (sC sR))), ⟨rfl, (hs1), (by (try dsimp only) <;> omega), ((by dsimp only; rw [hos, if_pos (by assumption), if_pos (by assumption)]; first | exact (redTo_yes (by omega)).symm | exact (redTo_no (by omega)).symm))⟩, (by omega)⟩
   refine X.skip (X.region ?_)
   refine XL.mv (.int .i64 ((k : Int))) rfl ?_
   refine cX (XOp.addR (a := (k : Int)) (b := 1) (((k + 1 : Nat) : Int)) rfl rfl (by omega) (by omega) ?_)
   refine XL.as (.int .i64 (((k + 1 : Nat) : Int))) rfl ?_
   refine XL.nil ?_
   exact ⟨(k + 1, ov, os), _, FLe.refl _, rF, ⟨rfl, rfl, rfl, rfl, trivial⟩, (sC (sC sR)), ⟨rfl, (hov), (by (try dsimp only) <;> omega), ((by dsimp only; rw [hos, if_pos (by assumption), if_pos (by assumption)]; first | exact (redTo_yes (by omega)).symm | exact (redTo_no (by omega)).symm))⟩, (by omega)⟩
  refine X.exit (thenQ_exit (thenQ_exit (blockQ_exit ?_)))
  refine X.seq (X.region ?_)
  refine XL.mv (ov) rfl ?_
  refine XL.as (ov) rfl ?_
  refine XL.nil ?_
  refine X.ret (retEnd (L' := intsH 2 ov os :: L) [ov] (ov) (.tmp rfl .nil) rfl rF rF (sC (sD sR)) ?_)
  refine ⟨rfl, hov, ?_⟩
  have hxs : (redS ar rs t : List Int) = os := by rw [hos, redS]; split <;> first | rfl | (rw [redL, show k = t.length from by omega]) | simp_all
  exact congrArg (fun z => intsH 2 _ z :: L) hxs
 refine XL.no (t := 12) rfl (vF h1) ?_
 refine XL.no (t := 12) rfl (vF h1) ?_
 refine XL.no (t := 12) rfl (vF h1) ?_
 refine cX (XOp.pickF (.bool (false)) (vF h1) rfl ?_)
 refine XL.nil ?_
 refine X.condF rfl ?_
 refine X.exit (thenQ_exit (thenQ_exit (blockQ_exit ?_)))
 refine X.seq (X.region ?_)
 refine XL.mv (ov) rfl ?_
 refine XL.as (ov) rfl ?_
 refine XL.nil ?_
 refine X.ret (retEnd (L' := intsH 2 ov os :: L) [ov] (ov) (.tmp rfl .nil) rfl rF rF (sC (sD sR)) ?_)
 refine ⟨rfl, hov, ?_⟩
 have hxs : (redS ar rs t : List Int) = os := by rw [hos, redS]; split <;> first | rfl | (rw [redL, show k = t.length from by omega]) | simp_all
 exact congrArg (fun z => intsH 2 _ z :: L) hxs

/- spec.InmostIn -/
theorem sInmostIn_spec {F : FH} {L : List HP} {arv : Value} {ar : List Int} (har : IntsF F arv ar) {rsv : Value} {rs : List (List Int × List Int)} (hrs : PairsF F rsv rs) {tv : Value} {t : List Int} (ht : IntsF F tv t) (hla : ar.length ≤ 4000000) (hlr : rs.length ≤ 4000000) (hrb : ∀ i, i < rs.length → (rs.getD i ([], [])).1.length ≤ 4000000 ∧ (rs.getD i ([], [])).2.length ≤ 4000000) (hlt : t.length ≤ 4000000) :
    Does prog 166 [.agg #[arv, rsv], tv] F (L) (fun v F' L' => F = F' ∧ IsSl v ∧ intsH 2 v (inS ar rs t) :: L = L') := by
 refine Does.of_X func166 rfl rfl rfl ?_
 have hrS := redS_len (ar := ar) (rs := rs) hlt
 refine X.seq (X.region ?_)
 refine cX (XOp.box [arv, rsv] rfl rfl ?_)
 intro b1
 refine XL.as ((.slice none 0 0)) rfl ?_
 refine XL.nil (X.seq (X.region ?_))
 refine cX (XOp.buildSlice (s := 1) [] [.int .i64 (0)] [] runUnderlying24 sizeOf2 zeroValue2 rfl (by decide) rfl CellsAre.nil rfl ?_)
 intro v1 hv1
 refine XL.as (v1) rfl ?_
 refine XL.nil (X.seq (X.region ?_))
 refine cX (XOp.loadN [arv, rsv] isAgg29 sizeOf29 rfl rfl (Rd.ownN [_] rfl rfl) ?_)
 refine XL.mv (tv) rfl ?_
 refine cX (XOp.frzF <| XOp.call (args := [.agg #[arv, rsv], tv]) call167 rfl (sRedexesIn_spec har hrs ht (hla := (by first | assumption | rfl | omega | simp)) (hlr := (by first | assumption | rfl | omega | simp)) (hrb := (by first | assumption | rfl | omega | simp)) (hlt := (by first | assumption | rfl | omega | simp))) ?_)
 rintro v2 _ _ _ ⟨rfl, hs1, rfl⟩
 refine ⟨_, _, rfl, fun F1 le1 hz1 => ?_⟩
 replace har := har.mono le1
 replace ht := ht.mono le1
 have hf1 : IntsF F1 v2 ((redS ar rs t)) := intsH.fz (xs := (redS ar rs t)) hz1.fz
 refine XL.as (v2) rfl ?_
 refine XL.nil (X.seq (X.seq (X.region ?_)))
 refine XL.as (.int .i64 (0)) rfl ?_
 refine XL.nil (X.block ?_)
 refine X.loop (α := Nat × Value × List Int) (fun xQ => [(1, tv), (2, ptr b1 0), (5, xQ.2.1), (6, v2), (7, .int .i64 (((xQ.1 : Nat) : Int)))]) (fun xQ => intsH 2 xQ.2.1 xQ.2.2 :: cellsH b1 [arv, rsv] 29 :: L) (fun xQ F' => F1 = F' ∧ (IsSl xQ.2.1) ∧ (xQ.1 ≤ (redS ar rs t).length) ∧ (xQ.2.2 = inTo ar t (redS ar rs t) xQ.1)) (fun xQ => (redS ar rs t).length - xQ.1) (0, v1, []) ⟨rfl, rfl, rfl, rfl, rfl, trivial⟩ (sC (sC sR)) ⟨rfl, ((isSl_lit hv1)), (by (try dsimp only) <;> omega), (rfl)⟩ ?_
 rintro ⟨k, ov, os⟩ rE _ _ ⟨rfl, hov, hk, hos⟩
 show X _ _ _ _ (envs [(1, tv), (2, ptr b1 0), (5, ov), (6, v2), (7, .int .i64 ((k : Int)))] rE) _ (intsH 2 ov os :: cellsH b1 [arv, rsv] 29 :: L)
 dsimp only at hov hk hos
 have hrf := fun (h : k < (redS ar rs t).length) => redS_facts h
 have hrS := redS_len (ar := ar) (rs := rs) hlt
 have hol : os.length ≤ k := by rw [hos]; exact inTo_len
 refine X.seq (X.seq (X.region ?_))
 refine XL.mv (.int .i64 ((k : Int))) rfl ?_
 refine XL.mv (v2) rfl ?_
 refine cX (XOp.lenS (v := v2) (n := ((redS ar rs t)).length) runUnderlying24 rfl hf1.slv ?_)
 refine cX (XOp.lss (a := (k : Int)) (b := ((((redS ar rs t)).length : Nat) : Int)) rfl rfl ?_)
 refine XL.nil ?_
 refine X.condD (p := (k : Int) < ((((redS ar rs t)).length : Nat) : Int)) rfl (fun h1 => ?_) (fun h1 => ?_)
 ·obtain ⟨hsys, ho, q, hq1, hq2, hq3⟩ := hrf (by omega)
  have htl := termOk_len ho
  have hle := endN_spec ho hq2
  refine X.skip (X.seq (X.block (X.seq ?_)))
  refine X.draw [intsH 2 ov os, cellsH b1 [arv, rsv] 29] L 7 [[], [], [], [], [], [], []] [[], [0], [], [], [], [3, 4], [5]] (phiL [fun us v => v = ptr b1 0, fun us v => v = (.agg #[arv] : Value), fun us v => v = tv, fun us v => v = v2, fun us v => v = (.int .i64 ((k : Int)) : Value), fun us v => v = (.pointer (some (elemA v2 (k))) : Value), fun us v => v = (.int .i64 (((redS ar rs t)).getD k 0) : Value)]) (ownL [fun us v => [], fun us v => [], fun us v => [], fun us v => [], fun us v => [], fun us v => [], fun us v => []]) mixed rfl rfl (by kernel_rfl) ?_ ?_
  ·refine pC (fun vals R hpZ => ?_) ?_
   ·refine XG.op (XOp.fieldP (b := b1) (0) runUnderlying29 rfl sizeOf26 (by decide) rfl rfl ?_)
    exact ⟨rfl, rfl, rfl⟩
   refine pC (fun vals R hpZ => ?_) ?_
   ·rw [eS (l := [(0, ptr b1 0)]) ⟨hpZ 0 (by decide), trivial⟩]
    refine XG.op (XOp.loadN [arv] isAgg26 sizeOf26 rfl rfl (Rd.ownN [_] rfl rfl) ?_)
    exact ⟨rfl, rfl, rfl⟩
   refine pC (fun vals R hpZ => ?_) ?_
   ·refine XG.op (XOp.move (tv) rfl ?_)
    exact ⟨rfl, rfl, rfl⟩
   refine pC (fun vals R hpZ => ?_) ?_
   ·refine XG.op (XOp.move (v2) rfl ?_)
    exact ⟨rfl, rfl, rfl⟩
   refine pC (fun vals R hpZ => ?_) ?_
   ·refine XG.op (XOp.move (.int .i64 ((k : Int))) rfl ?_)
    exact ⟨rfl, rfl, rfl⟩
   refine pC (fun vals R hpZ => ?_) ?_
   ·rw [eS (l := [(3, v2), (4, (.int .i64 ((k : Int)) : Value))]) ⟨hpZ 3 (by decide), hpZ 4 (by decide), trivial⟩]
    refine XG.op (XOp.indexS (v := v2) (i := (k : Int)) (n := ((redS ar rs t)).length) k runUnderlying24 sizeOf2 rfl rfl rfl hf1.slv (by omega) (Nat.mul_one _) ?_)
    exact ⟨rfl, rfl, rfl⟩
   refine pC (fun vals R hpZ => ?_) ?_
   ·rw [eS (l := [(5, (.pointer (some (elemA v2 (k))) : Value))]) ⟨hpZ 5 (by decide), trivial⟩]
    refine XG.op (XOp.load1 (v := .int .i64 (((redS ar rs t)).getD k 0)) isAgg2 rfl (hf1.rd (by omega)) ?_)
    exact ⟨rfl, rfl, rfl⟩
   exact stepsP.nil
  intro vals hphi
  rw [eS (l := [(1, (.agg #[arv] : Value)), (2, tv), (6, (.int .i64 (((redS ar rs t)).getD k 0) : Value))]) ⟨(hphi 1 (by decide)), (hphi 2 (by decide)), (hphi 6 (by decide)), trivial⟩]
  show XL _ _ _ _ _ _ _ (intsH 2 ov os :: cellsH b1 [arv, rsv] 29 :: L)
  refine cX (XOp.call (args := [.agg #[arv], tv, .int .i64 (((((redS ar rs t)).getD k 0).toNat : Nat) : Int)]) call143 (by rw [show (((((redS ar rs t)).getD k 0).toNat : Nat) : Int) = ((redS ar rs t)).getD k 0 from by omega]; rfl) (l1End_ok (p := (((redS ar rs t)).getD k 0).toNat) har ht (ho := (by first | assumption | rfl | omega | (left; simp; done) | (right; simp; done))) (hp := (by first | assumption | rfl | omega | (left; simp; done) | (right; simp; done)))) ?_)
  rintro _ _ _ _ ⟨rfl, rfl, rfl⟩
  refine XL.as (.int .i64 (((endN ar t ((((redS ar rs t)).getD k 0).toNat) : Nat) : Int))) rfl ?_
  refine XL.nil (X.seq (X.region ?_))
  refine XL.mv (.int .i64 ((k : Int))) rfl ?_
  refine cX (XOp.addR (a := (k : Int)) (b := 1) (((k + 1 : Nat) : Int)) rfl rfl (by omega) (by omega) ?_)
  refine XL.mv (v2) rfl ?_
  refine cX (XOp.lenS (v := v2) (n := ((redS ar rs t)).length) runUnderlying24 rfl hf1.slv ?_)
  refine cX (XOp.eql (a := ((k + 1 : Nat) : Int)) (b := ((((redS ar rs t)).length : Nat) : Int)) rfl rfl ?_)
  refine XL.mv (.bool (decide ((((k + 1 : Nat) : Int) : Int) = ((((redS ar rs t)).length : Nat) : Int)))) rfl ?_
  by_cases h2 : (((k + 1 : Nat) : Int) : Int) = ((((redS ar rs t)).length : Nat) : Int)
  ·refine XL.no (t := 32) rfl (vT h2) ?_
   refine XL.no (t := 32) rfl (vT h2) ?_
   refine XL.no (t := 32) rfl (vT h2) ?_
   refine XL.no (t := 32) rfl (vT h2) ?_
   refine XL.no (t := 32) rfl (vT h2) ?_
   refine XL.no (t := 32) rfl (vT h2) ?_
   refine XL.no (t := 32) rfl (vT h2) ?_
   refine cX (XOp.pickT (.bool (true)) (vT h2) rfl ?_)
   refine XL.nil ?_
   refine X.condT rfl ?_
   refine X.region ?_
   refine XL.mv (ov) rfl ?_
   refine XL.mv (v2) rfl ?_
   refine XL.mv (.int .i64 ((k : Int))) rfl ?_
   refine cX (XOp.indexS (v := v2) (i := (k : Int)) (n := ((redS ar rs t)).length) k runUnderlying24 sizeOf2 rfl rfl rfl hf1.slv (by omega) (Nat.mul_one _) ?_)
   refine cX (XOp.load1 (v := .int .i64 (((redS ar rs t)).getD k 0)) isAgg2 rfl (hf1.rd (by omega)) ?_)
   refine cX (XOp.buildSlice (s := 1) [.int .i64 (((redS ar rs t)).getD k 0)] [.int .i64 (0)] [(0, [.int .i64 (((redS ar rs t)).getD k 0)])] runUnderlying24 sizeOf2 zeroValue2 rfl (by decide) rfl (.cons rfl CellsAre.nil) rfl ?_)
   intro v3 hv2
   refine cX (XOp.append1 (u := ((redS ar rs t)).getD k 0) [_] _ runUnderlying24 typeInfo2 rfl rfl rfl rfl rfl rfl (SlV.own [] rfl) (Rd.sl [] rfl rfl) (by (try simp only [List.length_append, List.length_nil, List.length_cons, List.length_singleton, List.length_take, List.length_drop]); omega) ?_)
   intro v4 hs2 hn1
   refine XL.as (v4) rfl ?_
   refine XL.nil (X.region ?_)
   refine XL.mv (.int .i64 ((k : Int))) rfl ?_
   refine cX (XOp.addR (a := (k : Int)) (b := 1) (((k + 1 : Nat) : Int)) rfl rfl (by omega) (by omega) ?_)
   refine XL.as (.int .i64 (((k + 1 : Nat) : Int))) rfl ?_
   refine XL.nil ?_
   exact ⟨(k + 1, v4, os ++ [((redS ar rs t)).getD k 0]), _, FLe.refl _, rF, ⟨rfl, rfl, rfl, rfl, rfl, trivial⟩, (sD (sC (sC sR))), ⟨rfl, (hs2), (by (try dsimp only) <;> omega), ((by dsimp only; rw [hos]; first | exact (inTo_yes (by simp only [inOk, decide_eq_true_eq]; omega)).symm | exact (inTo_no (by simp only [inOk, decide_eq_false_iff_not]; omega)).symm))⟩, (by omega)⟩
  refine XL.yes (t := 32) rfl (vF h2) (XOp.move (v2) rfl ?_)
  refine XL.yes (t := 32) rfl (vF h2) (XOp.move (.int .i64 ((k : Int))) rfl ?_)
  refine XL.yes (t := 32) rfl (vF h2) (XOp.addR (a := (k : Int)) (b := 1) (((k + 1 : Nat) : Int)) rfl rfl (by omega) (by omega) ?_)
  refine XL.yes (t := 32) rfl (vF h2) (XOp.indexS (v := v2) (i := ((k + 1 : Nat) : Int)) (n := ((redS ar rs t)).length) (k + 1) runUnderlying24 sizeOf2 rfl rfl rfl hf1.slv (by omega) (Nat.mul_one _) ?_)
  refine XL.yes (t := 32) rfl (vF h2) (XOp.load1 (v := .int .i64 (((redS ar rs t)).getD (k + 1) 0)) isAgg2 rfl (hf1.rd (by omega)) ?_)
  refine XL.yes (t := 32) rfl (vF h2) (XOp.move (.int .i64 (((endN ar t ((((redS ar rs t)).getD k 0).toNat) : Nat) : Int))) rfl ?_)
  refine XL.yes (t := 32) rfl (vF h2) (XOp.geq (a := ((redS ar rs t)).getD (k + 1) 0) (b := ((endN ar t ((((redS ar rs t)).getD k 0).toNat) : Nat) : Int)) rfl rfl ?_)
  refine cX (XOp.pickF (.bool (decide ((((redS ar rs t)).getD (k + 1) 0 : Int) ≥ ((endN ar t ((((redS ar rs t)).getD k 0).toNat) : Nat) : Int)))) (vF h2) rfl ?_)
  refine XL.nil ?_
  refine X.condD (p := (((redS ar rs t)).getD (k + 1) 0 : Int) ≥ ((endN ar t ((((redS ar rs t)).getD k 0).toNat) : Nat) : Int)) rfl (fun h3 => ?_) (fun h3 => ?_)
  ·refine X.region ?_
   refine XL.mv (ov) rfl ?_
   refine XL.mv (v2) rfl ?_
   refine XL.mv (.int .i64 ((k : Int))) rfl ?_
   refine cX (XOp.indexS (v := v2) (i := (k : Int)) (n := ((redS ar rs t)).length) k runUnderlying24 sizeOf2 rfl rfl rfl hf1.slv (by omega) (Nat.mul_one _) ?_)
   refine cX (XOp.load1 (v := .int .i64 (((redS ar rs t)).getD k 0)) isAgg2 rfl (hf1.rd (by omega)) ?_)
   refine cX (XOp.buildSlice (s := 1) [.int .i64 (((redS ar rs t)).getD k 0)] [.int .i64 (0)] [(0, [.int .i64 (((redS ar rs t)).getD k 0)])] runUnderlying24 sizeOf2 zeroValue2 rfl (by decide) rfl (.cons rfl CellsAre.nil) rfl ?_)
   intro v5 hv3
   refine cX (XOp.append1 (u := ((redS ar rs t)).getD k 0) [_] _ runUnderlying24 typeInfo2 rfl rfl rfl rfl rfl rfl (SlV.own [] rfl) (Rd.sl [] rfl rfl) (by (try simp only [List.length_append, List.length_nil, List.length_cons, List.length_singleton, List.length_take, List.length_drop]); omega) ?_)
   intro v6 hs3 hn2
   refine XL.as (v6) rfl ?_
   refine XL.nil (X.region ?_)
   refine XL.mv (.int .i64 ((k : Int))) rfl ?_
   refine cX (XOp.addR (a := (k : Int)) (b := 1) (((k + 1 : Nat) : Int)) rfl rfl (by omega) (by omega) ?_)
   refine XL.as (.int .i64 (((k + 1 : Nat) : Int))) rfl ?_
   refine XL.nil ?_
   exact ⟨(k + 1, v6, os ++ [((redS ar rs t)).getD k 0]), _, FLe.refl _, rF, ⟨rfl, rfl, rfl, rfl, rfl, trivial⟩, (sD (sC (sC sR))), ⟨rfl, (hs3), (by (try dsimp only) <;> omega), ((by dsimp only; rw [hos]; first | exact (inTo_yes (by simp only [inOk, decide_eq_true_eq]; omega)).symm | exact (inTo_no (by simp only [inOk, decide_eq_false_iff_not]; omega)).symm))⟩, (by omega)⟩
  refine X.skip (X.region ?_)
  refine XL.mv (.int .i64 ((k : Int))) rfl ?_
  refine cX (XOp.addR (a := (k : Int)) (b := 1) (((k + 1 : Nat) : Int)) rfl rfl (by omega) (by omega) ?_)
  refine XL.as (.int .i64 (((k + 1 : Nat) : Int))) rfl ?_
  refine XL.nil ?_
  exact ⟨(k + 1, ov, os), _, FLe.refl _, rF, ⟨rfl, rfl, rfl, rfl, rfl, trivial⟩, (sC (sC sR)), ⟨rfl, (hov), (by (try dsimp only) <;> omega), ((by dsimp only; rw [hos]; first | exact (inTo_yes (by simp only [inOk, decide_eq_true_eq]; omega)).symm | exact (inTo_no (by simp only [inOk, decide_eq_false_iff_not]; omega)).symm))⟩, (by omega)⟩
 refine X.exit (thenQ_exit (thenQ_exit (blockQ_exit ?_)))
 refine X.seq (X.region ?_)
 refine XL.mv (ov) rfl ?_
 refine XL.as (ov) rfl ?_
 refine XL.nil ?_
 refine X.ret (retEnd (L' := intsH 2 ov os :: L) [ov] (ov) (.tmp rfl .nil) rfl rF le1 (sC (sD sR)) ?_)
 refine ⟨rfl, hov, ?_⟩
 have hxs : (inS ar rs t : List Int) = os := by rw [hos, inS_eq, show k = (redS ar rs t).length from by omega]
 exact congrArg (fun z => intsH 2 _ z :: L) hxs

/- spec.l8Places -/
theorem l8Places_spec {F : FH} {L : List HP} {arv : Value} {ar : List Int} (har : IntsF F arv ar) {rsv : Value} {rs : List (List Int × List Int)} (hrs : PairsF F rsv rs) {tv : Value} {t : List Int} (ht : IntsF F tv t) {st : Int} (hla : ar.length ≤ 4000000) (hlr : rs.length ≤ 4000000) (hrb : ∀ i, i < rs.length → (rs.getD i ([], [])).1.length ≤ 4000000 ∧ (rs.getD i ([], [])).2.length ≤ 4000000) (hlt : t.length ≤ 4000000) :
    Does prog 107 [.agg #[arv, rsv], tv, .int .i64 (st)] F (L) (fun v F' L' => ∃ (a : Value), (a : Value) = v ∧ (IntsF F' a (placesL ar rs t st)) ∧ L = L') := by
 refine Does.of_X func107 rfl rfl rfl ?_
 have hrS := redS_len (ar := ar) (rs := rs) hlt
 refine X.seq (X.region ?_)
 refine cX (XOp.box [arv, rsv] rfl rfl ?_)
 intro b1
 refine XL.as ((.slice none 0 0)) rfl ?_
 refine XL.nil (X.seq (X.seq (X.region ?_)))
 refine XL.mv (.int .i64 (st)) rfl ?_
 refine XL.nil (X.block (X.seq (X.region ?_)))
 refine cX (XOp.eql (a := st) (b := 1) rfl rfl ?_)
 refine XL.as (.bool (decide ((st : Int) = 1))) rfl ?_
 refine XL.nil ?_
 refine X.condD (p := (st : Int) = 1) rfl (fun h1 => ?_) (fun h1 => ?_)
 ·refine X.seq (X.region ?_)
  refine cX (XOp.loadN [arv, rsv] isAgg29 sizeOf29 rfl rfl (Rd.ownN [] rfl rfl) ?_)
  refine XL.mv (tv) rfl ?_
  refine cX (XOp.frzF <| XOp.call (args := [.agg #[arv, rsv], tv]) call166 rfl (sInmostIn_spec har hrs ht (hla := (by first | assumption | rfl | omega | simp)) (hlr := (by first | assumption | rfl | omega | simp)) (hrb := (by first | assumption | rfl | omega | simp)) (hlt := (by first | assumption | rfl | omega | simp))) ?_)
  rintro v1 _ _ _ ⟨rfl, hs1, rfl⟩
  refine ⟨_, _, rfl, fun F1 le1 hz1 => ?_⟩
  replace har := har.mono le1
  replace hrs := hrs.mono le1
  replace ht := ht.mono le1
  have hf1 : IntsF F1 v1 ((inS ar rs t)) := intsH.fz (xs := (inS ar rs t)) hz1.fz
  refine XL.as (v1) rfl ?_
  refine XL.nil ?_
  refine X.ret (blockQ_ret (thenQ_ret (retEnd (L' := L) [v1] (v1) (.tmp rfl .nil) rfl le1 rF (sD sR) ?_)))
  exact ⟨_, rfl, by rw [placesL, if_pos (by assumption)]; exact hf1, rfl⟩
 refine X.seq (X.region ?_)
 refine cX (XOp.eql (a := st) (b := 2) rfl rfl ?_)
 refine XL.as (.bool (decide ((st : Int) = 2))) rfl ?_
 refine XL.nil ?_
 refine X.condD (p := (st : Int) = 2) rfl (fun h2 => ?_) (fun h2 => ?_)
 ·refine X.seq (X.region ?_)
  refine cX (XOp.loadN [arv, rsv] isAgg29 sizeOf29 rfl rfl (Rd.ownN [] rfl rfl) ?_)
  refine XL.mv (tv) rfl ?_
  refine cX (XOp.frzF <| XOp.call (args := [.agg #[arv, rsv], tv]) call167 rfl (sRedexesIn_spec har hrs ht (hla := (by first | assumption | rfl | omega | simp)) (hlr := (by first | assumption | rfl | omega | simp)) (hrb := (by first | assumption | rfl | omega | simp)) (hlt := (by first | assumption | rfl | omega | simp))) ?_)
  rintro v2 _ _ _ ⟨rfl, hs2, rfl⟩
  refine ⟨_, _, rfl, fun F2 le2 hz2 => ?_⟩
  replace har := har.mono le2
  replace hrs := hrs.mono le2
  replace ht := ht.mono le2
  have hf2 : IntsF F2 v2 ((redS ar rs t)) := intsH.fz (xs := (redS ar rs t)) hz2.fz
  refine XL.as (v2) rfl ?_
  refine XL.nil ?_
  refine X.ret (blockQ_ret (thenQ_ret (retEnd (L' := L) [v2] (v2) (.tmp rfl .nil) rfl le2 rF (sD sR) ?_)))
  exact ⟨_, rfl, by rw [placesL, if_neg (by assumption), if_pos (by assumption)]; exact hf2, rfl⟩
 refine X.skip (X.seq (X.region ?_))
 refine cX (XOp.loadN [arv, rsv] isAgg29 sizeOf29 rfl rfl (Rd.ownN [] rfl rfl) ?_)
 refine XL.mv (tv) rfl ?_
 refine cX (XOp.frzF <| XOp.call (args := [.agg #[arv, rsv], tv]) call167 rfl (sRedexesIn_spec har hrs ht (hla := (by first | assumption | rfl | omega | simp)) (hlr := (by first | assumption | rfl | omega | simp)) (hrb := (by first | assumption | rfl | omega | simp)) (hlt := (by first | assumption | rfl | omega | simp))) ?_)
 rintro v3 _ _ _ ⟨rfl, hs3, rfl⟩
 refine ⟨_, _, rfl, fun F3 le3 hz3 => ?_⟩
 have hf3 : IntsF F3 v3 ((redS ar rs t)) := intsH.fz (xs := (redS ar rs t)) hz3.fz
 refine XL.as (v3) rfl ?_
 refine XL.nil (X.seq (X.seq (X.region ?_)))
 refine XL.mv (v3) rfl ?_
 refine cX (XOp.lenS (v := v3) (n := ((redS ar rs t)).length) runUnderlying24 rfl hf3.slv ?_)
 refine cX (XOp.gtr (a := ((((redS ar rs t)).length : Nat) : Int)) (b := 0) rfl rfl ?_)
 refine XL.nil ?_
 refine X.condD (p := (((((redS ar rs t)).length : Nat) : Int) : Int) > 0) rfl (fun h3 => ?_) (fun h3 => ?_)
 ·refine X.region ?_
  refine XL.mv (v3) rfl ?_
  refine XL.mv (v3) rfl ?_
  refine cX (XOp.lenS (v := v3) (n := ((redS ar rs t)).length) runUnderlying24 rfl hf3.slv ?_)
  refine cX (XOp.subR (a := ((((redS ar rs t)).length : Nat) : Int)) (b := 1) ((((((redS ar rs t)).length) - 1 : Nat) : Int)) rfl rfl (by omega) (by omega) ?_)
  refine cX (XOp.sliceI ((((redS ar rs t)).length) - 1) (((redS ar rs t)).length) runUnderlying24 sizeOf2 rfl hf3 ⟨_, rfl⟩ rfl (by omega) (by omega) ?_)
  intro v4 hv1 hn1
  refine XL.as (v4) rfl ?_
  refine XL.nil (X.seq (X.region ?_))
  refine XL.mv (v4) rfl ?_
  refine XL.as (v4) rfl ?_
  refine XL.nil ?_
  refine X.ret (retEnd (L' := L) [v4] (v4) (.tmp rfl .nil) rfl le3 rF (sD sR) ?_)
  exact ⟨_, rfl, by rw [placesL, if_neg (by assumption), if_neg (by assumption)]; exact hv1, rfl⟩
 refine X.skip (X.seq (X.region ?_))
 refine XL.mv (v3) rfl ?_
 refine XL.as (v3) rfl ?_
 refine XL.nil ?_
 refine X.ret (retEnd (L' := L) [v3] (v3) (.tmp rfl .nil) rfl le3 rF (sD sR) ?_)
 exact ⟨_, rfl, by rw [placesL, if_neg (by assumption), if_neg (by assumption)]; rw [lastL_nil (l := redS ar rs t) (by omega)]; exact hf3, rfl⟩

/- spec.l8Right -/
theorem l8Right_spec {F : FH} {L : List HP} {arv : Value} {ar : List Int} (har : IntsF F arv ar) {rsv : Value} {rs : List (List Int × List Int)} (hrs : PairsF F rsv rs) {tv : Value} {t : List Int} (ht : IntsF F tv t) {st : Int} (hla : ar.length ≤ 4000000) (hlr : rs.length ≤ 4000000) (hrb : ∀ i, i < rs.length → (rs.getD i ([], [])).1.length ≤ 4000000 ∧ (rs.getD i ([], [])).2.length ≤ 4000000) (hlt : t.length ≤ 4000000) :
    Does prog 50 [.agg #[arv, rsv], tv, .int .i64 (st)] F (L) (fun v F' L' => (.bool ((rightB ar rs t && decide (1 ≤ st ∧ st ≤ 3))) : Value) = v ∧ F = F' ∧ L = L') := by
 refine Does.of_X func50 rfl rfl rfl ?_
 refine X.seq (X.region ?_)
 refine cX (XOp.box [arv, rsv] rfl rfl ?_)
 intro b1
 refine XL.as (.bool (false)) rfl ?_
 refine XL.nil (X.seq (X.region ?_))
 refine cX (XOp.loadN [arv, rsv] isAgg29 sizeOf29 rfl rfl (Rd.ownN [] rfl rfl) ?_)
 refine XL.mv (tv) rfl ?_
 refine cX (XOp.call (args := [.agg #[arv, rsv], tv]) call76 rfl (l7Right_spec har hrs ht (hla := (by first | assumption | rfl | omega | simp)) (hlr := (by first | assumption | rfl | omega | simp)) (hrb := (by first | assumption | rfl | omega | simp)) (hlt := (by first | assumption | rfl | omega | simp))) ?_)
 rintro _ _ _ _ ⟨rfl, rfl, rfl⟩
 refine XL.mv (.bool (rightB ar rs t)) rfl ?_
 by_cases h1 : (rightB ar rs t) = true
 ·refine XL.yes (t := 10) rfl (vB h1) (XOp.move (.int .i64 (st)) rfl ?_)
  refine XL.yes (t := 10) rfl (vB h1) (XOp.call (args := [.int .i64 (st), .int .i64 (1), .int .i64 (3)]) call51 rfl (l1In_spec (n := st) (a := 1) (b := 3)) ?_)
  rintro _ _ _ _ ⟨rfl, rfl, rfl⟩
  refine cX (XOp.pickT (.bool (decide (1 ≤ st ∧ st ≤ 3))) (vB h1) rfl ?_)
  refine XL.as (.bool (decide (1 ≤ st ∧ st ≤ 3))) rfl ?_
  refine XL.nil ?_
  refine X.ret (retEnd (L' := L) [.bool (decide (1 ≤ st ∧ st ≤ 3))] (.bool (decide (1 ≤ st ∧ st ≤ 3))) (.tmp rfl .nil) rfl rF rF (sD sR) ?_)
  exact ⟨(vB (by simp_all)), rfl, rfl⟩
 rw [Bool.not_eq_true] at h1
 refine XL.no (t := 10) rfl (vB h1) ?_
 refine XL.no (t := 10) rfl (vB h1) ?_
 refine cX (XOp.pickF (.bool (false)) (vB h1) rfl ?_)
 refine XL.as (.bool (false)) rfl ?_
 refine XL.nil ?_
 refine X.ret (retEnd (L' := L) [.bool (false)] (.bool (false)) (.tmp rfl .nil) rfl rF rF (sD sR) ?_)
 exact ⟨(vB (by simp_all)), rfl, rfl⟩
end Go.Proofs.YtmaaifhmhclhdaaGreat
set_option linter.unusedSimpArgs false
set_option linter.unusedVariables false
namespace Go.Proofs.YtmaaifhmhclhdaaGreat
open Go X M Tryz

/- spec.PickBy -/
theorem sPickBy_spec {F : FH} {L : List HP} {arv : Value} {ar : List Int} (har : IntsF F arv ar) {rsv : Value} {rs : List (List Int × List Int)} (hrs : PairsF F rsv rs) {tv : Value} {t : List Int} (ht : IntsF F tv t) {st : Int} (hla : ar.length ≤ 4000000) (hlr : rs.length ≤ 4000000) (hrb : ∀ i, i < rs.length → (rs.getD i ([], [])).1.length ≤ 4000000 ∧ (rs.getD i ([], [])).2.length ≤ 4000000) (hlt : t.length ≤ 4000000) :
    Does prog 53 [.agg #[arv, rsv], tv, .int .i64 (st)] F (L) (fun v F' L' => (.tuple #[.int .i64 (pickAt ar rs t st), .int .i64 (pickRule ar rs t st), .bool (pickB ar rs t st)] : Value) = v ∧ F = F' ∧ L = L') := by
 refine Does.of_X func53 rfl rfl rfl ?_
 refine X.seq (X.region ?_)
 refine cX (XOp.box [arv, rsv] rfl rfl ?_)
 intro b1
 refine XL.as (.int .i64 (0)) rfl ?_
 refine XL.as (.int .i64 (0)) rfl ?_
 refine XL.as (.bool (false)) rfl ?_
 refine XL.nil (X.seq (X.seq (X.region ?_)))
 refine cX (XOp.loadN [arv, rsv] isAgg29 sizeOf29 rfl rfl (Rd.ownN [] rfl rfl) ?_)
 refine XL.mv (tv) rfl ?_
 refine XL.mv (.int .i64 (st)) rfl ?_
 refine cX (XOp.call (args := [.agg #[arv, rsv], tv, .int .i64 (st)]) call50 rfl (l8Right_spec (st := st) har hrs ht (hla := (by first | assumption | rfl | omega | simp)) (hlr := (by first | assumption | rfl | omega | simp)) (hrb := (by first | assumption | rfl | omega | simp)) (hlt := (by first | assumption | rfl | omega | simp))) ?_)
 rintro _ _ _ _ ⟨rfl, rfl, rfl⟩
 refine cX (XOp.notB (b := (rightB ar rs t && decide (1 ≤ st ∧ st ≤ 3))) rfl ?_)
 refine XL.nil ?_
 refine X.cond (t := !((rightB ar rs t && decide (1 ≤ st ∧ st ≤ 3)))) rfl (fun h1 => ?_) (fun h1 => ?_)
 ·refine X.seq (X.region ?_)
  refine XL.as (.int .i64 (0)) rfl ?_
  refine XL.as (.int .i64 (0)) rfl ?_
  refine XL.as (.bool (false)) rfl ?_
  refine XL.nil ?_
  refine X.ret (thenQ_ret (retEnd (L' := L) [.int .i64 (0), .int .i64 (0), .bool (false)] (.tuple #[.int .i64 (0), .int .i64 (0), .bool (false)]) (.tmp rfl (.tmp rfl (.tmp rfl .nil))) rfl rF rF (sD sR) ?_))
  refine ⟨?_, rfl, rfl⟩
  have hz : pickB ar rs t st = false := pickB_no (by intro h; simp_all)
  rw [pickAt, pickRule, hz]; rfl
 have hri : rightB ar rs t = true ∧ (1 ≤ st ∧ st ≤ 3) := by simpa using h1
 have hsys := (right_iff.1 hri.1).1
 have ho := (right_iff.1 hri.1).2
 refine X.skip (X.seq (X.region ?_))
 refine cX (XOp.loadN [arv, rsv] isAgg29 sizeOf29 rfl rfl (Rd.ownN [] rfl rfl) ?_)
 refine XL.mv (tv) rfl ?_
 refine XL.mv (.int .i64 (st)) rfl ?_
 refine cX (XOp.call (args := [.agg #[arv, rsv], tv, .int .i64 (st)]) call107 rfl (l8Places_spec (st := st) har hrs ht (hla := (by first | assumption | rfl | omega | simp)) (hlr := (by first | assumption | rfl | omega | simp)) (hrb := (by first | assumption | rfl | omega | simp)) (hlt := (by first | assumption | rfl | omega | simp))) ?_)
 rintro _ F1 _ le1 ⟨x1, rfl, hr1, rfl⟩
 replace har := har.mono le1
 replace hrs := hrs.mono le1
 replace ht := ht.mono le1
 refine XL.as (x1) rfl ?_
 refine XL.nil (X.seq (X.seq (X.region ?_)))
 refine XL.mv (x1) rfl ?_
 refine cX (XOp.lenS (v := x1) (n := (placesL ar rs t st).length) runUnderlying24 rfl hr1.slv ?_)
 refine cX (XOp.eql (a := (((placesL ar rs t st).length : Nat) : Int)) (b := 0) rfl rfl ?_)
 refine XL.nil ?_
 refine X.condD (p := ((((placesL ar rs t st).length : Nat) : Int) : Int) = 0) rfl (fun h2 => ?_) (fun h2 => ?_)
 ·refine X.seq (X.region ?_)
  refine XL.as (.int .i64 (0)) rfl ?_
  refine XL.as (.int .i64 (0)) rfl ?_
  refine XL.as (.bool (false)) rfl ?_
  refine XL.nil ?_
  refine X.ret (thenQ_ret (retEnd (L' := L) [.int .i64 (0), .int .i64 (0), .bool (false)] (.tuple #[.int .i64 (0), .int .i64 (0), .bool (false)]) (.tmp rfl (.tmp rfl (.tmp rfl .nil))) rfl rF le1 (sD sR) ?_))
  refine ⟨?_, rfl, rfl⟩
  have hz : pickB ar rs t st = false := pickB_no (by intro h; exact h.2.2 ((places_nil st hri.1).1 (List.eq_nil_of_length_eq_zero (by omega))))
  rw [pickAt, pickRule, hz]; rfl
 have hne : redL ar rs t ≠ [] := fun e => by have := congrArg List.length ((places_nil st hri.1).2 e); simp only [List.length_nil] at this; omega
 have hpp := places_pick st hri.1 hne
 obtain ⟨q, hq1, hq2, hq3, _⟩ := (pick_spec (ar := ar) (rs := rs) (t := t) st).resolve_left (fun h => hne h.2)
 refine X.skip (X.seq ?_)
 refine X.draw [cellsH b1 [arv, rsv] 29] L 9 [[], [], [], [], [], [], [], [], []] [[], [0], [1], [], [], [], [5], [6], [3, 4, 7]] (phiL [fun us v => v = x1, fun us v => v = (.pointer (some (elemA x1 (0))) : Value), fun us v => v = (.int .i64 ((placesL ar rs t st).getD 0 0) : Value), fun us v => v = (.agg #[arv, rsv] : Value), fun us v => v = tv, fun us v => v = x1, fun us v => v = (.pointer (some (elemA x1 (0))) : Value), fun us v => v = (.int .i64 ((placesL ar rs t st).getD 0 0) : Value), fun us v => v = (.int .i64 (ruleAtL ar rs t (((placesL ar rs t st).getD 0 0).toNat)) : Value)]) (ownL [fun us v => [], fun us v => [], fun us v => [], fun us v => [], fun us v => [], fun us v => [], fun us v => [], fun us v => [], fun us v => []]) mixed rfl rfl (by kernel_rfl) ?_ ?_
 ·refine pC (fun vals R hpZ => ?_) ?_
  ·refine XG.op (XOp.move (x1) rfl ?_)
   exact ⟨rfl, rfl, rfl⟩
  refine pC (fun vals R hpZ => ?_) ?_
  ·rw [eS (l := [(0, x1)]) ⟨hpZ 0 (by decide), trivial⟩]
   refine XG.op (XOp.indexS (v := x1) (i := 0) (n := (placesL ar rs t st).length) 0 runUnderlying24 sizeOf2 rfl rfl rfl hr1.slv (by omega) (Nat.mul_one _) ?_)
   exact ⟨rfl, rfl, rfl⟩
  refine pC (fun vals R hpZ => ?_) ?_
  ·rw [eS (l := [(1, (.pointer (some (elemA x1 (0))) : Value))]) ⟨hpZ 1 (by decide), trivial⟩]
   refine XG.op (XOp.load1 (v := .int .i64 ((placesL ar rs t st).getD 0 0)) isAgg2 rfl (hr1.rd (by omega)) ?_)
   exact ⟨rfl, rfl, rfl⟩
  refine pC (fun vals R hpZ => ?_) ?_
  ·refine XG.op (XOp.loadN [arv, rsv] isAgg29 sizeOf29 rfl rfl (Rd.ownN [] rfl rfl) ?_)
   exact ⟨rfl, rfl, rfl⟩
  refine pC (fun vals R hpZ => ?_) ?_
  ·refine XG.op (XOp.move (tv) rfl ?_)
   exact ⟨rfl, rfl, rfl⟩
  refine pC (fun vals R hpZ => ?_) ?_
  ·refine XG.op (XOp.move (x1) rfl ?_)
   exact ⟨rfl, rfl, rfl⟩
  refine pC (fun vals R hpZ => ?_) ?_
  ·rw [eS (l := [(5, x1)]) ⟨hpZ 5 (by decide), trivial⟩]
   refine XG.op (XOp.indexS (v := x1) (i := 0) (n := (placesL ar rs t st).length) 0 runUnderlying24 sizeOf2 rfl rfl rfl hr1.slv (by omega) (Nat.mul_one _) ?_)
   exact ⟨rfl, rfl, rfl⟩
  refine pC (fun vals R hpZ => ?_) ?_
  ·rw [eS (l := [(6, (.pointer (some (elemA x1 (0))) : Value))]) ⟨hpZ 6 (by decide), trivial⟩]
   refine XG.op (XOp.load1 (v := .int .i64 ((placesL ar rs t st).getD 0 0)) isAgg2 rfl (hr1.rd (by omega)) ?_)
   exact ⟨rfl, rfl, rfl⟩
  refine pC (fun vals R hpZ => ?_) ?_
  ·rw [eS (l := [(3, (.agg #[arv, rsv] : Value)), (4, tv), (7, (.int .i64 ((placesL ar rs t st).getD 0 0) : Value))]) ⟨hpZ 3 (by decide), hpZ 4 (by decide), hpZ 7 (by decide), trivial⟩]
   refine XG.op (XOp.call (args := [.agg #[arv, rsv], tv, .int .i64 ((((placesL ar rs t st).getD 0 0).toNat : Nat) : Int)]) call108 (by rw [show ((((placesL ar rs t st).getD 0 0).toNat : Nat) : Int) = (placesL ar rs t st).getD 0 0 from by omega]; rfl) (l8Redex_spec (p := ((placesL ar rs t st).getD 0 0).toNat) har hrs ht (hsys := (by first | assumption | rfl | omega | simp)) (ho := (by first | assumption | rfl | omega | simp)) (hp := (by first | assumption | rfl | omega | simp))) ?_)
   rintro _ _ _ _ ⟨rfl, rfl, rfl⟩
   exact ⟨rfl, rfl, rfl⟩
  exact stepsP.nil
 intro vals hphi
 rw [eS (l := [(2, (.int .i64 ((placesL ar rs t st).getD 0 0) : Value)), (8, (.int .i64 (ruleAtL ar rs t (((placesL ar rs t st).getD 0 0).toNat)) : Value))]) ⟨(hphi 2 (by decide)), (hphi 8 (by decide)), trivial⟩]
 show XL _ _ _ _ _ _ _ (cellsH b1 [arv, rsv] 29 :: L)
 refine XL.as (.int .i64 ((placesL ar rs t st).getD 0 0)) rfl ?_
 refine XL.as (.int .i64 (ruleAtL ar rs t (((placesL ar rs t st).getD 0 0).toNat))) rfl ?_
 refine XL.as (.bool (true)) rfl ?_
 refine XL.nil ?_
 refine X.ret (retEnd (L' := L) [.int .i64 ((placesL ar rs t st).getD 0 0), .int .i64 (ruleAtL ar rs t (((placesL ar rs t st).getD 0 0).toNat)), .bool (true)] (.tuple #[.int .i64 ((placesL ar rs t st).getD 0 0), .int .i64 (ruleAtL ar rs t (((placesL ar rs t st).getD 0 0).toNat)), .bool (true)]) (.tmp rfl (.tmp rfl (.tmp rfl .nil))) rfl rF le1 (sD sR) ?_)
 refine ⟨?_, rfl, rfl⟩
 have hz : pickB ar rs t st = true := pickB_iff.2 ⟨hri.1, hri.2, hne⟩
 rw [pickAt, pickRule, hz, if_pos rfl, if_pos rfl, hpp]

/- impl.strategyOk -/
theorem strategyOk_spec {F : FH} {L : List HP} {arv : Value} {ar : List Int} (har : IntsF F arv ar) {rsv : Value} {rs : List (List Int × List Int)} (hrs : PairsF F rsv rs) {tv : Value} {t : List Int} (ht : IntsF F tv t) {st : Int} :
    Does prog 48 [.agg #[arv, rsv], tv, .int .i64 (st)] F (L) (fun v F' L' => (.bool ((rightB ar rs t && decide (1 ≤ st ∧ st ≤ 3))) : Value) = v ∧ F = F' ∧ L = L') := by
 refine Does.of_X func48 rfl rfl rfl ?_
 refine X.seq (X.region ?_)
 refine cX (XOp.box [arv, rsv] rfl rfl ?_)
 intro b1
 refine XL.as (.bool (false)) rfl ?_
 refine XL.nil (X.seq (X.region ?_))
 refine cX (XOp.loadN [arv, rsv] isAgg29 sizeOf29 rfl rfl (Rd.ownN [] rfl rfl) ?_)
 refine cX (XOp.call (args := [.agg #[arv, rsv]]) call56 rfl (SystemOk_spec har hrs) ?_)
 rintro _ _ _ _ ⟨rfl, rfl, rfl⟩
 refine XL.mv (.bool (sysOk ar rs)) rfl ?_
 by_cases h1 : (sysOk ar rs) = true
 ·refine XL.yes (t := 9) rfl (vB h1) (XOp.fieldP (b := b1) (0) runUnderlying29 rfl sizeOf26 (by decide) rfl rfl ?_)
  refine XL.yes (t := 9) rfl (vB h1) (XOp.loadN [arv] isAgg26 sizeOf26 rfl rfl (Rd.ownN [] rfl rfl) ?_)
  refine XL.yes (t := 9) rfl (vB h1) (XOp.move (tv) rfl ?_)
  refine XL.yes (t := 9) rfl (vB h1) (XOp.call (args := [.agg #[arv], tv]) call58 rfl (TermOk_spec har ht) ?_)
  rintro _ _ _ _ ⟨rfl, rfl, rfl⟩
  refine cX (XOp.pickT (.bool (termOk ar t)) (vB h1) rfl ?_)
  refine XL.mv (.bool (termOk ar t)) rfl ?_
  by_cases h2 : (termOk ar t) = true
  ·refine XL.yes (t := 15) rfl (vB h2) (XOp.move (.int .i64 (st)) rfl ?_)
   refine XL.yes (t := 15) rfl (vB h2) (XOp.geq (a := st) (b := 1) rfl rfl ?_)
   refine cX (XOp.pickT (.bool (decide ((st : Int) ≥ 1))) (vB h2) rfl ?_)
   refine XL.mv (.bool (decide ((st : Int) ≥ 1))) rfl ?_
   by_cases h3 : (st : Int) ≥ 1
   ·refine XL.yes (t := 19) rfl (vT h3) (XOp.move (.int .i64 (st)) rfl ?_)
    refine XL.yes (t := 19) rfl (vT h3) (XOp.leq (a := st) (b := 3) rfl rfl ?_)
    refine cX (XOp.pickT (.bool (decide ((st : Int) ≤ 3))) (vT h3) rfl ?_)
    refine XL.as (.bool (decide ((st : Int) ≤ 3))) rfl ?_
    refine XL.nil ?_
    refine X.ret (retEnd (L' := L) [.bool (decide ((st : Int) ≤ 3))] (.bool (decide ((st : Int) ≤ 3))) (.tmp rfl .nil) rfl rF rF (sD sR) ?_)
    exact ⟨(vB (by simp_all [rightB] <;> omega)), rfl, rfl⟩
   refine XL.no (t := 19) rfl (vF h3) ?_
   refine XL.no (t := 19) rfl (vF h3) ?_
   refine cX (XOp.pickF (.bool (false)) (vF h3) rfl ?_)
   refine XL.as (.bool (false)) rfl ?_
   refine XL.nil ?_
   refine X.ret (retEnd (L' := L) [.bool (false)] (.bool (false)) (.tmp rfl .nil) rfl rF rF (sD sR) ?_)
   exact ⟨(vB (by simp_all [rightB] <;> omega)), rfl, rfl⟩
  rw [Bool.not_eq_true] at h2
  refine XL.no (t := 15) rfl (vB h2) ?_
  refine XL.no (t := 15) rfl (vB h2) ?_
  refine cX (XOp.pickF (.bool (false)) (vB h2) rfl ?_)
  refine XL.mv (.bool (false)) rfl ?_
  refine XL.no (t := 19) rfl rfl ?_
  refine XL.no (t := 19) rfl rfl ?_
  refine cX (XOp.pickF (.bool (false)) rfl rfl ?_)
  refine XL.as (.bool (false)) rfl ?_
  refine XL.nil ?_
  refine X.ret (retEnd (L' := L) [.bool (false)] (.bool (false)) (.tmp rfl .nil) rfl rF rF (sD sR) ?_)
  exact ⟨(vB (by simp_all [rightB] <;> omega)), rfl, rfl⟩
 rw [Bool.not_eq_true] at h1
 refine XL.no (t := 9) rfl (vB h1) ?_
 refine XL.no (t := 9) rfl (vB h1) ?_
 refine XL.no (t := 9) rfl (vB h1) ?_
 refine XL.no (t := 9) rfl (vB h1) ?_
 refine cX (XOp.pickF (.bool (false)) (vB h1) rfl ?_)
 refine XL.mv (.bool (false)) rfl ?_
 refine XL.no (t := 15) rfl rfl ?_
 refine XL.no (t := 15) rfl rfl ?_
 refine cX (XOp.pickF (.bool (false)) rfl rfl ?_)
 refine XL.mv (.bool (false)) rfl ?_
 refine XL.no (t := 19) rfl rfl ?_
 refine XL.no (t := 19) rfl rfl ?_
 refine cX (XOp.pickF (.bool (false)) rfl rfl ?_)
 refine XL.as (.bool (false)) rfl ?_
 refine XL.nil ?_
 refine X.ret (retEnd (L' := L) [.bool (false)] (.bool (false)) (.tmp rfl .nil) rfl rF rF (sD sR) ?_)
 exact ⟨(vB (by simp_all [rightB] <;> omega)), rfl, rfl⟩
end Go.Proofs.YtmaaifhmhclhdaaGreat
