/-
  Walks, one after the other (part 3).
-/
import Derived.Test.YtmaaifhmhclhdaaQDL1
import Derived.Test.YtmaaifhmhclhdaaQDB1
set_option linter.unusedSimpArgs false
set_option linter.unusedVariables false
namespace Go.Proofs.Ytmaaifhmhclhdaa
open Go X M Try

/- spec.l2Filled -/
theorem l2Filled_spec {F : FH} {L : List HP} {sv : Value} {s : List (List Int)} (hs : RowsF F sv s) {tv : Value} {t : List Int} (ht : IntsF F tv t) (hsl : s.length ≤ 4000000) (hsb : ∀ i, (s.getD i []).length ≤ 4000000) (htl : t.length ≤ 4000000) (htg : ∀ k, k < t.length → -4000000 ≤ t.getD k 0) :
    Does prog 84 [.agg #[sv], tv] F (L) (fun v F' L' => ∃ (a : Value), (.tuple #[a, .bool ((fillL s t).isSome)] : Value) = v ∧ (IntsF F' a ((fillL s t).getD [])) ∧ L = L') := by
 refine Does.of_X func84 rfl rfl rfl ?_
 refine X.seq (X.region ?_)
 refine cX (XOp.box [sv] rfl rfl ?_)
 intro b1
 refine XL.as ((.slice none 0 0)) rfl ?_
 refine XL.as (.bool (false)) rfl ?_
 refine XL.nil (X.seq (X.region ?_))
 refine cX (XOp.buildSlice (s := 1) [] [.int .i64 (0)] [] runUnderlying24 sizeOf2 zeroValue2 rfl (by decide) rfl CellsAre.nil rfl ?_)
 intro v1 hv1
 refine XL.as (v1) rfl ?_
 refine XL.nil (X.seq (X.seq (X.region ?_)))
 refine XL.as (.int .i64 (0)) rfl ?_
 refine XL.nil (X.block ?_)
 refine X.loop (α := Nat × Value × List Int) (fun xQ => [(1, tv), (2, ptr b1 0), (6, xQ.2.1), (7, .int .i64 (((xQ.1 : Nat) : Int)))]) (fun xQ => intsH 2 xQ.2.1 xQ.2.2 :: cellsH b1 [sv] 57 :: L) (fun xQ F' => F = F' ∧ (IsSl xQ.2.1) ∧ (xQ.1 ≤ t.length) ∧ (fillL s t = fillGo s (t.drop xQ.1) xQ.2.2) ∧ (xQ.2.2.length ≤ 60)) (fun xQ => t.length - xQ.1) (0, v1, []) ⟨rfl, rfl, rfl, rfl, trivial⟩ (sC (sC sR)) ⟨rfl, ((isSl_lit hv1)), (by (try dsimp only) <;> omega), (rfl), (by simp)⟩ ?_
 rintro ⟨k, ov, os⟩ rE _ _ ⟨rfl, hov, hk, hm, hol⟩
 show X _ _ _ _ (envs [(1, tv), (2, ptr b1 0), (6, ov), (7, .int .i64 ((k : Int)))] rE) _ (intsH 2 ov os :: cellsH b1 [sv] 57 :: L)
 dsimp only at hov hk hm hol
 have htk := htg k
 have hlk0 := lk_bound (N := 4000000) (by omega) hsb (-1 - (((-1 - t.getD k 0).toNat : Nat) : Int))
 refine X.seq (X.seq (X.region ?_))
 refine XL.mv (.int .i64 ((k : Int))) rfl ?_
 refine XL.mv (tv) rfl ?_
 refine cX (XOp.lenS (v := tv) (n := (t).length) runUnderlying24 rfl ht.slv ?_)
 refine cX (XOp.lss (a := (k : Int)) (b := (t.length : Int)) rfl rfl ?_)
 refine XL.nil ?_
 refine X.condD (p := (k : Int) < (t.length : Int)) rfl (fun h1 => ?_) (fun h1 => ?_)
 ·refine X.skip (X.seq (X.block (X.seq (X.seq (X.region ?_)))))
  refine XL.mv (tv) rfl ?_
  refine XL.mv (.int .i64 ((k : Int))) rfl ?_
  refine cX (XOp.indexS (v := tv) (i := (k : Int)) (n := (t).length) k runUnderlying24 sizeOf2 rfl rfl rfl ht.slv (by omega) (Nat.mul_one _) ?_)
  refine cX (XOp.load1 (v := .int .i64 (t.getD k 0)) isAgg2 rfl (ht.rd (by omega)) ?_)
  refine cX (XOp.lss (a := t.getD k 0) (b := 0) rfl rfl ?_)
  refine XL.nil ?_
  refine X.condD (p := (t.getD k 0 : Int) < 0) rfl (fun h2 => ?_) (fun h2 => ?_)
  ·refine X.drawG [intsH 2 ov os, cellsH b1 [sv] 57] L 8 [[], [], [], [], [], [], [], []] [[], [], [], [], [2, 3], [4], [5], [1, 6]] [[], [], [], [], [], [], [], []] (phiG [fun FF us v => v = ov, fun FF us v => v = (.agg #[sv] : Value), fun FF us v => v = tv, fun FF us v => v = (.int .i64 ((k : Int)) : Value), fun FF us v => v = (.pointer (some (elemA tv (k))) : Value), fun FF us v => v = (.int .i64 (t.getD k 0) : Value), fun FF us v => v = (.int .i64 ((-1) - (t.getD k 0)) : Value), fun FF us v => ((v) : Value) = v ∧ (IntsF FF (v) (lk s (-1 - ((((-1) - (t.getD k 0)).toNat) : Int))))]) (ownL [fun us v => [], fun us v => [], fun us v => [], fun us v => [], fun us v => [], fun us v => [], fun us v => [], fun us v => []]) mixed rfl rfl (by kernel_rfl) (by kernel_rfl) (MonoG.get (mC (fun le h => h) (mC (fun le h => h) (mC (fun le h => h) (mC (fun le h => h) (mC (fun le h => h) (mC (fun le h => h) (mC (fun le h => h) (mC (fun le h => ⟨h.1, h.2.mono le⟩) MonoG.nil))))))))) ?_ ?_
   ·refine gC (fun vals Fs R leFs hpZ => ?_) ?_
    ·refine XG.op (XOp.move (ov) rfl ?_)
     exact ⟨rfl, rfl⟩
    refine gC (fun vals Fs R leFs hpZ => ?_) ?_
    ·replace hs := hs.mono leFs
     replace ht := ht.mono leFs
     refine XG.op (XOp.loadN [sv] isAgg57 sizeOf57 rfl rfl (Rd.ownN [_] rfl rfl) ?_)
     exact ⟨rfl, rfl⟩
    refine gC (fun vals Fs R leFs hpZ => ?_) ?_
    ·refine XG.op (XOp.move (tv) rfl ?_)
     exact ⟨rfl, rfl⟩
    refine gC (fun vals Fs R leFs hpZ => ?_) ?_
    ·refine XG.op (XOp.move (.int .i64 ((k : Int))) rfl ?_)
     exact ⟨rfl, rfl⟩
    refine gC (fun vals Fs R leFs hpZ => ?_) ?_
    ·replace hs := hs.mono leFs
     replace ht := ht.mono leFs
     rw [eS (l := [(2, tv), (3, (.int .i64 ((k : Int)) : Value))]) ⟨(hpZ 2 (by decide)), (hpZ 3 (by decide)), trivial⟩]
     refine XG.op (XOp.indexS (v := tv) (i := (k : Int)) (n := (t).length) k runUnderlying24 sizeOf2 rfl rfl rfl ht.slv (by omega) (Nat.mul_one _) ?_)
     exact ⟨rfl, rfl⟩
    refine gC (fun vals Fs R leFs hpZ => ?_) ?_
    ·replace hs := hs.mono leFs
     replace ht := ht.mono leFs
     rw [eS (l := [(4, (.pointer (some (elemA tv (k))) : Value))]) ⟨(hpZ 4 (by decide)), trivial⟩]
     refine XG.op (XOp.load1 (v := .int .i64 (t.getD k 0)) isAgg2 rfl (ht.rd (by omega)) ?_)
     exact ⟨rfl, rfl⟩
    refine gC (fun vals Fs R leFs hpZ => ?_) ?_
    ·rw [eS (l := [(5, (.int .i64 (t.getD k 0) : Value))]) ⟨(hpZ 5 (by decide)), trivial⟩]
     refine XG.op (XOp.subR (a := -1) (b := t.getD k 0) ((-1) - (t.getD k 0)) rfl rfl (by omega) (by omega) ?_)
     exact ⟨rfl, rfl⟩
    refine gC (fun vals Fs R leFs hpZ => ?_) ?_
    ·replace hs := hs.mono leFs
     replace ht := ht.mono leFs
     rw [eS (l := [(1, (.agg #[sv] : Value)), (6, (.int .i64 ((-1) - (t.getD k 0)) : Value))]) ⟨(hpZ 1 (by decide)), (hpZ 6 (by decide)), trivial⟩]
     refine XG.op (XOp.frzF <| XOp.call (args := [.agg #[sv], .int .i64 ((((-1) - (t.getD k 0)).toNat : Nat) : Int)]) call132 (by rw [show ((((-1) - (t.getD k 0)).toNat : Nat) : Int) = (-1) - (t.getD k 0) from by omega]; rfl) (l2Gives_spec (i := ((-1) - (t.getD k 0)).toNat) hs (hsl := (by first | assumption | rfl | omega | simp)) (hi := (by first | assumption | rfl | omega | simp)) (hsb := (hsb _))) ?_)
     rintro v3 _ _ _ ⟨rfl, hs2, rfl⟩
     refine ⟨_, _, rfl, fun F1 le1 hz1 => ?_⟩
     replace ht := ht.mono le1
     have hf1 : IntsF F1 v3 ((lk s (-1 - ((((-1) - (t.getD k 0)).toNat) : Int)))) := intsH.fz (xs := (lk s (-1 - ((((-1) - (t.getD k 0)).toNat) : Int)))) hz1.fz
     exact ⟨⟨rfl, hf1⟩, rfl⟩
    exact stepsG.nil
   intro vals F2 le2 hphi
   obtain ⟨e7, f7_1ha⟩ := hphi 7 (by decide)
   generalize hu1 : ((vals 7)) = u1 at e7 f7_1ha
   rw [eS (l := [(0, ov), (7, u1)]) ⟨(hphi 0 (by decide)), hu1, trivial⟩]
   replace ht := ht.mono le2
   show XL _ _ _ _ _ _ _ (intsH 2 ov os :: cellsH b1 [sv] 57 :: L)
   refine cX (XOp.appendI [] _ runUnderlying24 typeInfo2 rfl rfl rfl rfl rfl rfl f7_1ha (by (try simp only [List.length_append, List.length_nil, List.length_cons, List.length_singleton, List.length_take, List.length_drop]); omega) ?_)
   intro v4 hs3 hn1 hm1
   refine XL.as (v4) rfl ?_
   refine XL.nil (X.seq (X.region ?_))
   refine XL.mv (v4) rfl ?_
   refine cX (XOp.lenS (v := v4) (n := (os ++ ((lk s (-1 - ((((-1) - (t.getD k 0)).toNat) : Int))))).length) runUnderlying24 rfl (intsH.slv [] rfl) ?_)
   refine cX (XOp.gtr (a := (((os ++ ((lk s (-1 - ((((-1) - (t.getD k 0)).toNat) : Int))))).length : Nat) : Int)) (b := 60) rfl rfl ?_)
   refine XL.nil ?_
   refine X.condD (p := ((((os ++ ((lk s (-1 - ((((-1) - (t.getD k 0)).toNat) : Int))))).length : Nat) : Int) : Int) > 60) rfl (fun h3 => ?_) (fun h3 => ?_)
   ·refine X.seq (X.region ?_)
    refine cX (XOp.buildSlice (s := 1) [] [.int .i64 (0)] [] runUnderlying24 sizeOf2 zeroValue2 rfl (by decide) rfl CellsAre.nil rfl ?_)
    intro v5 hv2
    refine XL.as (v5) rfl ?_
    refine XL.as (.bool (false)) rfl ?_
    refine XL.nil ?_
    show X _ _ _ _ _ _ (intsH 2 v5 ([] : List Int) :: intsH 2 v4 (os ++ ((lk s (-1 - ((((-1) - (t.getD k 0)).toNat) : Int))))) :: cellsH b1 [sv] 57 :: L)
    refine X.freezeF [] _ _ rfl (fun F3 le3 hz2 => ?_)
    replace ht := ht.mono le3
    have hf2 : IntsF F3 v5 ([]) := intsH.fz (xs := []) hz2.fz
    refine X.ret (blockQ_ret (thenQ_ret (thenQ_ret (blockQ_ret (thenQ_ret (retEnd (L' := L) [v5, .bool (false)] (.tuple #[v5, .bool (false)]) (.tmp rfl (.tmp rfl .nil)) rfl (FLe.trans le2 le3) rF (sD (sD sR)) ?_))))))
    have hz : fillL s t = none := hm.trans (fillGo_long (a := os ++ ((lk s (-1 - ((((-1) - (t.getD k 0)).toNat) : Int))))) (by omega) (by rw [show (-1 - (((-1 - t.getD k 0).toNat : Nat) : Int)) = t.getD k 0 from by omega]) (by omega))
    exact ⟨_, by rw [hz]; rfl, by rw [hz]; exact hf2, rfl⟩
   refine X.skip (X.region ?_)
   refine XL.mv (.int .i64 ((k : Int))) rfl ?_
   refine cX (XOp.addR (a := (k : Int)) (b := 1) (((k + 1 : Nat) : Int)) rfl rfl (by omega) (by omega) ?_)
   refine XL.as (.int .i64 (((k + 1 : Nat) : Int))) rfl ?_
   refine XL.nil ?_
   exact ⟨(k + 1, v4, os ++ ((lk s (-1 - ((((-1) - (t.getD k 0)).toNat) : Int))))), _, FLe.refl _, le2, ⟨rfl, rfl, rfl, rfl, trivial⟩, (sC (sC sR)), ⟨rfl, (hs3), (by (try dsimp only) <;> omega), (by dsimp only; exact hm.trans (fillGo_next (by omega) (by rw [show (-1 - (((-1 - t.getD k 0).toNat : Nat) : Int)) = t.getD k 0 from by omega]) (by omega))), (by dsimp only; omega)⟩, (by omega)⟩
  refine X.region ?_
  refine XL.mv (ov) rfl ?_
  refine XL.mv (tv) rfl ?_
  refine XL.mv (.int .i64 ((k : Int))) rfl ?_
  refine cX (XOp.indexS (v := tv) (i := (k : Int)) (n := (t).length) k runUnderlying24 sizeOf2 rfl rfl rfl ht.slv (by omega) (Nat.mul_one _) ?_)
  refine cX (XOp.load1 (v := .int .i64 (t.getD k 0)) isAgg2 rfl (ht.rd (by omega)) ?_)
  refine cX (XOp.buildSlice (s := 1) [.int .i64 (t.getD k 0)] [.int .i64 (0)] [(0, [.int .i64 (t.getD k 0)])] runUnderlying24 sizeOf2 zeroValue2 rfl (by decide) rfl (.cons rfl CellsAre.nil) rfl ?_)
  intro v6 hv3
  refine cX (XOp.append1 (u := t.getD k 0) [_] _ runUnderlying24 typeInfo2 rfl rfl rfl rfl rfl rfl (SlV.own [] rfl) (Rd.sl [] rfl rfl) (by (try simp only [List.length_append, List.length_nil, List.length_cons, List.length_singleton, List.length_take, List.length_drop]); omega) ?_)
  intro v7 hs4 hn2
  refine XL.as (v7) rfl ?_
  refine XL.nil (X.seq (X.region ?_))
  refine XL.mv (v7) rfl ?_
  refine cX (XOp.lenS (v := v7) (n := (os ++ [t.getD k 0]).length) runUnderlying24 rfl (intsH.slv [_] rfl) ?_)
  refine cX (XOp.gtr (a := (((os ++ [t.getD k 0]).length : Nat) : Int)) (b := 60) rfl rfl ?_)
  refine XL.nil ?_
  refine X.condD (p := ((((os ++ [t.getD k 0]).length : Nat) : Int) : Int) > 60) rfl (fun h4 => ?_) (fun h4 => ?_)
  ·refine X.seq (X.region ?_)
   refine cX (XOp.buildSlice (s := 1) [] [.int .i64 (0)] [] runUnderlying24 sizeOf2 zeroValue2 rfl (by decide) rfl CellsAre.nil rfl ?_)
   intro v8 hv4
   refine XL.as (v8) rfl ?_
   refine XL.as (.bool (false)) rfl ?_
   refine XL.nil ?_
   show X _ _ _ _ _ _ (intsH 2 v8 ([] : List Int) :: slH 2 1 v6 1 [.int .i64 (t.getD k 0)] :: intsH 2 v7 (os ++ [t.getD k 0]) :: cellsH b1 [sv] 57 :: L)
   refine X.freezeF [] _ _ rfl (fun F4 le4 hz3 => ?_)
   have hf3 : IntsF F4 v8 ([]) := intsH.fz (xs := []) hz3.fz
   refine X.ret (blockQ_ret (thenQ_ret (thenQ_ret (blockQ_ret (thenQ_ret (retEnd (L' := L) [v8, .bool (false)] (.tuple #[v8, .bool (false)]) (.tmp rfl (.tmp rfl .nil)) rfl le4 rF (sD (sD (sD sR))) ?_))))))
   have hz : fillL s t = none := hm.trans (fillGo_long (a := os ++ [t.getD k 0]) (by omega) (by rw [lk_sym (by omega)]) (by omega))
   exact ⟨_, by rw [hz]; rfl, by rw [hz]; exact hf3, rfl⟩
  refine X.skip (X.region ?_)
  refine XL.mv (.int .i64 ((k : Int))) rfl ?_
  refine cX (XOp.addR (a := (k : Int)) (b := 1) (((k + 1 : Nat) : Int)) rfl rfl (by omega) (by omega) ?_)
  refine XL.as (.int .i64 (((k + 1 : Nat) : Int))) rfl ?_
  refine XL.nil ?_
  exact ⟨(k + 1, v7, os ++ [t.getD k 0]), _, FLe.refl _, rF, ⟨rfl, rfl, rfl, rfl, trivial⟩, (sD (sC (sC sR))), ⟨rfl, (hs4), (by (try dsimp only) <;> omega), (by dsimp only; exact hm.trans (fillGo_next (by omega) (by rw [lk_sym (by omega)]) (by omega))), (by dsimp only; omega)⟩, (by omega)⟩
 refine X.exit (thenQ_exit (thenQ_exit (blockQ_exit ?_)))
 refine X.seq (X.region ?_)
 refine XL.mv (ov) rfl ?_
 refine XL.as (ov) rfl ?_
 refine XL.as (.bool (true)) rfl ?_
 refine XL.nil ?_
 refine X.freezeF [] _ _ rfl (fun F5 le5 hz4 => ?_)
 have hf4 : IntsF F5 ov os := intsH.fz (xs := os) hz4.fz
 refine X.ret (retEnd (L' := L) [ov, .bool (true)] (.tuple #[ov, .bool (true)]) (.tmp rfl (.tmp rfl .nil)) rfl le5 rF (sD sR) ?_)
 have hz : fillL s t = some os := hm.trans (fillGo_done (by omega))
 exact ⟨_, by rw [hz]; rfl, by rw [hz]; exact hf4, rfl⟩

/- spec.l3Put -/
theorem l3Put_spec {F : FH} {L : List HP} {arv : Value} {ar : List Int} (har : IntsF F arv ar) {tv : Value} {t : List Int} (ht : IntsF F tv t) {p : Nat} {uv : Value} {u : List Int} (hu : IntsF F uv u) (ho : termOk ar t = true) (hp : p < t.length) (hul : u.length ≤ 4000000) :
    Does prog 94 [.agg #[arv], tv, .int .i64 ((p : Int)), uv] F (L) (fun v F' L' => ∃ (a : Value), (.tuple #[a, .bool ((putL ar t p u).isSome)] : Value) = v ∧ (IntsF F' a ((putL ar t p u).getD [])) ∧ L = L') := by
 refine Does.of_X func94 rfl rfl rfl ?_
 have hsig := termOk_sig ho
 have hsl := sigOk_spec hsig
 have htl := termOk_len ho
 have hee := endN_spec ho hp
 refine X.seq (X.region ?_)
 refine cX (XOp.box [arv] rfl rfl ?_)
 intro b1
 refine XL.as ((.slice none 0 0)) rfl ?_
 refine XL.as (.bool (false)) rfl ?_
 refine XL.nil (X.seq (X.region ?_))
 refine XL.mv (tv) rfl ?_
 refine XL.mv (.int .i64 ((p : Int))) rfl ?_
 refine cX (XOp.sliceI 0 p runUnderlying24 sizeOf2 rfl ht rfl ⟨_, rfl⟩ (by omega) (by omega) ?_)
 intro v1 hv1 hn1
 refine cX (XOp.call (args := [v1]) call141 rfl (l1Copy_spec hv1 (hlt := (by simp; omega))) ?_)
 rintro v2 _ _ _ ⟨rfl, hs1, rfl⟩
 refine XL.mv (uv) rfl ?_
 refine cX (XOp.appendI [] _ runUnderlying24 typeInfo2 rfl rfl rfl rfl rfl rfl hu (by (try simp only [List.length_append, List.length_nil, List.length_cons, List.length_singleton, List.length_take, List.length_drop]); omega) ?_)
 intro v3 hs2 hn2 hm1
 refine XL.as (v3) rfl ?_
 refine XL.nil (X.seq (X.region ?_))
 refine XL.mv (v3) rfl ?_
 refine XL.mv (tv) rfl ?_
 refine cX (XOp.loadN [arv] isAgg26 sizeOf26 rfl rfl (Rd.ownN [_] rfl rfl) ?_)
 refine XL.mv (tv) rfl ?_
 refine XL.mv (.int .i64 ((p : Int))) rfl ?_
 refine cX (XOp.call (args := [.agg #[arv], tv, .int .i64 (p : Int)]) call59 rfl (l1End_ok (p := p) har ht (ho := (by first | assumption | rfl | omega | (left; simp; done) | (right; simp; done))) (hp := (by first | assumption | rfl | omega | (left; simp; done) | (right; simp; done)))) ?_)
 rintro _ _ _ _ ⟨rfl, rfl, rfl⟩
 refine cX (XOp.sliceI (endN ar t p) ((t).length) runUnderlying24 sizeOf2 rfl ht ⟨_, rfl⟩ rfl (by omega) (by omega) ?_)
 intro v4 hv2 hn3
 refine cX (XOp.appendI [] _ runUnderlying24 typeInfo2 rfl rfl rfl rfl rfl rfl hv2 (by (try simp only [List.length_append, List.length_nil, List.length_cons, List.length_singleton, List.length_take, List.length_drop]); omega) ?_)
 intro v5 hs3 hn4 hm2
 refine XL.as (v5) rfl ?_
 refine XL.nil (X.seq (X.seq (X.region ?_)))
 refine XL.mv (v5) rfl ?_
 refine cX (XOp.lenS (v := v5) (n := (((((((t.drop 0).take (p - 0))))) ++ u) ++ (((t.drop (endN ar t p)).take (((t).length) - (endN ar t p))))).length) runUnderlying24 rfl (intsH.slv [] rfl) ?_)
 refine cX (XOp.gtr (a := (((((((((t.drop 0).take (p - 0))))) ++ u) ++ (((t.drop (endN ar t p)).take (((t).length) - (endN ar t p))))).length : Nat) : Int)) (b := 60) rfl rfl ?_)
 refine XL.nil ?_
 refine X.condD (p := ((((((((((t.drop 0).take (p - 0))))) ++ u) ++ (((t.drop (endN ar t p)).take (((t).length) - (endN ar t p))))).length : Nat) : Int) : Int) > 60) rfl (fun h1 => ?_) (fun h1 => ?_)
 ·refine X.seq (X.region ?_)
  refine cX (XOp.buildSlice (s := 1) [] [.int .i64 (0)] [] runUnderlying24 sizeOf2 zeroValue2 rfl (by decide) rfl CellsAre.nil rfl ?_)
  intro v6 hv3
  refine XL.as (v6) rfl ?_
  refine XL.as (.bool (false)) rfl ?_
  refine XL.nil ?_
  show X _ _ _ _ _ _ (intsH 2 v6 ([] : List Int) :: intsH 2 v5 (((((((t.drop 0).take (p - 0))))) ++ u) ++ (((t.drop (endN ar t p)).take (((t).length) - (endN ar t p))))) :: cellsH b1 [arv] 26 :: L)
  refine X.freezeF [] _ _ rfl (fun F1 le1 hz1 => ?_)
  have hf1 : IntsF F1 v6 ([]) := intsH.fz (xs := []) hz1.fz
  refine X.ret (thenQ_ret (retEnd (L' := L) [v6, .bool (false)] (.tuple #[v6, .bool (false)]) (.tmp rfl (.tmp rfl .nil)) rfl le1 rF (sD (sD sR)) ?_))
  have hz : putL ar t p u = none := putL_none put_three (by omega)
  exact ⟨_, by rw [hz]; rfl, by rw [hz]; exact hf1, rfl⟩
 refine X.skip (X.seq (X.region ?_))
 refine XL.mv (v5) rfl ?_
 refine XL.as (v5) rfl ?_
 refine XL.as (.bool (true)) rfl ?_
 refine XL.nil ?_
 refine X.freezeF [] _ _ rfl (fun F2 le2 hz2 => ?_)
 have hf2 : IntsF F2 v5 (((((((t.drop 0).take (p - 0))))) ++ u) ++ (((t.drop (endN ar t p)).take (((t).length) - (endN ar t p))))) := intsH.fz (xs := ((((((t.drop 0).take (p - 0))))) ++ u) ++ (((t.drop (endN ar t p)).take (((t).length) - (endN ar t p))))) hz2.fz
 refine X.ret (retEnd (L' := L) [v5, .bool (true)] (.tuple #[v5, .bool (true)]) (.tmp rfl (.tmp rfl .nil)) rfl le2 rF (sD sR) ?_)
 have hz := putL_some (ar := ar) (t := t) (p := p) (u := u) put_three (by omega)
 exact ⟨_, by rw [hz]; rfl, by rw [hz]; exact hf2, rfl⟩

/- spec.l7Step -/
theorem l7Step_spec {F : FH} {L : List HP} {arv : Value} {ar : List Int} (har : IntsF F arv ar) {rsv : Value} {rs : List (List Int × List Int)} (hrs : PairsF F rsv rs) {tv : Value} {t : List Int} (ht : IntsF F tv t) {p : Nat} {r : Nat} (hsys : sysOk ar rs = true) (ho : termOk ar t = true) (hp : p < t.length) (hr : r < rs.length) :
    Does prog 118 [.agg #[arv, rsv], tv, .int .i64 ((p : Int)), .int .i64 ((r : Int))] F (L) (fun v F' L' => ∃ (a : Value), (.tuple #[a, .bool ((stepL ar rs t p r).isSome)] : Value) = v ∧ (IntsF F' a ((stepL ar rs t p r).getD [])) ∧ L = L') := by
 refine Does.of_X func118 rfl rfl rfl ?_
 have hnn := notNil_of_pos ht (by have := termOk_len ho; omega)
 have htl := termOk_len ho
 have hrl := (sysOk_iff.1 hsys).2.1
 have hsig := (sysOk_iff.1 hsys).1
 have hsl := sigOk_spec hsig
 have hR := ruleOk_iff.1 ((sysOk_iff.1 hsys).2.2 r hr)
 have hRl := hR.left
 have hRr := hR.right
 have hso := sub_ok ho hp
 have hsb := sub_length ho hp
 have hee := endN_spec ho hp
 have hRrl := termOk_len hRr
 have hRg := fun k (hk : k < (rs.getD r ([], [])).2.length) => termOk_ge hRr hk
 have hmp := matchP_len (ar := ar) (p := (rs.getD r ([], [])).1) (t := sub ar t p)
 have hmp2 := hmp.2
 have hmp3 := hmp.1
 refine X.seq (X.region ?_)
 refine cX (XOp.box [arv, rsv] rfl rfl ?_)
 intro b1
 refine XL.as ((.slice none 0 0)) rfl ?_
 refine XL.as (.bool (false)) rfl ?_
 refine XL.nil (X.seq (X.region ?_))
 refine cX (XOp.fieldP (b := b1) (1) runUnderlying29 rfl sizeOf27 (by decide) rfl rfl ?_)
 refine cX (XOp.load1 (v := rsv) isAgg27 rfl (Rd.own [] rfl rfl) ?_)
 refine XL.mv (.int .i64 ((r : Int))) rfl ?_
 refine cX (XOp.indexS (v := rsv) (i := (r : Int)) (n := (rs).length) r runUnderlying27 sizeOf93 rfl rfl rfl hrs.slv (by omega) rfl ?_)
 obtain ⟨a1, a2, ha1, ha2, hr1, hr2⟩ := hrs.rd (i := r) (by omega)
 refine cX (XOp.loadN [a1, a2] isAgg93 sizeOf93 rfl rfl (Rd.two (hr1 _) (hr2 _)) ?_)
 refine cX (XOp.alloc [(.slice none 0 0), (.slice none 0 0)] zeroValue93 rfl ?_)
 intro b2
 refine cX (XOp.storeN (vs := [a1, a2]) [] _ [a1, a2] sizeOf93 rfl rfl rfl (ones_cons (one_sl (IntsF.isSl ha1)) (ones_cons (one_sl (IntsF.isSl ha2)) ones_nil)) rfl rfl rfl ?_)
 refine XL.nil (X.seq ?_)
 refine X.drawG [cellsH b2 [a1, a2] 93, cellsH b1 [arv, rsv] 29] L 15 [[], [], [], [], [], [], [], [], [], [], [9], [9], [], [], [9, 13]] [[], [0], [], [2], [], [4], [], [], [5, 6, 7], [1, 3, 8], [9], [9, 10], [9, 10], [], [9, 11, 13]] [[], [], [], [], [], [], [], [], [], [], [], [], [], [], [13]] (phiG [fun FF us v => v = ptr b1 0, fun FF us v => v = (.agg #[arv] : Value), fun FF us v => v = ptr b2 0, fun FF us v => v = a1, fun FF us v => v = ptr b1 0, fun FF us v => v = (.agg #[arv] : Value), fun FF us v => v = tv, fun FF us v => v = (.int .i64 ((p : Int)) : Value), fun FF us v => ((v) : Value) = v ∧ (IntsF FF (v) (sub ar t p)), fun FF us v => (.tuple #[.agg #[((aggAt (tupAt v 0) 0))], .bool ((matchB ar ((rs.getD r ([], [])).1) ((sub ar t p))).isSome)] : Value) = v ∧ (RowsF FF ((aggAt (tupAt v 0) 0)) (matchP ar ((rs.getD r ([], [])).1) ((sub ar t p)))), fun FF us v => v = (.tuple #[.agg #[((aggAt (tupAt (us.getD 0 undef) 0) 0))], .bool ((matchB ar ((rs.getD r ([], [])).1) ((sub ar t p))).isSome)] : Value), fun FF us v => v = (.agg #[((aggAt (tupAt (us.getD 0 undef) 0) 0))] : Value), fun FF us v => v = (.bool ((matchB ar ((rs.getD r ([], [])).1) ((sub ar t p))).isSome) : Value), fun FF us v => v = ptr (blk v) 0, fun FF us v => True]) (ownL [fun us v => [], fun us v => [], fun us v => [], fun us v => [], fun us v => [], fun us v => [], fun us v => [], fun us v => [], fun us v => [], fun us v => [], fun us v => [], fun us v => [], fun us v => [], fun us v => [cellsH (blk v) [(.slice none 0 0)] 57], fun us v => [cellsH (blk (us.getD 1 undef)) [((aggAt (tupAt (us.getD 0 undef) 0) 0))] 57]]) mixed rfl rfl (by kernel_rfl) (by kernel_rfl) (MonoG.get (mC (fun le h => h) (mC (fun le h => h) (mC (fun le h => h) (mC (fun le h => h) (mC (fun le h => h) (mC (fun le h => h) (mC (fun le h => h) (mC (fun le h => h) (mC (fun le h => ⟨h.1, h.2.mono le⟩) (mC (fun le h => ⟨h.1, h.2.mono le⟩) (mC (fun le h => h) (mC (fun le h => h) (mC (fun le h => h) (mC (fun le h => h) (mC (fun le h => h) MonoG.nil)))))))))))))))) ?_ ?_
 ·refine gC (fun vals Fs R leFs hpZ => ?_) ?_
  ·refine XG.op (XOp.fieldP (b := b1) (0) runUnderlying29 rfl sizeOf26 (by decide) rfl rfl ?_)
   exact ⟨rfl, rfl⟩
  refine gC (fun vals Fs R leFs hpZ => ?_) ?_
  ·replace har := har.mono leFs
   replace ht := ht.mono leFs
   replace ha1 := ha1.mono leFs
   replace ha2 := ha2.mono leFs
   rw [eS (l := [(0, ptr b1 0)]) ⟨(hpZ 0 (by decide)), trivial⟩]
   refine XG.op (XOp.loadN [arv] isAgg26 sizeOf26 rfl rfl (Rd.ownN [_] rfl rfl) ?_)
   exact ⟨rfl, rfl⟩
  refine gC (fun vals Fs R leFs hpZ => ?_) ?_
  ·refine XG.op (XOp.fieldP (b := b2) (0) runUnderlying93 rfl sizeOf24 (by decide) rfl rfl ?_)
   exact ⟨rfl, rfl⟩
  refine gC (fun vals Fs R leFs hpZ => ?_) ?_
  ·replace har := har.mono leFs
   replace ht := ht.mono leFs
   replace ha1 := ha1.mono leFs
   replace ha2 := ha2.mono leFs
   rw [eS (l := [(2, ptr b2 0)]) ⟨(hpZ 2 (by decide)), trivial⟩]
   refine XG.op (XOp.load1 (v := a1) isAgg24 rfl (Rd.own [] rfl rfl) ?_)
   exact ⟨rfl, rfl⟩
  refine gC (fun vals Fs R leFs hpZ => ?_) ?_
  ·refine XG.op (XOp.fieldP (b := b1) (0) runUnderlying29 rfl sizeOf26 (by decide) rfl rfl ?_)
   exact ⟨rfl, rfl⟩
  refine gC (fun vals Fs R leFs hpZ => ?_) ?_
  ·replace har := har.mono leFs
   replace ht := ht.mono leFs
   replace ha1 := ha1.mono leFs
   replace ha2 := ha2.mono leFs
   rw [eS (l := [(4, ptr b1 0)]) ⟨(hpZ 4 (by decide)), trivial⟩]
   refine XG.op (XOp.loadN [arv] isAgg26 sizeOf26 rfl rfl (Rd.ownN [_] rfl rfl) ?_)
   exact ⟨rfl, rfl⟩
  refine gC (fun vals Fs R leFs hpZ => ?_) ?_
  ·refine XG.op (XOp.move (tv) rfl ?_)
   exact ⟨rfl, rfl⟩
  refine gC (fun vals Fs R leFs hpZ => ?_) ?_
  ·refine XG.op (XOp.move (.int .i64 ((p : Int))) rfl ?_)
   exact ⟨rfl, rfl⟩
  refine gC (fun vals Fs R leFs hpZ => ?_) ?_
  ·replace har := har.mono leFs
   replace ht := ht.mono leFs
   replace ha1 := ha1.mono leFs
   replace ha2 := ha2.mono leFs
   rw [eS (l := [(5, (.agg #[arv] : Value)), (6, tv), (7, (.int .i64 ((p : Int)) : Value))]) ⟨(hpZ 5 (by decide)), (hpZ 6 (by decide)), (hpZ 7 (by decide)), trivial⟩]
   refine XG.op (XOp.frzF <| XOp.call (args := [.agg #[arv], tv, .int .i64 (p : Int)]) call111 rfl (l1Sub_spec (p := p) har ht (ho := (by first | assumption | rfl | omega | simp)) (hp := (by first | assumption | rfl | omega | simp))) ?_)
   rintro v2 _ _ _ ⟨rfl, hs2, rfl⟩
   refine ⟨_, _, rfl, fun F2 le2 hz1 => ?_⟩
   replace har := har.mono le2
   replace ht := ht.mono le2
   replace ha1 := ha1.mono le2
   replace ha2 := ha2.mono le2
   have hf1 : IntsF F2 v2 ((sub ar t p)) := intsH.fz (xs := (sub ar t p)) hz1.fz
   exact ⟨⟨rfl, hf1⟩, rfl⟩
  refine gC (fun vals Fs R leFs hpZ => ?_) ?_
  ·obtain ⟨e8, f8_1ha⟩ := hpZ 8 (by decide)
   replace har := har.mono leFs
   replace ht := ht.mono leFs
   replace ha1 := ha1.mono leFs
   replace ha2 := ha2.mono leFs
   rw [eS (l := [(1, (.agg #[arv] : Value)), (3, a1), (8, ((vals 8)))]) ⟨(hpZ 1 (by decide)), (hpZ 3 (by decide)), (e8).symm, trivial⟩]
   refine XG.op (XOp.call (args := [.agg #[arv], a1, ((vals 8))]) call112 rfl (l4Match_spec har ha1 f8_1ha (ho := (by first | assumption | rfl | omega | simp)) (hpo := (by first | assumption | rfl | omega | simp))) ?_)
   rintro _ F3 _ le3 ⟨x2, rfl, hr4, rfl⟩
   replace har := har.mono le3
   replace ht := ht.mono le3
   replace ha2 := ha2.mono le3
   replace f8_1ha := f8_1ha.mono le3
   exact ⟨⟨rfl, hr4⟩, rfl⟩
  refine gC (fun vals Fs R leFs hpZ => ?_) ?_
  ·obtain ⟨e9, f9_1hr⟩ := hpZ 9 (by decide)
   rw [eS (l := [(9, (.tuple #[.agg #[((aggAt (tupAt (vals 9) 0) 0))], .bool ((matchB ar ((rs.getD r ([], [])).1) ((sub ar t p))).isSome)] : Value))]) ⟨(e9).symm, trivial⟩]
   refine XG.op (XOp.move (.tuple #[.agg #[((aggAt (tupAt (vals 9) 0) 0))], .bool ((matchB ar ((rs.getD r ([], [])).1) ((sub ar t p))).isSome)]) rfl ?_)
   exact ⟨rfl, rfl⟩
  refine gC (fun vals Fs R leFs hpZ => ?_) ?_
  ·obtain ⟨e9, f9_1hr⟩ := hpZ 9 (by decide)
   have e10 : vals 10 = (.tuple #[.agg #[((aggAt (tupAt (vals 9) 0) 0))], .bool ((matchB ar ((rs.getD r ([], [])).1) ((sub ar t p))).isSome)] : Value) := hpZ 10 (by decide)
   rw [eS (l := [(9, (.tuple #[.agg #[((aggAt (tupAt (vals 9) 0) 0))], .bool ((matchB ar ((rs.getD r ([], [])).1) ((sub ar t p))).isSome)] : Value)), (10, (.tuple #[.agg #[((aggAt (tupAt (vals 9) 0) 0))], .bool ((matchB ar ((rs.getD r ([], [])).1) ((sub ar t p))).isSome)] : Value))]) ⟨(e9).symm, e10, trivial⟩]
   refine XG.op (XOp.extract (.agg #[((aggAt (tupAt (vals 9) 0) 0))]) rfl rfl ?_)
   exact ⟨rfl, rfl⟩
  refine gC (fun vals Fs R leFs hpZ => ?_) ?_
  ·obtain ⟨e9, f9_1hr⟩ := hpZ 9 (by decide)
   have e10 : vals 10 = (.tuple #[.agg #[((aggAt (tupAt (vals 9) 0) 0))], .bool ((matchB ar ((rs.getD r ([], [])).1) ((sub ar t p))).isSome)] : Value) := hpZ 10 (by decide)
   rw [eS (l := [(9, (.tuple #[.agg #[((aggAt (tupAt (vals 9) 0) 0))], .bool ((matchB ar ((rs.getD r ([], [])).1) ((sub ar t p))).isSome)] : Value)), (10, (.tuple #[.agg #[((aggAt (tupAt (vals 9) 0) 0))], .bool ((matchB ar ((rs.getD r ([], [])).1) ((sub ar t p))).isSome)] : Value))]) ⟨(e9).symm, e10, trivial⟩]
   refine XG.op (XOp.extract (.bool ((matchB ar ((rs.getD r ([], [])).1) ((sub ar t p))).isSome)) rfl rfl ?_)
   exact ⟨rfl, rfl⟩
  refine gC (fun vals Fs R leFs hpZ => ?_) ?_
  ·replace har := har.mono leFs
   replace ht := ht.mono leFs
   replace ha2 := ha2.mono leFs
   refine XG.op (XOp.alloc [(.slice none 0 0)] zeroValue57 rfl ?_)
   intro b4
   exact ⟨rfl, rfl⟩
  refine gC (fun vals Fs R leFs hpZ => ?_) ?_
  ·obtain ⟨e9, f9_1hr⟩ := hpZ 9 (by decide)
   have e11 : vals 11 = (.agg #[((aggAt (tupAt (vals 9) 0) 0))] : Value) := hpZ 11 (by decide)
   have e13 : vals 13 = ptr (blk (vals 13)) 0 := hpZ 13 (by decide)
   replace har := har.mono leFs
   replace ht := ht.mono leFs
   replace ha2 := ha2.mono leFs
   rw [eS (l := [(9, (.tuple #[.agg #[((aggAt (tupAt (vals 9) 0) 0))], .bool ((matchB ar ((rs.getD r ([], [])).1) ((sub ar t p))).isSome)] : Value)), (11, (.agg #[((aggAt (tupAt (vals 9) 0) 0))] : Value)), (13, ptr (blk (vals 13)) 0)]) ⟨(e9).symm, e11, e13, trivial⟩]
   show XG _ _ _ _ _ (cellsH (blk (vals 13)) [(.slice none 0 0)] 57 :: ([cellsH b2 [a1, a2] 93, cellsH b1 [arv, rsv] 29] ++ R)) _
   refine XG.op (XOp.storeN (vs := [((aggAt (tupAt (vals 9) 0) 0))]) [] _ [((aggAt (tupAt (vals 9) 0) 0))] sizeOf57 rfl rfl rfl (ones_cons (one_sl (RowsF.isSl f9_1hr)) ones_nil) rfl rfl rfl ?_)
   exact ⟨trivial, rfl⟩
  exact stepsG.nil
 intro vals F4 le4 hphi
 obtain ⟨e8, f8_1ha⟩ := hphi 8 (by decide)
 obtain ⟨e9, f9_1hr⟩ := hphi 9 (by decide)
 have e10 : vals 10 = (.tuple #[.agg #[((aggAt (tupAt (vals 9) 0) 0))], .bool ((matchB ar ((rs.getD r ([], [])).1) ((sub ar t p))).isSome)] : Value) := hphi 10 (by decide)
 have e11 : vals 11 = (.agg #[((aggAt (tupAt (vals 9) 0) 0))] : Value) := hphi 11 (by decide)
 have e13 : vals 13 = ptr (blk (vals 13)) 0 := hphi 13 (by decide)
 generalize hu1 : ((vals 8)) = u1 at e8 f8_1ha e9 f9_1hr e10 e11 e13
 generalize hu2 : ((aggAt (tupAt (vals 9) 0) 0)) = u2 at e8 f8_1ha e9 f9_1hr e10 e11 e13
 generalize hu3 : blk (vals 13) = b5 at e8 f8_1ha e9 f9_1hr e10 e11 e13
 rw [eS (l := [(9, (.tuple #[.agg #[u2], .bool ((matchB ar ((rs.getD r ([], [])).1) ((sub ar t p))).isSome)] : Value)), (12, (.bool ((matchB ar ((rs.getD r ([], [])).1) ((sub ar t p))).isSome) : Value)), (13, ptr b5 0)]) ⟨(e9).symm, (hphi 12 (by decide)), e13, trivial⟩]
 replace har := har.mono le4
 replace ht := ht.mono le4
 replace ha2 := ha2.mono le4
 show XL _ _ _ _ _ _ _ (cellsH b5 [u2] 57 :: cellsH b2 [a1, a2] 93 :: cellsH b1 [arv, rsv] 29 :: L)
 refine XL.as (.bool ((matchB ar ((rs.getD r ([], [])).1) ((sub ar t p))).isSome)) rfl ?_
 refine XL.nil (X.seq (X.seq (X.region ?_)))
 refine XL.mv (.bool ((matchB ar ((rs.getD r ([], [])).1) ((sub ar t p))).isSome)) rfl ?_
 refine cX (XOp.notB (b := (matchB ar ((rs.getD r ([], [])).1) ((sub ar t p))).isSome) rfl ?_)
 refine XL.nil ?_
 refine X.cond (t := !((matchB ar ((rs.getD r ([], [])).1) ((sub ar t p))).isSome)) rfl (fun h1 => ?_) (fun h1 => ?_)
 ·have hms : (matchB ar (rs.getD r ([], [])).1 (sub ar t p)).isSome = false := by simpa using h1
  refine X.seq (X.region ?_)
  refine cX (XOp.buildSlice (s := 1) [] [.int .i64 (0)] [] runUnderlying24 sizeOf2 zeroValue2 rfl (by decide) rfl CellsAre.nil rfl ?_)
  intro v3 hv1
  refine XL.as (v3) rfl ?_
  refine XL.as (.bool (false)) rfl ?_
  refine XL.nil ?_
  show X _ _ _ _ _ _ (intsH 2 v3 ([] : List Int) :: cellsH b5 [u2] 57 :: cellsH b2 [a1, a2] 93 :: cellsH b1 [arv, rsv] 29 :: L)
  refine X.freezeF [] _ _ rfl (fun F5 le5 hz2 => ?_)
  replace har := har.mono le5
  replace ht := ht.mono le5
  replace ha2 := ha2.mono le5
  replace f9_1hr := f9_1hr.mono le5
  have hf2 : IntsF F5 v3 ([]) := intsH.fz (xs := []) hz2.fz
  refine X.ret (thenQ_ret (retEnd (L' := L) [v3, .bool (false)] (.tuple #[v3, .bool (false)]) (.tmp rfl (.tmp rfl .nil)) rfl (FLe.trans le4 le5) rF (sD (sD (sD sR))) ?_))
  have hz := stepL_nomatch hms
  exact ⟨_, by rw [hz]; rfl, by rw [hz]; exact hf2, rfl⟩
 have hms : (matchB ar (rs.getD r ([], [])).1 (sub ar t p)).isSome = true := by simpa using h1
 refine X.skip (X.seq (X.region ?_))
 refine cX (XOp.loadN [u2] isAgg57 sizeOf57 rfl rfl (Rd.ownN [] rfl rfl) ?_)
 refine cX (XOp.fieldP (b := b2) (1) runUnderlying93 rfl sizeOf24 (by decide) rfl rfl ?_)
 refine cX (XOp.load1 (v := a2) isAgg24 rfl (Rd.own [_] rfl rfl) ?_)
 refine cX (XOp.call (args := [.agg #[u2], a2]) call84 rfl (l2Filled_spec f9_1hr ha2 (hsl := (by first | assumption | rfl | omega | simp)) (hsb := (fun i => by have := hmp2 i; omega)) (htl := (by first | assumption | rfl | omega | simp)) (htg := (fun k hk => by have := hRg k hk; omega))) ?_)
 rintro _ F6 _ le6 ⟨x3, rfl, hr5, rfl⟩
 replace har := har.mono le6
 replace ht := ht.mono le6
 refine XL.mv (.tuple #[x3, .bool ((fillL (matchP ar ((rs.getD r ([], [])).1) ((sub ar t p))) ((rs.getD r ([], [])).2)).isSome)]) rfl ?_
 refine cX (XOp.extract (x3) rfl rfl ?_)
 refine cX (XOp.extract (.bool ((fillL (matchP ar ((rs.getD r ([], [])).1) ((sub ar t p))) ((rs.getD r ([], [])).2)).isSome)) rfl rfl ?_)
 refine XL.as (x3) rfl ?_
 refine XL.as (.bool ((fillL (matchP ar ((rs.getD r ([], [])).1) ((sub ar t p))) ((rs.getD r ([], [])).2)).isSome)) rfl ?_
 refine XL.nil (X.seq (X.seq (X.region ?_)))
 refine XL.mv (.bool ((fillL (matchP ar ((rs.getD r ([], [])).1) ((sub ar t p))) ((rs.getD r ([], [])).2)).isSome)) rfl ?_
 refine cX (XOp.notB (b := (fillL (matchP ar ((rs.getD r ([], [])).1) ((sub ar t p))) ((rs.getD r ([], [])).2)).isSome) rfl ?_)
 refine XL.nil ?_
 refine X.cond (t := !((fillL (matchP ar ((rs.getD r ([], [])).1) ((sub ar t p))) ((rs.getD r ([], [])).2)).isSome)) rfl (fun h2 => ?_) (fun h2 => ?_)
 ·have hfs : (fillL (matchP ar (rs.getD r ([], [])).1 (sub ar t p)) (rs.getD r ([], [])).2).isSome = false := by simpa using h2
  refine X.seq (X.region ?_)
  refine cX (XOp.buildSlice (s := 1) [] [.int .i64 (0)] [] runUnderlying24 sizeOf2 zeroValue2 rfl (by decide) rfl CellsAre.nil rfl ?_)
  intro v4 hv2
  refine XL.as (v4) rfl ?_
  refine XL.as (.bool (false)) rfl ?_
  refine XL.nil ?_
  show X _ _ _ _ _ _ (intsH 2 v4 ([] : List Int) :: cellsH b5 [u2] 57 :: cellsH b2 [a1, a2] 93 :: cellsH b1 [arv, rsv] 29 :: L)
  refine X.freezeF [] _ _ rfl (fun F7 le7 hz3 => ?_)
  replace har := har.mono le7
  replace ht := ht.mono le7
  replace hr5 := hr5.mono le7
  have hf3 : IntsF F7 v4 ([]) := intsH.fz (xs := []) hz3.fz
  refine X.ret (thenQ_ret (retEnd (L' := L) [v4, .bool (false)] (.tuple #[v4, .bool (false)]) (.tmp rfl (.tmp rfl .nil)) rfl (FLe.trans (FLe.trans le4 le6) le7) rF (sD (sD (sD sR))) ?_))
  have hz := stepL_nofill hms hfs
  exact ⟨_, by rw [hz]; rfl, by rw [hz]; exact hf3, rfl⟩
 have hfs : (fillL (matchP ar (rs.getD r ([], [])).1 (sub ar t p)) (rs.getD r ([], [])).2).isSome = true := by simpa using h2
 have hfl := fill_getD_len hfs (by omega)
 refine X.skip (X.seq (X.region ?_))
 refine cX (XOp.fieldP (b := b1) (0) runUnderlying29 rfl sizeOf26 (by decide) rfl rfl ?_)
 refine cX (XOp.loadN [arv] isAgg26 sizeOf26 rfl rfl (Rd.ownN [_, _] rfl rfl) ?_)
 refine XL.mv (tv) rfl ?_
 refine XL.mv (.int .i64 ((p : Int))) rfl ?_
 refine XL.mv (x3) rfl ?_
 refine cX (XOp.call (args := [.agg #[arv], tv, .int .i64 (p : Int), x3]) call94 rfl (l3Put_spec (p := p) har ht hr5 (ho := (by first | assumption | rfl | omega | simp)) (hp := (by first | assumption | rfl | omega | simp)) (hul := (by first | assumption | rfl | omega | simp))) ?_)
 rintro _ F8 _ le8 ⟨x4, rfl, hr6, rfl⟩
 refine cX (XOp.extract (x4) rfl rfl ?_)
 refine cX (XOp.extract (.bool ((putL ar t p ((fillL (matchP ar ((rs.getD r ([], [])).1) ((sub ar t p))) ((rs.getD r ([], [])).2)).getD [])).isSome)) rfl rfl ?_)
 refine XL.as (x4) rfl ?_
 refine XL.as (.bool ((putL ar t p ((fillL (matchP ar ((rs.getD r ([], [])).1) ((sub ar t p))) ((rs.getD r ([], [])).2)).getD [])).isSome)) rfl ?_
 refine XL.nil ?_
 refine X.ret (retEnd (L' := L) [x4, .bool ((putL ar t p ((fillL (matchP ar ((rs.getD r ([], [])).1) ((sub ar t p))) ((rs.getD r ([], [])).2)).getD [])).isSome)] (.tuple #[x4, .bool ((putL ar t p ((fillL (matchP ar ((rs.getD r ([], [])).1) ((sub ar t p))) ((rs.getD r ([], [])).2)).getD [])).isSome)]) (.tmp rfl (.tmp rfl .nil)) rfl (FLe.trans (FLe.trans le4 le6) le8) rF (sD (sD (sD sR))) ?_)
 have hz := stepL_put hms hfs
 exact ⟨_, by rw [hz], by rw [hz]; exact hr6, rfl⟩
end Go.Proofs.Ytmaaifhmhclhdaa
set_option linter.unusedSimpArgs false
set_option linter.unusedVariables false
namespace Go.Proofs.Ytmaaifhmhclhdaa
open Go X M Try

/- impl.walkBy -/
theorem walkBy_spec {F : FH} {L : List HP} {arv : Value} {ar : List Int} (har : IntsF F arv ar) {rsv : Value} {rs : List (List Int × List Int)} (hrs : PairsF F rsv rs) {tv : Value} {t : List Int} (ht : IntsF F tv t) {st : Int} {n : Nat} (hsys : sysOk ar rs = true) (ho : termOk ar t = true) (hst : 1 ≤ st ∧ st ≤ 3) (hn : n ≤ 60) :
    Does prog 121 [.agg #[arv, rsv], tv, .int .i64 (st), .int .i64 ((n : Int))] F (L) (fun v F' L' => ∃ (a : Value), ∃ (b : Value), (.tuple #[.agg #[a, b], .bool ((walkGo ar rs st n t).2)] : Value) = v ∧ (IntsF F' a t) ∧ (StepsF F' b (walkGo ar rs st n t).1) ∧ (Fresh F F' (star [intsH 2 a t, stepsD 2 48 b (walkGo ar rs st n t).1])) ∧ L = L') := by
 refine Does.of_X func121 rfl rfl rfl ?_
 have hnn := notNil_of_pos ht (by have := termOk_len ho; omega)
 have htl := termOk_len ho
 have hrl := (sysOk_iff.1 hsys).2.1
 have hsig := (sysOk_iff.1 hsys).1
 have hsl := sigOk_spec hsig
 refine X.seq (X.region ?_)
 refine cX (XOp.box [arv, rsv] rfl rfl ?_)
 intro b1
 refine cX (XOp.alloc [(.slice none 0 0), (.slice none 0 0)] zeroValue60 rfl ?_)
 intro b2
 refine XL.as (.bool (false)) rfl ?_
 refine XL.nil (X.seq (X.region ?_))
 refine XL.mv (tv) rfl ?_
 refine cX (XOp.frzF <| XOp.call (args := [tv]) call97 rfl (Clone_spec ht (hlt := (by first | assumption | rfl | omega | simp))) ?_)
 rintro v1 _ _ _ ⟨rfl, hs1, rfl⟩
 refine ⟨_, _, rfl, fun F1 le1 hz1 => ?_⟩
 replace har := har.mono le1
 replace hrs := hrs.mono le1
 replace ht := ht.mono le1
 have hf1 : IntsF F1 v1 ((t)) := intsH.fz (xs := (t)) hz1.fz
 refine cX (XOp.build [v1, (.slice none 0 0)] [(.slice none 0 0), (.slice none 0 0)] [(0, 1), (1, 1)] [(0, [v1])] runUnderlying60 zeroValue60 rfl (.cons rfl sizeOf24 (.cons rfl sizeOf45 PlacesAre.nil)) rfl (.cons (cells_one (IntsF.isSl hf1)) CellsAre.nil) ?_)
 refine cX (XOp.alloc [(.slice none 0 0), (.slice none 0 0)] zeroValue60 rfl ?_)
 intro b3
 refine cX (XOp.storeN (vs := [v1, (.slice none 0 0)]) [] _ [v1, (.slice none 0 0)] sizeOf60 rfl rfl rfl (ones_cons (one_sl (IntsF.isSl hf1)) (ones_cons rfl ones_nil)) rfl rfl rfl ?_)
 refine XL.nil (X.block ?_)
 refine X.loop (α := Value × List Int × Value × List StepT × List Value × List HP × Nat × FH) (fun xQ => [(1, xQ.1), (2, .int .i64 (st)), (3, .int .i64 ((n : Int))), (4, ptr b1 0), (8, ptr b2 0), (10, ptr b3 0)]) (fun xQ => slH 48 3 xQ.2.2.1 xQ.2.2.2.2.2.2.1 xQ.2.2.2.2.1 :: cellsH b3 [v1, xQ.2.2.1] 60 :: cellsH b2 [(.slice none 0 0), (.slice none 0 0)] 60 :: cellsH b1 [arv, rsv] 29 :: L) (fun xQ F' => xQ.2.2.2.2.2.2.2 = F' ∧ F1 ≤ xQ.2.2.2.2.2.2.2 ∧ (IntsF xQ.2.2.2.2.2.2.2 xQ.1 xQ.2.1) ∧ (termOk ar xQ.2.1 = true) ∧ (IsSl xQ.2.2.1) ∧ (StepsC xQ.2.2.2.2.2.2.2 xQ.2.2.2.2.1 xQ.2.2.2.1) ∧ (xQ.2.2.2.2.2.2.1 = xQ.2.2.2.1.length) ∧ (DeepL 3 (StepO 2) xQ.2.2.2.2.1 xQ.2.2.2.1 xQ.2.2.2.2.2.1) ∧ (Fresh F1 xQ.2.2.2.2.2.2.2 (star xQ.2.2.2.2.2.1)) ∧ (xQ.2.2.2.1.length ≤ n) ∧ ((walkGo ar rs st n t).1 = xQ.2.2.2.1 ++ (walkGo ar rs st (n - xQ.2.2.2.1.length) xQ.2.1).1) ∧ ((walkGo ar rs st n t).2 = (walkGo ar rs st (n - xQ.2.2.2.1.length) xQ.2.1).2)) (fun xQ => n - xQ.2.2.2.2.2.2.1) (tv, t, (.slice none 0 0), [], [], [], 0, F1) ⟨rfl, rfl, rfl, rfl, rfl, rfl, trivial⟩ (Sub.trans (Sub.addNil 48 3 _ _) (sC (sC (sC (sC sR))))) ⟨rfl, FLe.refl _, (ht), (ho), (⟨_, _, _, rfl⟩), (CO.nil), (rfl), (DeepL.nil), (Fresh.nilL), (by simp), (rfl), (rfl)⟩ ?_
 rintro ⟨cv, cur, sv, ss, cs, Ls, m, G1⟩ rE _ _ ⟨rfl, leG, hcv, hoc, hsv, hC, hm, hD, hZ, hln, hwa, hwb⟩
 show X _ _ _ _ (envs [(1, cv), (2, .int .i64 (st)), (3, .int .i64 ((n : Int))), (4, ptr b1 0), (8, ptr b2 0), (10, ptr b3 0)] rE) _ (slH 48 3 sv m cs :: cellsH b3 [v1, sv] 60 :: cellsH b2 [(.slice none 0 0), (.slice none 0 0)] 60 :: cellsH b1 [arv, rsv] 29 :: L)
 replace leG : F1 ≤ G1 := leG
 dsimp only at hcv hoc hsv hC hm hD hZ hln hwa hwb
 have hcl := termOk_len hoc
 have leG1 := leG
 replace har := har.mono leG1
 replace hrs := hrs.mono leG1
 replace hf1 := hf1.mono leG1
 refine X.block (X.seq (X.region ?_))
 refine cX (XOp.loadN [arv, rsv] isAgg29 sizeOf29 rfl rfl (Rd.ownN [_, _, _] rfl rfl) ?_)
 refine XL.mv (cv) rfl ?_
 refine XL.mv (.int .i64 (st)) rfl ?_
 refine cX (XOp.call (args := [.agg #[arv, rsv], cv, .int .i64 (st)]) call63 rfl (pick_all (st := st) har hrs hcv (by assumption) (by assumption) (by omega)) ?_)
 rintro _ _ _ _ ⟨rfl, rfl, rfl⟩
 refine XL.as (.int .i64 (pickL ar rs cur st)) rfl ?_
 refine XL.nil (X.seq (X.seq (X.region ?_)))
 refine XL.mv (.int .i64 (pickL ar rs cur st)) rfl ?_
 refine cX (XOp.lss (a := pickL ar rs cur st) (b := 0) rfl rfl ?_)
 refine XL.nil ?_
 refine X.condD (p := (pickL ar rs cur st : Int) < 0) rfl (fun h1 => ?_) (fun h1 => ?_)
 ·have he := pick_neg (ar := ar) (rs := rs) (t := cur) (st := st) (by omega)
  refine X.seq (X.region ?_)
  refine cX (XOp.loadN [v1, sv] isAgg60 sizeOf60 rfl rfl (Rd.ownN [_] rfl rfl) ?_)
  refine cX (XOp.storeN (vs := [v1, sv]) [_, _] _ [v1, sv] sizeOf60 rfl rfl rfl (ones_cons (one_sl (IntsF.isSl hf1)) (ones_cons (one_sl hsv) ones_nil)) rfl rfl rfl ?_)
  refine XL.as (.bool (true)) rfl ?_
  refine XL.nil ?_
  refine X.freezeF [] _ _ rfl (fun F2 le2 hz2 => ?_)
  replace har := har.mono le2
  replace hrs := hrs.mono le2
  replace hf1 := hf1.mono le2
  replace hcv := hcv.mono le2
  replace hC := hC.mono le2
  have hf2 : StepsF F2 sv ss := CO.fz hC (by first | rfl | simp | omega) hz2.fz
  refine X.ret (thenQ_ret (blockQ_ret (thenQ_ret (blockQ_ret (retEnd (L' := L) [.agg #[v1, sv], .bool (true)] (.tuple #[.agg #[v1, sv], .bool (true)]) (.cell rfl (loadNV [v1, sv] isAgg60 sizeOf60 rfl (Rd.ownN [_] rfl rfl)) (.tmp rfl .nil)) rfl (FLe.trans (FLe.trans le1 leG1) le2) rF (sD (sD (sD sR))) ?_)))))
  have hw := walk_nil (st := st) (m := n - ss.length) he
  have e1 : (walkGo ar rs st n t).1 = ss := by rw [hwa, hw]; simp
  have e2 : (walkGo ar rs st n t).2 = true := by rw [hwb, hw]
  exact ⟨_, _, by rw [e2], hf1, by rw [e1]; exact hf2, by rw [e1]; exact (Fresh.app (Fresh.one hz1) le1 (Fresh.one (Fresh.deep hD hZ leG1 hz2 (by omega) le2)) (FLe.trans leG1 le2)), rfl⟩
 obtain ⟨q, hq1, hq2, hq3, hne⟩ := (pick_spec (ar := ar) (rs := rs) (t := cur) st).resolve_left (fun h => by have := h.1; omega)
 have hpn : (pickL ar rs cur st).toNat = q := by omega
 have hrr : 0 ≤ ruleAtL ar rs cur (pickL ar rs cur st).toNat := by rw [hpn]; simpa [hasR] using hq3
 obtain ⟨k, hk1, hk2, _⟩ := (M.ruleAt_spec (ar := ar) (rs := rs) (t := cur) (p := (pickL ar rs cur st).toNat)).resolve_left (by omega)
 refine X.skip (X.seq (X.seq (X.region ?_)))
 refine cX (XOp.fieldP (b := b3) (1) runUnderlying60 rfl sizeOf45 (by decide) rfl rfl ?_)
 refine cX (XOp.load1 (v := sv) isAgg45 rfl (Rd.own [_] rfl rfl) ?_)
 refine cX (XOp.lenS (v := sv) (n := m) runUnderlying45 rfl (SlV.own [] rfl) ?_)
 refine XL.mv (.int .i64 ((n : Int))) rfl ?_
 refine cX (XOp.eql (a := (m : Int)) (b := (n : Int)) rfl rfl ?_)
 refine XL.nil ?_
 refine X.condD (p := (m : Int) = (n : Int)) rfl (fun h2 => ?_) (fun h2 => ?_)
 ·refine X.seq (X.region ?_)
  refine cX (XOp.loadN [v1, sv] isAgg60 sizeOf60 rfl rfl (Rd.ownN [_] rfl rfl) ?_)
  refine cX (XOp.storeN (vs := [v1, sv]) [_, _] _ [v1, sv] sizeOf60 rfl rfl rfl (ones_cons (one_sl (IntsF.isSl hf1)) (ones_cons (one_sl hsv) ones_nil)) rfl rfl rfl ?_)
  refine XL.as (.bool (false)) rfl ?_
  refine XL.nil ?_
  refine X.freezeF [] _ _ rfl (fun F3 le3 hz3 => ?_)
  replace har := har.mono le3
  replace hrs := hrs.mono le3
  replace hf1 := hf1.mono le3
  replace hcv := hcv.mono le3
  replace hC := hC.mono le3
  have hf3 : StepsF F3 sv ss := CO.fz hC (by first | rfl | simp | omega) hz3.fz
  refine X.ret (thenQ_ret (blockQ_ret (thenQ_ret (blockQ_ret (retEnd (L' := L) [.agg #[v1, sv], .bool (false)] (.tuple #[.agg #[v1, sv], .bool (false)]) (.cell rfl (loadNV [v1, sv] isAgg60 sizeOf60 rfl (Rd.ownN [_] rfl rfl)) (.tmp rfl .nil)) rfl (FLe.trans (FLe.trans le1 leG1) le3) rF (sD (sD (sD sR))) ?_)))))
  have hw := walk_zero (st := st) (m := n - ss.length) (by omega) hne
  have e1 : (walkGo ar rs st n t).1 = ss := by rw [hwa, hw]; simp
  have e2 : (walkGo ar rs st n t).2 = false := by rw [hwb, hw]
  exact ⟨_, _, by rw [e2], hf1, by rw [e1]; exact hf3, by rw [e1]; exact (Fresh.app (Fresh.one hz1) le1 (Fresh.one (Fresh.deep hD hZ leG1 hz3 (by omega) le3)) (FLe.trans leG1 le3)), rfl⟩
 refine X.skip (X.seq (X.region ?_))
 refine cX (XOp.loadN [arv, rsv] isAgg29 sizeOf29 rfl rfl (Rd.ownN [_, _, _] rfl rfl) ?_)
 refine XL.mv (cv) rfl ?_
 refine XL.mv (.int .i64 (pickL ar rs cur st)) rfl ?_
 refine cX (XOp.call (args := [.agg #[arv, rsv], cv, .int .i64 (((pickL ar rs cur st).toNat : Nat) : Int)]) call64 (by rw [show (((pickL ar rs cur st).toNat : Nat) : Int) = pickL ar rs cur st from by omega]; rfl) (ruleAt_spec (p := (pickL ar rs cur st).toNat) har hrs hcv (hsys := (by first | assumption | rfl | omega | simp)) (ho := (by first | assumption | rfl | omega | simp)) (hp := (by first | assumption | rfl | omega | simp))) ?_)
 rintro _ _ _ _ ⟨rfl, rfl, rfl⟩
 refine XL.as (.int .i64 (ruleAtL ar rs cur ((pickL ar rs cur st).toNat))) rfl ?_
 refine XL.nil (X.seq (X.region ?_))
 refine cX (XOp.loadN [arv, rsv] isAgg29 sizeOf29 rfl rfl (Rd.ownN [_, _, _] rfl rfl) ?_)
 refine XL.mv (cv) rfl ?_
 refine XL.mv (.int .i64 (pickL ar rs cur st)) rfl ?_
 refine XL.mv (.int .i64 (ruleAtL ar rs cur ((pickL ar rs cur st).toNat))) rfl ?_
 refine cX (XOp.call (args := [.agg #[arv, rsv], cv, .int .i64 (((pickL ar rs cur st).toNat : Nat) : Int), .int .i64 (((ruleAtL ar rs cur ((pickL ar rs cur st).toNat)).toNat : Nat) : Int)]) call81 (by rw [show (((pickL ar rs cur st).toNat : Nat) : Int) = pickL ar rs cur st from by omega, show (((ruleAtL ar rs cur ((pickL ar rs cur st).toNat)).toNat : Nat) : Int) = ruleAtL ar rs cur ((pickL ar rs cur st).toNat) from by omega]; rfl) (step_spec (p := (pickL ar rs cur st).toNat) (r := (ruleAtL ar rs cur ((pickL ar rs cur st).toNat)).toNat) har hrs hcv (hsys := (by first | assumption | rfl | omega | simp)) (ho := (by first | assumption | rfl | omega | simp)) (hp := (by first | assumption | rfl | omega | simp)) (hr := (by first | assumption | rfl | omega | simp))) ?_)
 rintro _ F4 _ le4 ⟨x1, rfl, hr1, hr2, hr3, rfl⟩
 replace hf1 := hf1.mono le4
 replace hC := hC.mono le4
 refine XL.mv (.tuple #[x1, .bool ((stepL ar rs cur ((pickL ar rs cur st).toNat) ((ruleAtL ar rs cur ((pickL ar rs cur st).toNat)).toNat)).isSome)]) rfl ?_
 refine cX (XOp.extract (x1) rfl rfl ?_)
 refine cX (XOp.extract (.bool ((stepL ar rs cur ((pickL ar rs cur st).toNat) ((ruleAtL ar rs cur ((pickL ar rs cur st).toNat)).toNat)).isSome)) rfl rfl ?_)
 refine XL.as (x1) rfl ?_
 refine XL.as (.bool ((stepL ar rs cur ((pickL ar rs cur st).toNat) ((ruleAtL ar rs cur ((pickL ar rs cur st).toNat)).toNat)).isSome)) rfl ?_
 refine XL.nil (X.seq (X.seq (X.region ?_)))
 refine XL.mv (.bool ((stepL ar rs cur ((pickL ar rs cur st).toNat) ((ruleAtL ar rs cur ((pickL ar rs cur st).toNat)).toNat)).isSome)) rfl ?_
 refine cX (XOp.notB (b := (stepL ar rs cur ((pickL ar rs cur st).toNat) ((ruleAtL ar rs cur ((pickL ar rs cur st).toNat)).toNat)).isSome) rfl ?_)
 refine XL.nil ?_
 refine X.cond (t := !((stepL ar rs cur ((pickL ar rs cur st).toNat) ((ruleAtL ar rs cur ((pickL ar rs cur st).toNat)).toNat)).isSome)) rfl (fun h3 => ?_) (fun h3 => ?_)
 ·have hu : (stepL ar rs cur (pickL ar rs cur st).toNat (ruleAtL ar rs cur (pickL ar rs cur st).toNat).toNat).isSome = false := by simpa using h3
  refine X.seq (X.region ?_)
  refine cX (XOp.loadN [v1, sv] isAgg60 sizeOf60 rfl rfl (Rd.ownN [_] rfl rfl) ?_)
  refine cX (XOp.storeN (vs := [v1, sv]) [_, _] _ [v1, sv] sizeOf60 rfl rfl rfl (ones_cons (one_sl (IntsF.isSl hf1)) (ones_cons (one_sl hsv) ones_nil)) rfl rfl rfl ?_)
  refine XL.as (.bool (false)) rfl ?_
  refine XL.nil ?_
  refine X.freezeF [] _ _ rfl (fun F5 le5 hz4 => ?_)
  replace hf1 := hf1.mono le5
  replace hC := hC.mono le5
  replace hr1 := hr1.mono le5
  have hf4 : StepsF F5 sv ss := CO.fz hC (by first | rfl | simp | omega) hz4.fz
  refine X.ret (thenQ_ret (blockQ_ret (thenQ_ret (blockQ_ret (retEnd (L' := L) [.agg #[v1, sv], .bool (false)] (.tuple #[.agg #[v1, sv], .bool (false)]) (.cell rfl (loadNV [v1, sv] isAgg60 sizeOf60 rfl (Rd.ownN [_] rfl rfl)) (.tmp rfl .nil)) rfl (FLe.trans (FLe.trans (FLe.trans le1 leG1) le4) le5) rF (sD (sD (sD sR))) ?_)))))
  have hw := walk_stuck (m := n - ss.length) (by omega) hne hu
  have e1 : (walkGo ar rs st n t).1 = ss := by rw [hwa, hw]; simp
  have e2 : (walkGo ar rs st n t).2 = false := by rw [hwb, hw]
  exact ⟨_, _, by rw [e2], hf1, by rw [e1]; exact hf4, by rw [e1]; exact (Fresh.app (Fresh.one hz1) le1 (Fresh.one (Fresh.deep hD (hZ.mono le4) (FLe.trans leG1 le4) hz4 (by omega) le5)) (FLe.trans (FLe.trans leG1 le4) le5)), rfl⟩
 obtain ⟨u, hu⟩ := Option.isSome_iff_exists.1 (show (stepL ar rs cur (pickL ar rs cur st).toNat (ruleAtL ar rs cur (pickL ar rs cur st).toNat).toNat).isSome = true from by simpa using h3)
 refine X.skip (X.seq (X.region ?_))
 refine cX (XOp.fieldP (b := b3) (1) runUnderlying60 rfl sizeOf45 (by decide) rfl rfl ?_)
 refine cX (XOp.load1 (v := sv) isAgg45 rfl (Rd.own [_] rfl rfl) ?_)
 refine XL.mv (.int .i64 (pickL ar rs cur st)) rfl ?_
 refine XL.mv (.int .i64 (ruleAtL ar rs cur ((pickL ar rs cur st).toNat))) rfl ?_
 refine XL.mv (x1) rfl ?_
 refine cX (XOp.build [.int .i64 (pickL ar rs cur st), .int .i64 (ruleAtL ar rs cur ((pickL ar rs cur st).toNat)), x1] [.int .i64 (0), .int .i64 (0), (.slice none 0 0)] [(0, 1), (1, 1), (2, 1)] [(0, [.int .i64 (pickL ar rs cur st)]), (1, [.int .i64 (ruleAtL ar rs cur ((pickL ar rs cur st).toNat))]), (2, [x1])] runUnderlying48 zeroValue48 rfl (.cons rfl sizeOf2 (.cons rfl sizeOf2 (.cons rfl sizeOf24 PlacesAre.nil))) rfl (.cons rfl (.cons rfl (.cons (cells_one (IntsF.isSl hr1)) CellsAre.nil))) ?_)
 refine cX (XOp.buildSlice (s := 3) [.int .i64 (pickL ar rs cur st), .int .i64 (ruleAtL ar rs cur ((pickL ar rs cur st).toNat)), x1] [.int .i64 (0), .int .i64 (0), (.slice none 0 0)] [(0, [.int .i64 (pickL ar rs cur st), .int .i64 (ruleAtL ar rs cur ((pickL ar rs cur st).toNat)), x1])] runUnderlying45 sizeOf48 zeroValue48 rfl (by decide) rfl (.cons rfl CellsAre.nil) rfl ?_)
 intro v2 hv1
 refine cX (XOp.append (m := 1) (bytes := 40) (cs := cs) [_] _ [.int .i64 (pickL ar rs cur st), .int .i64 (ruleAtL ar rs cur ((pickL ar rs cur st).toNat)), x1] runUnderlying45 typeInfo48 rfl rfl rfl rfl rfl rfl rfl (SlV.own [] rfl) rfl (Rd.lit [] rfl) (ones_cons rfl (ones_cons rfl (ones_cons (one_sl (IntsF.isSl hr1)) ones_nil))) (by (try simp only [List.length_append, List.length_nil, List.length_cons, List.length_singleton]); omega) (by (try simp only [List.length_append, List.length_nil, List.length_cons, List.length_singleton]); omega) ?_)
 intro v3 hs2 hn1 hm1
 have hc1 := StepsC.snoc hC (i := pickL ar rs cur st) (j := ruleAtL ar rs cur ((pickL ar rs cur st).toNat)) hr1
 refine cX (XOp.fieldP (b := b3) (1) runUnderlying60 rfl sizeOf45 (by decide) rfl rfl ?_)
 refine cX (XOp.store1 (v := v3) [_, _] _ [v1, v3] sizeOf45 rfl rfl (one_sl hs2) rfl rfl rfl ?_)
 refine XL.nil (X.region ?_)
 refine XL.mv (x1) rfl ?_
 refine XL.as (x1) rfl ?_
 refine XL.nil ?_
 exact ⟨(x1, (stepL ar rs cur ((pickL ar rs cur st).toNat) ((ruleAtL ar rs cur ((pickL ar rs cur st).toNat)).toNat)).getD [], v3, ss ++ [(pickL ar rs cur st, ruleAtL ar rs cur ((pickL ar rs cur st).toNat), (stepL ar rs cur ((pickL ar rs cur st).toNat) ((ruleAtL ar rs cur ((pickL ar rs cur st).toNat)).toNat)).getD [])], cs ++ [.int .i64 (pickL ar rs cur st), .int .i64 (ruleAtL ar rs cur ((pickL ar rs cur st).toNat)), x1], Ls ++ [intsH 2 x1 ((stepL ar rs cur ((pickL ar rs cur st).toNat) ((ruleAtL ar rs cur ((pickL ar rs cur st).toNat)).toNat)).getD [])], (m) + 1, F4), _, (FLe.trans leG1 le4), rF, ⟨rfl, rfl, rfl, rfl, rfl, rfl, trivial⟩, (sD (sC (sC (sC (sC sR))))), ⟨rfl, (FLe.trans leG1 le4), (hr1), (by dsimp only; rw [hu]; exact stepL_ok hsys hoc (by omega) (by omega) hu), (hs2), (hc1), (by (try dsimp only); rw [List.length_append]; simp only [List.length_singleton]; omega), (DeepL.snoc hD rfl ⟨_, rfl, rfl⟩), ((Fresh.app hZ leG1 (Fresh.one hr3) le4)), (by dsimp only; rw [List.length_append]; simp only [List.length_singleton]; omega), (by dsimp only; rw [hwa, walk_next (m := n - ss.length) (by omega) hne hu, hu]; simp only [Option.getD_some, List.length_append, List.length_singleton, List.append_assoc, List.singleton_append]; rw [show n - ss.length - 1 = n - (ss.length + 1) from by omega]), (by dsimp only; rw [hwb, walk_next (m := n - ss.length) (by omega) hne hu, hu]; simp only [Option.getD_some, List.length_append, List.length_singleton]; rw [show n - ss.length - 1 = n - (ss.length + 1) from by omega])⟩, (by dsimp only; omega)⟩
end Go.Proofs.Ytmaaifhmhclhdaa
set_option linter.unusedSimpArgs false
set_option linter.unusedVariables false
namespace Go.Proofs.Ytmaaifhmhclhdaa
open Go X M Try

/- spec.l7Redexes -/
theorem l7Redexes_spec {F : FH} {L : List HP} {arv : Value} {ar : List Int} (har : IntsF F arv ar) {rsv : Value} {rs : List (List Int × List Int)} (hrs : PairsF F rsv rs) {tv : Value} {t : List Int} (ht : IntsF F tv t) (hsys : sysOk ar rs = true) (ho : termOk ar t = true) :
    Does prog 80 [.agg #[arv, rsv], tv] F (L) (fun v F' L' => (.int .i64 (((cntP ar rs t t.length : Nat) : Int)) : Value) = v ∧ F = F' ∧ L = L') := by
 refine Does.of_X func80 rfl rfl rfl ?_
 have hnn := notNil_of_pos ht (by have := termOk_len ho; omega)
 have htl := termOk_len ho
 have hrl := (sysOk_iff.1 hsys).2.1
 have hsig := (sysOk_iff.1 hsys).1
 have hsl := sigOk_spec hsig
 refine X.seq (X.region ?_)
 refine cX (XOp.box [arv, rsv] rfl rfl ?_)
 intro b1
 refine XL.as (.int .i64 (0)) rfl ?_
 refine XL.nil (X.seq (X.region ?_))
 refine XL.as (.int .i64 (0)) rfl ?_
 refine XL.nil (X.seq (X.seq (X.region ?_)))
 refine XL.as (.int .i64 (0)) rfl ?_
 refine XL.nil (X.block ?_)
 refine X.loop (α := Nat) (fun k => [(1, tv), (2, ptr b1 0), (5, .int .i64 (((cntP ar rs t k : Nat) : Int))), (6, .int .i64 ((k : Int)))]) (fun k => cellsH b1 [arv, rsv] 29 :: L) (fun k F' => F = F' ∧ (k ≤ t.length)) (fun k => t.length - k) 0 ⟨rfl, rfl, rfl, rfl, trivial⟩ (sC sR) ⟨rfl, (by (try dsimp only) <;> omega)⟩ ?_
 rintro k rE _ _ ⟨rfl, hk⟩
 show X _ _ _ _ (envs [(1, tv), (2, ptr b1 0), (5, .int .i64 (((cntP ar rs t k : Nat) : Int))), (6, .int .i64 ((k : Int)))] rE) _ (cellsH b1 [arv, rsv] 29 :: L)
 have hcp := cntP_le (ar := ar) (rs := rs) (t := t) hrl k
 refine X.seq (X.seq (X.region ?_))
 refine XL.mv (.int .i64 ((k : Int))) rfl ?_
 refine XL.mv (tv) rfl ?_
 refine cX (XOp.lenS (v := tv) (n := (t).length) runUnderlying24 rfl ht.slv ?_)
 refine cX (XOp.lss (a := (k : Int)) (b := (t.length : Int)) rfl rfl ?_)
 refine XL.nil ?_
 refine X.condD (p := (k : Int) < (t.length : Int)) rfl (fun h1 => ?_) (fun h1 => ?_)
 ·refine X.skip (X.seq (X.block (X.seq (X.region ?_))))
  refine XL.as (.int .i64 (0)) rfl ?_
  refine XL.nil (X.block ?_)
  refine X.loop (α := Nat) (fun j => [(1, tv), (2, ptr b1 0), (5, .int .i64 (((cntP ar rs t k + cntR ar rs t k j : Nat) : Int))), (6, .int .i64 ((k : Int))), (7, .int .i64 ((j : Int)))]) (fun j => cellsH b1 [arv, rsv] 29 :: L) (fun j F' => F = F' ∧ (j ≤ rs.length)) (fun j => rs.length - j) 0 ⟨rfl, rfl, rfl, rfl, rfl, trivial⟩ (sC sR) ⟨rfl, (by (try dsimp only) <;> omega)⟩ ?_
  rintro j rE _ _ ⟨rfl, hj⟩
  show X _ _ _ _ (envs [(1, tv), (2, ptr b1 0), (5, .int .i64 (((cntP ar rs t k + cntR ar rs t k j : Nat) : Int))), (6, .int .i64 ((k : Int))), (7, .int .i64 ((j : Int)))] rE) _ (cellsH b1 [arv, rsv] 29 :: L)
  have hcr := cntR_le (ar := ar) (rs := rs) (t := t) (p := k) (k := j)
  refine X.seq (X.seq (X.region ?_))
  refine XL.mv (.int .i64 ((j : Int))) rfl ?_
  refine cX (XOp.fieldP (b := b1) (1) runUnderlying29 rfl sizeOf27 (by decide) rfl rfl ?_)
  refine cX (XOp.load1 (v := rsv) isAgg27 rfl (Rd.own [] rfl rfl) ?_)
  refine cX (XOp.lenS (v := rsv) (n := (rs).length) runUnderlying27 rfl hrs.slv ?_)
  refine cX (XOp.lss (a := (j : Int)) (b := (rs.length : Int)) rfl rfl ?_)
  refine XL.nil ?_
  refine X.condD (p := (j : Int) < (rs.length : Int)) rfl (fun h2 => ?_) (fun h2 => ?_)
  ·refine X.skip (X.seq (X.block (X.seq ?_)))
   obtain ⟨a1, a2, ha1, ha2, hr1, hr2⟩ := hrs.rd (i := j) (by omega)
   refine X.drawG [cellsH b1 [arv, rsv] 29] L 19 [[], [], [], [], [], [], [], [], [], [], [], [], [], [], [13], [13], [], [], [13, 17]] [[], [0], [], [2], [], [3, 4], [5], [6], [], [8], [], [], [9, 10, 11], [1, 7, 12], [13], [13, 14], [13, 14], [], [13, 15, 17]] [[], [], [], [], [], [], [], [], [], [], [], [], [], [], [], [], [], [], [17]] (phiG [fun FF us v => v = ptr b1 0, fun FF us v => v = (.agg #[arv] : Value), fun FF us v => v = ptr b1 1, fun FF us v => v = rsv, fun FF us v => v = (.int .i64 ((j : Int)) : Value), fun FF us v => v = (.pointer (some (elemA rsv (j * 2))) : Value), fun FF us v => v = (.pointer (some (elemA rsv (j * 2))) : Value), fun FF us v => v = a1, fun FF us v => v = ptr b1 0, fun FF us v => v = (.agg #[arv] : Value), fun FF us v => v = tv, fun FF us v => v = (.int .i64 ((k : Int)) : Value), fun FF us v => ((v) : Value) = v ∧ (IntsF FF (v) (sub ar t k)), fun FF us v => (.tuple #[.agg #[((aggAt (tupAt v 0) 0))], .bool ((matchB ar ((rs.getD j ([], [])).1) ((sub ar t k))).isSome)] : Value) = v ∧ (RowsF FF ((aggAt (tupAt v 0) 0)) (matchP ar ((rs.getD j ([], [])).1) ((sub ar t k)))), fun FF us v => v = (.tuple #[.agg #[((aggAt (tupAt (us.getD 0 undef) 0) 0))], .bool ((matchB ar ((rs.getD j ([], [])).1) ((sub ar t k))).isSome)] : Value), fun FF us v => v = (.agg #[((aggAt (tupAt (us.getD 0 undef) 0) 0))] : Value), fun FF us v => v = (.bool ((matchB ar ((rs.getD j ([], [])).1) ((sub ar t k))).isSome) : Value), fun FF us v => v = ptr (blk v) 0, fun FF us v => True]) (ownL [fun us v => [], fun us v => [], fun us v => [], fun us v => [], fun us v => [], fun us v => [], fun us v => [], fun us v => [], fun us v => [], fun us v => [], fun us v => [], fun us v => [], fun us v => [], fun us v => [], fun us v => [], fun us v => [], fun us v => [], fun us v => [cellsH (blk v) [(.slice none 0 0)] 57], fun us v => [cellsH (blk (us.getD 1 undef)) [((aggAt (tupAt (us.getD 0 undef) 0) 0))] 57]]) mixed rfl rfl (by kernel_rfl) (by kernel_rfl) (MonoG.get (mC (fun le h => h) (mC (fun le h => h) (mC (fun le h => h) (mC (fun le h => h) (mC (fun le h => h) (mC (fun le h => h) (mC (fun le h => h) (mC (fun le h => h) (mC (fun le h => h) (mC (fun le h => h) (mC (fun le h => h) (mC (fun le h => h) (mC (fun le h => ⟨h.1, h.2.mono le⟩) (mC (fun le h => ⟨h.1, h.2.mono le⟩) (mC (fun le h => h) (mC (fun le h => h) (mC (fun le h => h) (mC (fun le h => h) (mC (fun le h => h) MonoG.nil)))))))))))))))))))) ?_ ?_
   ·refine gC (fun vals Fs R leFs hpZ => ?_) ?_
    ·refine XG.op (XOp.fieldP (b := b1) (0) runUnderlying29 rfl sizeOf26 (by decide) rfl rfl ?_)
     exact ⟨rfl, rfl⟩
    refine gC (fun vals Fs R leFs hpZ => ?_) ?_
    ·replace har := har.mono leFs
     replace hrs := hrs.mono leFs
     replace ht := ht.mono leFs
     replace ha1 := ha1.mono leFs
     replace hr1 := Rd.monoA hr1 leFs
     rw [eS (l := [(0, ptr b1 0)]) ⟨(hpZ 0 (by decide)), trivial⟩]
     refine XG.op (XOp.loadN [arv] isAgg26 sizeOf26 rfl rfl (Rd.ownN [] rfl rfl) ?_)
     exact ⟨rfl, rfl⟩
    refine gC (fun vals Fs R leFs hpZ => ?_) ?_
    ·refine XG.op (XOp.fieldP (b := b1) (1) runUnderlying29 rfl sizeOf27 (by decide) rfl rfl ?_)
     exact ⟨rfl, rfl⟩
    refine gC (fun vals Fs R leFs hpZ => ?_) ?_
    ·replace har := har.mono leFs
     replace hrs := hrs.mono leFs
     replace ht := ht.mono leFs
     replace ha1 := ha1.mono leFs
     replace hr1 := Rd.monoA hr1 leFs
     rw [eS (l := [(2, ptr b1 1)]) ⟨(hpZ 2 (by decide)), trivial⟩]
     refine XG.op (XOp.load1 (v := rsv) isAgg27 rfl (Rd.own [] rfl rfl) ?_)
     exact ⟨rfl, rfl⟩
    refine gC (fun vals Fs R leFs hpZ => ?_) ?_
    ·refine XG.op (XOp.move (.int .i64 ((j : Int))) rfl ?_)
     exact ⟨rfl, rfl⟩
    refine gC (fun vals Fs R leFs hpZ => ?_) ?_
    ·replace har := har.mono leFs
     replace hrs := hrs.mono leFs
     replace ht := ht.mono leFs
     replace ha1 := ha1.mono leFs
     replace hr1 := Rd.monoA hr1 leFs
     rw [eS (l := [(3, rsv), (4, (.int .i64 ((j : Int)) : Value))]) ⟨(hpZ 3 (by decide)), (hpZ 4 (by decide)), trivial⟩]
     refine XG.op (XOp.indexS (v := rsv) (i := (j : Int)) (n := (rs).length) j runUnderlying27 sizeOf93 rfl rfl rfl hrs.slv (by omega) rfl ?_)
     exact ⟨rfl, rfl⟩
    refine gC (fun vals Fs R leFs hpZ => ?_) ?_
    ·rw [eS (l := [(5, (.pointer (some (elemA rsv (j * 2))) : Value))]) ⟨(hpZ 5 (by decide)), trivial⟩]
     refine XG.op (XOp.fieldE (v := rsv) (j * 2) runUnderlying93 rfl sizeOf24 (by decide) rfl rfl ?_)
     exact ⟨rfl, rfl⟩
    refine gC (fun vals Fs R leFs hpZ => ?_) ?_
    ·replace har := har.mono leFs
     replace ht := ht.mono leFs
     replace ha1 := ha1.mono leFs
     replace hr1 := Rd.monoA hr1 leFs
     rw [eS (l := [(6, (.pointer (some (elemA rsv (j * 2))) : Value))]) ⟨(hpZ 6 (by decide)), trivial⟩]
     refine XG.op (XOp.load1 (v := a1) isAgg24 rfl (hr1 _) ?_)
     exact ⟨rfl, rfl⟩
    refine gC (fun vals Fs R leFs hpZ => ?_) ?_
    ·refine XG.op (XOp.fieldP (b := b1) (0) runUnderlying29 rfl sizeOf26 (by decide) rfl rfl ?_)
     exact ⟨rfl, rfl⟩
    refine gC (fun vals Fs R leFs hpZ => ?_) ?_
    ·replace har := har.mono leFs
     replace ht := ht.mono leFs
     replace ha1 := ha1.mono leFs
     rw [eS (l := [(8, ptr b1 0)]) ⟨(hpZ 8 (by decide)), trivial⟩]
     refine XG.op (XOp.loadN [arv] isAgg26 sizeOf26 rfl rfl (Rd.ownN [] rfl rfl) ?_)
     exact ⟨rfl, rfl⟩
    refine gC (fun vals Fs R leFs hpZ => ?_) ?_
    ·refine XG.op (XOp.move (tv) rfl ?_)
     exact ⟨rfl, rfl⟩
    refine gC (fun vals Fs R leFs hpZ => ?_) ?_
    ·refine XG.op (XOp.move (.int .i64 ((k : Int))) rfl ?_)
     exact ⟨rfl, rfl⟩
    refine gC (fun vals Fs R leFs hpZ => ?_) ?_
    ·replace har := har.mono leFs
     replace ht := ht.mono leFs
     replace ha1 := ha1.mono leFs
     rw [eS (l := [(9, (.agg #[arv] : Value)), (10, tv), (11, (.int .i64 ((k : Int)) : Value))]) ⟨(hpZ 9 (by decide)), (hpZ 10 (by decide)), (hpZ 11 (by decide)), trivial⟩]
     refine XG.op (XOp.frzF <| XOp.call (args := [.agg #[arv], tv, .int .i64 (k : Int)]) call111 rfl (l1Sub_spec (p := k) har ht (ho := (by first | assumption | rfl | omega | simp)) (hp := (by first | assumption | rfl | omega | simp))) ?_)
     rintro v2 _ _ _ ⟨rfl, hs2, rfl⟩
     refine ⟨_, _, rfl, fun F2 le2 hz1 => ?_⟩
     replace har := har.mono le2
     replace ha1 := ha1.mono le2
     have hf1 : IntsF F2 v2 ((sub ar t k)) := intsH.fz (xs := (sub ar t k)) hz1.fz
     exact ⟨⟨rfl, hf1⟩, rfl⟩
    refine gC (fun vals Fs R leFs hpZ => ?_) ?_
    ·obtain ⟨e12, f12_1ha⟩ := hpZ 12 (by decide)
     replace har := har.mono leFs
     replace ha1 := ha1.mono leFs
     rw [eS (l := [(1, (.agg #[arv] : Value)), (7, a1), (12, ((vals 12)))]) ⟨(hpZ 1 (by decide)), (hpZ 7 (by decide)), (e12).symm, trivial⟩]
     refine XG.op (XOp.call (args := [.agg #[arv], a1, ((vals 12))]) call112 rfl (l4Match_spec har ha1 f12_1ha (ho := (sub_ok ho (by omega))) (hpo := ((ruleOk_iff.1 ((sysOk_iff.1 hsys).2.2 j (by omega))).left))) ?_)
     rintro _ F3 _ le3 ⟨x2, rfl, hr4, rfl⟩
     replace har := har.mono le3
     replace f12_1ha := f12_1ha.mono le3
     exact ⟨⟨rfl, hr4⟩, rfl⟩
    refine gC (fun vals Fs R leFs hpZ => ?_) ?_
    ·obtain ⟨e13, f13_1hr⟩ := hpZ 13 (by decide)
     rw [eS (l := [(13, (.tuple #[.agg #[((aggAt (tupAt (vals 13) 0) 0))], .bool ((matchB ar ((rs.getD j ([], [])).1) ((sub ar t k))).isSome)] : Value))]) ⟨(e13).symm, trivial⟩]
     refine XG.op (XOp.move (.tuple #[.agg #[((aggAt (tupAt (vals 13) 0) 0))], .bool ((matchB ar ((rs.getD j ([], [])).1) ((sub ar t k))).isSome)]) rfl ?_)
     exact ⟨rfl, rfl⟩
    refine gC (fun vals Fs R leFs hpZ => ?_) ?_
    ·obtain ⟨e13, f13_1hr⟩ := hpZ 13 (by decide)
     have e14 : vals 14 = (.tuple #[.agg #[((aggAt (tupAt (vals 13) 0) 0))], .bool ((matchB ar ((rs.getD j ([], [])).1) ((sub ar t k))).isSome)] : Value) := hpZ 14 (by decide)
     rw [eS (l := [(13, (.tuple #[.agg #[((aggAt (tupAt (vals 13) 0) 0))], .bool ((matchB ar ((rs.getD j ([], [])).1) ((sub ar t k))).isSome)] : Value)), (14, (.tuple #[.agg #[((aggAt (tupAt (vals 13) 0) 0))], .bool ((matchB ar ((rs.getD j ([], [])).1) ((sub ar t k))).isSome)] : Value))]) ⟨(e13).symm, e14, trivial⟩]
     refine XG.op (XOp.extract (.agg #[((aggAt (tupAt (vals 13) 0) 0))]) rfl rfl ?_)
     exact ⟨rfl, rfl⟩
    refine gC (fun vals Fs R leFs hpZ => ?_) ?_
    ·obtain ⟨e13, f13_1hr⟩ := hpZ 13 (by decide)
     have e14 : vals 14 = (.tuple #[.agg #[((aggAt (tupAt (vals 13) 0) 0))], .bool ((matchB ar ((rs.getD j ([], [])).1) ((sub ar t k))).isSome)] : Value) := hpZ 14 (by decide)
     rw [eS (l := [(13, (.tuple #[.agg #[((aggAt (tupAt (vals 13) 0) 0))], .bool ((matchB ar ((rs.getD j ([], [])).1) ((sub ar t k))).isSome)] : Value)), (14, (.tuple #[.agg #[((aggAt (tupAt (vals 13) 0) 0))], .bool ((matchB ar ((rs.getD j ([], [])).1) ((sub ar t k))).isSome)] : Value))]) ⟨(e13).symm, e14, trivial⟩]
     refine XG.op (XOp.extract (.bool ((matchB ar ((rs.getD j ([], [])).1) ((sub ar t k))).isSome)) rfl rfl ?_)
     exact ⟨rfl, rfl⟩
    refine gC (fun vals Fs R leFs hpZ => ?_) ?_
    ·replace har := har.mono leFs
     refine XG.op (XOp.alloc [(.slice none 0 0)] zeroValue57 rfl ?_)
     intro b3
     exact ⟨rfl, rfl⟩
    refine gC (fun vals Fs R leFs hpZ => ?_) ?_
    ·obtain ⟨e13, f13_1hr⟩ := hpZ 13 (by decide)
     have e15 : vals 15 = (.agg #[((aggAt (tupAt (vals 13) 0) 0))] : Value) := hpZ 15 (by decide)
     have e17 : vals 17 = ptr (blk (vals 17)) 0 := hpZ 17 (by decide)
     rw [eS (l := [(13, (.tuple #[.agg #[((aggAt (tupAt (vals 13) 0) 0))], .bool ((matchB ar ((rs.getD j ([], [])).1) ((sub ar t k))).isSome)] : Value)), (15, (.agg #[((aggAt (tupAt (vals 13) 0) 0))] : Value)), (17, ptr (blk (vals 17)) 0)]) ⟨(e13).symm, e15, e17, trivial⟩]
     show XG _ _ _ _ _ (cellsH (blk (vals 17)) [(.slice none 0 0)] 57 :: ([cellsH b1 [arv, rsv] 29] ++ R)) _
     refine XG.op (XOp.storeN (vs := [((aggAt (tupAt (vals 13) 0) 0))]) [] _ [((aggAt (tupAt (vals 13) 0) 0))] sizeOf57 rfl rfl rfl (ones_cons (one_sl (RowsF.isSl f13_1hr)) ones_nil) rfl rfl rfl ?_)
     exact ⟨trivial, rfl⟩
    exact stepsG.nil
   intro vals F4 le4 hphi
   obtain ⟨e12, f12_1ha⟩ := hphi 12 (by decide)
   obtain ⟨e13, f13_1hr⟩ := hphi 13 (by decide)
   have e14 : vals 14 = (.tuple #[.agg #[((aggAt (tupAt (vals 13) 0) 0))], .bool ((matchB ar ((rs.getD j ([], [])).1) ((sub ar t k))).isSome)] : Value) := hphi 14 (by decide)
   have e15 : vals 15 = (.agg #[((aggAt (tupAt (vals 13) 0) 0))] : Value) := hphi 15 (by decide)
   have e17 : vals 17 = ptr (blk (vals 17)) 0 := hphi 17 (by decide)
   generalize hu1 : ((vals 12)) = u1 at e12 f12_1ha e13 f13_1hr e14 e15 e17
   generalize hu2 : ((aggAt (tupAt (vals 13) 0) 0)) = u2 at e12 f12_1ha e13 f13_1hr e14 e15 e17
   generalize hu3 : blk (vals 17) = b4 at e12 f12_1ha e13 f13_1hr e14 e15 e17
   rw [eS (l := [(13, (.tuple #[.agg #[u2], .bool ((matchB ar ((rs.getD j ([], [])).1) ((sub ar t k))).isSome)] : Value)), (16, (.bool ((matchB ar ((rs.getD j ([], [])).1) ((sub ar t k))).isSome) : Value)), (17, ptr b4 0)]) ⟨(e13).symm, (hphi 16 (by decide)), e17, trivial⟩]
   show XL _ _ _ _ _ _ _ (cellsH b4 [u2] 57 :: cellsH b1 [arv, rsv] 29 :: L)
   refine XL.as (.bool ((matchB ar ((rs.getD j ([], [])).1) ((sub ar t k))).isSome)) rfl ?_
   refine XL.nil (X.seq (X.region ?_))
   refine XL.mv (.bool ((matchB ar ((rs.getD j ([], [])).1) ((sub ar t k))).isSome)) rfl ?_
   refine XL.nil ?_
   refine X.cond (t := (matchB ar ((rs.getD j ([], [])).1) ((sub ar t k))).isSome) rfl (fun h3 => ?_) (fun h3 => ?_)
   ·refine X.region ?_
    refine XL.mv (.int .i64 (((cntP ar rs t k + cntR ar rs t k j : Nat) : Int))) rfl ?_
    refine cX (XOp.addR (a := ((cntP ar rs t k + cntR ar rs t k j : Nat) : Int)) (b := 1) ((((cntP ar rs t k + cntR ar rs t k j) + 1 : Nat) : Int)) rfl rfl (by omega) (by omega) ?_)
    refine XL.as (.int .i64 ((((cntP ar rs t k + cntR ar rs t k j) + 1 : Nat) : Int))) rfl ?_
    refine XL.nil (X.region ?_)
    refine XL.mv (.int .i64 ((j : Int))) rfl ?_
    refine cX (XOp.addR (a := (j : Int)) (b := 1) (((j + 1 : Nat) : Int)) rfl rfl (by omega) (by omega) ?_)
    refine XL.as (.int .i64 (((j + 1 : Nat) : Int))) rfl ?_
    refine XL.nil ?_
    exact ⟨j + 1, _, FLe.refl _, le4, ⟨rfl, rfl, (congrArg (fun z : Nat => Value.int .i64 (z : Int)) (by first | exact cntR_yes (by unfold isRedex; assumption) | exact cntR_no (by unfold isRedex; assumption))), rfl, rfl, trivial⟩, (sD (sC sR)), ⟨rfl, (by omega)⟩, (by omega)⟩
   refine X.skip (X.region ?_)
   refine XL.mv (.int .i64 ((j : Int))) rfl ?_
   refine cX (XOp.addR (a := (j : Int)) (b := 1) (((j + 1 : Nat) : Int)) rfl rfl (by omega) (by omega) ?_)
   refine XL.as (.int .i64 (((j + 1 : Nat) : Int))) rfl ?_
   refine XL.nil ?_
   exact ⟨j + 1, _, FLe.refl _, le4, ⟨rfl, rfl, (congrArg (fun z : Nat => Value.int .i64 (z : Int)) (by first | exact cntR_yes (by unfold isRedex; assumption) | exact cntR_no (by unfold isRedex; assumption))), rfl, rfl, trivial⟩, (sD (sC sR)), ⟨rfl, (by omega)⟩, (by omega)⟩
  refine X.exit (thenQ_exit (thenQ_exit (blockQ_exit ?_)))
  refine X.region ?_
  refine XL.mv (.int .i64 ((k : Int))) rfl ?_
  refine cX (XOp.addR (a := (k : Int)) (b := 1) (((k + 1 : Nat) : Int)) rfl rfl (by omega) (by omega) ?_)
  refine XL.as (.int .i64 (((k + 1 : Nat) : Int))) rfl ?_
  refine XL.nil ?_
  exact ⟨k + 1, _, FLe.refl _, rF, ⟨rfl, rfl, (congrArg (fun z : Nat => Value.int .i64 (z : Int)) (cntP_succ (by omega))), rfl, trivial⟩, (sC sR), ⟨rfl, (by omega)⟩, (by omega)⟩
 refine X.exit (thenQ_exit (thenQ_exit (blockQ_exit ?_)))
 refine X.seq (X.region ?_)
 refine XL.mv (.int .i64 (((cntP ar rs t k : Nat) : Int))) rfl ?_
 refine XL.as (.int .i64 (((cntP ar rs t k : Nat) : Int))) rfl ?_
 refine XL.nil ?_
 refine X.ret (retEnd (L' := L) [.int .i64 (((cntP ar rs t k : Nat) : Int))] (.int .i64 (((cntP ar rs t k : Nat) : Int))) (.tmp rfl .nil) rfl rF rF (sD sR) ?_)
 exact ⟨(vI (by rw [show k = t.length from by omega])), rfl, rfl⟩

/- spec.NormalIn -/
theorem sNormalIn_spec {F : FH} {L : List HP} {arv : Value} {ar : List Int} (har : IntsF F arv ar) {rsv : Value} {rs : List (List Int × List Int)} (hrs : PairsF F rsv rs) {tv : Value} {t : List Int} (ht : IntsF F tv t) (hla : ar.length ≤ 4000000) (hlr : rs.length ≤ 4000000) (hrb : ∀ i, i < rs.length → (rs.getD i ([], [])).1.length ≤ 4000000 ∧ (rs.getD i ([], [])).2.length ≤ 4000000) (hlt : t.length ≤ 4000000) :
    Does prog 32 [.agg #[arv, rsv], tv] F (L) (fun v F' L' => (.bool ((rightB ar rs t && normalL ar rs t)) : Value) = v ∧ F = F' ∧ L = L') := by
 refine Does.of_X func32 rfl rfl rfl ?_
 refine X.seq (X.region ?_)
 refine cX (XOp.box [arv, rsv] rfl rfl ?_)
 intro b1
 refine XL.as (.bool (false)) rfl ?_
 refine XL.nil (X.seq (X.region ?_))
 refine cX (XOp.loadN [arv, rsv] isAgg29 sizeOf29 rfl rfl (Rd.ownN [] rfl rfl) ?_)
 refine XL.mv (tv) rfl ?_
 refine cX (XOp.call (args := [.agg #[arv, rsv], tv]) call57 rfl (l7Right_spec har hrs ht (hla := (by first | assumption | rfl | omega | simp)) (hlr := (by first | assumption | rfl | omega | simp)) (hrb := (by first | assumption | rfl | omega | simp)) (hlt := (by first | assumption | rfl | omega | simp))) ?_)
 rintro _ _ _ _ ⟨rfl, rfl, rfl⟩
 refine XL.mv (.bool (rightB ar rs t)) rfl ?_
 by_cases h1 : (rightB ar rs t) = true
 ·have hsys := (right_iff.1 h1).1
  have ho := (right_iff.1 h1).2
  refine XL.yes (t := 8) rfl (vB h1) (XOp.loadN [arv, rsv] isAgg29 sizeOf29 rfl rfl (Rd.ownN [] rfl rfl) ?_)
  refine XL.yes (t := 8) rfl (vB h1) (XOp.move (tv) rfl ?_)
  refine XL.yes (t := 8) rfl (vB h1) (XOp.call (args := [.agg #[arv, rsv], tv]) call80 rfl (l7Redexes_spec har hrs ht (hsys := (by first | assumption | rfl | omega | simp)) (ho := (by first | assumption | rfl | omega | simp))) ?_)
  rintro _ _ _ _ ⟨rfl, rfl, rfl⟩
  refine XL.yes (t := 8) rfl (vB h1) (XOp.eql (a := ((cntP ar rs t t.length : Nat) : Int)) (b := 0) rfl rfl ?_)
  refine cX (XOp.pickT (.bool (decide ((((cntP ar rs t t.length : Nat) : Int) : Int) = 0))) (vB h1) rfl ?_)
  refine XL.as (.bool (decide ((((cntP ar rs t t.length : Nat) : Int) : Int) = 0))) rfl ?_
  refine XL.nil ?_
  refine X.ret (retEnd (L' := L) [.bool (decide ((((cntP ar rs t t.length : Nat) : Int) : Int) = 0))] (.bool (decide ((((cntP ar rs t t.length : Nat) : Int) : Int) = 0))) (.tmp rfl .nil) rfl rF rF (sD sR) ?_)
  exact ⟨(vB (by rw [normal_cnt]; simp_all)), rfl, rfl⟩
 rw [Bool.not_eq_true] at h1
 refine XL.no (t := 8) rfl (vB h1) ?_
 refine XL.no (t := 8) rfl (vB h1) ?_
 refine XL.no (t := 8) rfl (vB h1) ?_
 refine XL.no (t := 8) rfl (vB h1) ?_
 refine cX (XOp.pickF (.bool (false)) (vB h1) rfl ?_)
 refine XL.as (.bool (false)) rfl ?_
 refine XL.nil ?_
 refine X.ret (retEnd (L' := L) [.bool (false)] (.bool (false)) (.tmp rfl .nil) rfl rF rF (sD sR) ?_)
 exact ⟨(vB (by simp_all)), rfl, rfl⟩

/- spec.WalkBy -/
theorem sWalkBy_spec {F : FH} {L : List HP} {arv : Value} {ar : List Int} (har : IntsF F arv ar) {rsv : Value} {rs : List (List Int × List Int)} (hrs : PairsF F rsv rs) {tv : Value} {t : List Int} (ht : IntsF F tv t) {st : Int} {n : Int} (hla : ar.length ≤ 4000000) (hlr : rs.length ≤ 4000000) (hrb : ∀ i, i < rs.length → (rs.getD i ([], [])).1.length ≤ 4000000 ∧ (rs.getD i ([], [])).2.length ≤ 4000000) (hlt : t.length ≤ 4000000) :
    Does prog 123 [.agg #[arv, rsv], tv, .int .i64 (st), .int .i64 (n)] F (L) (fun v F' L' => ∃ (a : Value), ∃ (b : Value), (.tuple #[.agg #[a, b], .bool ((walkB ar rs t st n).2.2)] : Value) = v ∧ (IntsF F' a (walkB ar rs t st n).1) ∧ (StepsF F' b (walkB ar rs t st n).2.1) ∧ L = L') := by
 refine Does.of_X func123 rfl rfl rfl ?_
 refine X.seq (X.region ?_)
 refine cX (XOp.box [arv, rsv] rfl rfl ?_)
 intro b1
 refine cX (XOp.alloc [(.slice none 0 0), (.slice none 0 0)] zeroValue60 rfl ?_)
 intro b2
 refine XL.as (.bool (false)) rfl ?_
 refine XL.nil (X.seq (X.seq (X.region ?_)))
 refine cX (XOp.loadN [arv, rsv] isAgg29 sizeOf29 rfl rfl (Rd.ownN [_] rfl rfl) ?_)
 refine XL.mv (tv) rfl ?_
 refine XL.mv (.int .i64 (st)) rfl ?_
 refine cX (XOp.call (args := [.agg #[arv, rsv], tv, .int .i64 (st)]) call150 rfl (l8Right_spec (st := st) har hrs ht (hla := (by first | assumption | rfl | omega | simp)) (hlr := (by first | assumption | rfl | omega | simp)) (hrb := (by first | assumption | rfl | omega | simp)) (hlt := (by first | assumption | rfl | omega | simp))) ?_)
 rintro _ _ _ _ ⟨rfl, rfl, rfl⟩
 refine cX (XOp.notB (b := (rightB ar rs t && decide (1 ≤ st ∧ st ≤ 3))) rfl ?_)
 refine XL.mv (.bool (!((rightB ar rs t && decide (1 ≤ st ∧ st ≤ 3))))) rfl ?_
 by_cases h1 : (!((rightB ar rs t && decide (1 ≤ st ∧ st ≤ 3)))) = true
 ·refine XL.no (t := 22) rfl (vB h1) ?_
  refine XL.no (t := 22) rfl (vB h1) ?_
  refine XL.no (t := 22) rfl (vB h1) ?_
  refine cX (XOp.pickT (.bool (true)) (vB h1) rfl ?_)
  refine XL.nil ?_
  refine X.condT rfl ?_
  refine X.seq (X.region ?_)
  refine cX (XOp.build [(.slice none 0 0), (.slice none 0 0)] [(.slice none 0 0), (.slice none 0 0)] [(0, 1), (1, 1)] [] runUnderlying60 zeroValue60 rfl (.cons rfl sizeOf24 (.cons rfl sizeOf45 PlacesAre.nil)) rfl CellsAre.nil ?_)
  refine cX (XOp.storeN (vs := [(.slice none 0 0), (.slice none 0 0)]) [] _ [(.slice none 0 0), (.slice none 0 0)] sizeOf60 rfl rfl rfl (ones_cons rfl (ones_cons rfl ones_nil)) rfl rfl rfl ?_)
  refine XL.as (.bool (false)) rfl ?_
  refine XL.nil ?_
  refine X.ret (thenQ_ret (retEnd (L' := L) [.agg #[(.slice none 0 0), (.slice none 0 0)], .bool (false)] (.tuple #[.agg #[(.slice none 0 0), (.slice none 0 0)], .bool (false)]) (.cell rfl (loadNV [(.slice none 0 0), (.slice none 0 0)] isAgg60 sizeOf60 rfl (Rd.ownN [] rfl rfl)) (.tmp rfl .nil)) rfl rF rF (sD (sD sR)) ?_))
  have hw : walkB ar rs t st n = ([], [], false) := walkB_no (by rw [wOk]; cases hx : (rightB ar rs t && decide (1 ≤ st ∧ st ≤ 3)) <;> simp_all <;> (intros; omega))
  exact ⟨_, _, by rw [hw], by rw [hw]; exact IntsF.nilV, by rw [hw]; exact SlOf.nilV, rfl⟩
 rw [Bool.not_eq_true] at h1
 have hri : rightB ar rs t = true ∧ (1 ≤ st ∧ st ≤ 3) := by simpa using h1
 have hsys := (right_iff.1 hri.1).1
 have ho := (right_iff.1 hri.1).2
 have htl := termOk_len ho
 refine XL.yes (t := 22) rfl (vB h1) (XOp.move (.int .i64 (n)) rfl ?_)
 refine XL.yes (t := 22) rfl (vB h1) (XOp.call (args := [.int .i64 (n), .int .i64 (0), .int .i64 (60)]) call122 rfl (l1In_spec (n := n) (a := 0) (b := 60)) ?_)
 rintro _ _ _ _ ⟨rfl, rfl, rfl⟩
 refine XL.yes (t := 22) rfl (vB h1) (XOp.notD (p := 0 ≤ n ∧ n ≤ 60) rfl ?_)
 refine cX (XOp.pickF (.bool (decide (¬(0 ≤ n ∧ n ≤ 60)))) (vB h1) rfl ?_)
 refine XL.nil ?_
 refine X.condD (p := ¬(0 ≤ n ∧ n ≤ 60)) rfl (fun h2 => ?_) (fun h2 => ?_)
 ·refine X.seq (X.region ?_)
  refine cX (XOp.build [(.slice none 0 0), (.slice none 0 0)] [(.slice none 0 0), (.slice none 0 0)] [(0, 1), (1, 1)] [] runUnderlying60 zeroValue60 rfl (.cons rfl sizeOf24 (.cons rfl sizeOf45 PlacesAre.nil)) rfl CellsAre.nil ?_)
  refine cX (XOp.storeN (vs := [(.slice none 0 0), (.slice none 0 0)]) [] _ [(.slice none 0 0), (.slice none 0 0)] sizeOf60 rfl rfl rfl (ones_cons rfl (ones_cons rfl ones_nil)) rfl rfl rfl ?_)
  refine XL.as (.bool (false)) rfl ?_
  refine XL.nil ?_
  refine X.ret (thenQ_ret (retEnd (L' := L) [.agg #[(.slice none 0 0), (.slice none 0 0)], .bool (false)] (.tuple #[.agg #[(.slice none 0 0), (.slice none 0 0)], .bool (false)]) (.cell rfl (loadNV [(.slice none 0 0), (.slice none 0 0)] isAgg60 sizeOf60 rfl (Rd.ownN [] rfl rfl)) (.tmp rfl .nil)) rfl rF rF (sD (sD sR)) ?_))
  have hw : walkB ar rs t st n = ([], [], false) := walkB_no (by rw [wOk]; cases hx : (rightB ar rs t && decide (1 ≤ st ∧ st ≤ 3)) <;> simp_all <;> (intros; omega))
  exact ⟨_, _, by rw [hw], by rw [hw]; exact IntsF.nilV, by rw [hw]; exact SlOf.nilV, rfl⟩
 refine X.skip (X.seq (X.region ?_))
 refine XL.mv (tv) rfl ?_
 refine cX (XOp.frzF <| XOp.call (args := [tv]) call141 rfl (l1Copy_spec ht (hlt := (by first | omega | (rw [hu2]; have := termOk_len (stepL_ok hsys hoc (by omega) (by omega) hu); simp only [Option.getD_some]; omega)))) ?_)
 rintro v1 _ _ _ ⟨rfl, hs1, rfl⟩
 refine ⟨_, _, rfl, fun F1 le1 hz1 => ?_⟩
 replace har := har.mono le1
 replace hrs := hrs.mono le1
 replace ht := ht.mono le1
 have hf1 : IntsF F1 v1 ((t)) := intsH.fz (xs := (t)) hz1.fz
 refine cX (XOp.build [v1, (.slice none 0 0)] [(.slice none 0 0), (.slice none 0 0)] [(0, 1), (1, 1)] [(0, [v1])] runUnderlying60 zeroValue60 rfl (.cons rfl sizeOf24 (.cons rfl sizeOf45 PlacesAre.nil)) rfl (.cons (cells_one (IntsF.isSl hf1)) CellsAre.nil) ?_)
 refine cX (XOp.alloc [(.slice none 0 0), (.slice none 0 0)] zeroValue60 rfl ?_)
 intro b3
 refine cX (XOp.storeN (vs := [v1, (.slice none 0 0)]) [] _ [v1, (.slice none 0 0)] sizeOf60 rfl rfl rfl (ones_cons (one_sl (IntsF.isSl hf1)) (ones_cons rfl ones_nil)) rfl rfl rfl ?_)
 refine XL.nil (X.seq (X.region ?_))
 refine XL.mv (tv) rfl ?_
 refine cX (XOp.frzF <| XOp.call (args := [tv]) call141 rfl (l1Copy_spec ht (hlt := (by first | omega | (rw [hu2]; have := termOk_len (stepL_ok hsys hoc (by omega) (by omega) hu); simp only [Option.getD_some]; omega)))) ?_)
 rintro v2 _ _ _ ⟨rfl, hs2, rfl⟩
 refine ⟨_, _, rfl, fun F2 le2 hz2 => ?_⟩
 replace har := har.mono le2
 replace hrs := hrs.mono le2
 replace hf1 := hf1.mono le2
 have hf2 : IntsF F2 v2 ((t)) := intsH.fz (xs := (t)) hz2.fz
 refine XL.as (v2) rfl ?_
 refine XL.nil (X.seq (X.block ?_))
 refine X.loop (α := Value × List Int × Value × List StepT × FH) (fun xQ => [(2, .int .i64 (st)), (3, .int .i64 (n)), (4, ptr b1 0), (8, ptr b2 0), (10, ptr b3 0), (11, xQ.1)]) (fun xQ => stepsH 48 xQ.2.2.2.2 xQ.2.2.1 xQ.2.2.2.1 :: cellsH b3 [v1, xQ.2.2.1] 60 :: cellsH b2 [(.slice none 0 0), (.slice none 0 0)] 60 :: cellsH b1 [arv, rsv] 29 :: L) (fun xQ F' => xQ.2.2.2.2 = F' ∧ F2 ≤ xQ.2.2.2.2 ∧ (IntsF xQ.2.2.2.2 xQ.1 xQ.2.1) ∧ (termOk ar xQ.2.1 = true) ∧ (IsSl xQ.2.2.1) ∧ (xQ.2.2.2.1.length ≤ n.toNat) ∧ ((walkGo ar rs st n.toNat t).1 = xQ.2.2.2.1 ++ (walkGo ar rs st (n.toNat - xQ.2.2.2.1.length) xQ.2.1).1) ∧ ((walkGo ar rs st n.toNat t).2 = (walkGo ar rs st (n.toNat - xQ.2.2.2.1.length) xQ.2.1).2)) (fun xQ => n.toNat - xQ.2.2.2.1.length) (v2, t, (.slice none 0 0), [], F2) ⟨rfl, rfl, rfl, rfl, rfl, rfl, trivial⟩ (coH.addNil none (sC (sC (sC sR)))) ⟨rfl, FLe.refl _, (hf2), (ho), (⟨_, _, _, rfl⟩), (by simp), (rfl), (rfl)⟩ ?_
 rintro ⟨cv, cur, sv, ss, G1⟩ rE _ _ ⟨rfl, leG, hcv, hoc, hsv, hln, hwa, hwb⟩
 show X _ _ _ _ (envs [(2, .int .i64 (st)), (3, .int .i64 (n)), (4, ptr b1 0), (8, ptr b2 0), (10, ptr b3 0), (11, cv)] rE) _ (stepsH 48 G1 sv ss :: cellsH b3 [v1, sv] 60 :: cellsH b2 [(.slice none 0 0), (.slice none 0 0)] 60 :: cellsH b1 [arv, rsv] 29 :: L)
 replace leG : F2 ≤ G1 := leG
 dsimp only at hcv hoc hsv hln hwa hwb
 have hcl := termOk_len hoc
 have leG1 := leG
 replace har := har.mono leG1
 replace hrs := hrs.mono leG1
 replace hf1 := hf1.mono leG1
 refine X.open [] rfl (fun cs1 hc1 => ?_)
 replace hc1 : StepsC G1 cs1 ss := hc1
 refine X.seq (X.seq (X.region ?_))
 refine cX (XOp.fieldP (b := b3) (1) runUnderlying60 rfl sizeOf45 (by decide) rfl rfl ?_)
 refine cX (XOp.load1 (v := sv) isAgg45 rfl (Rd.own [_] rfl rfl) ?_)
 refine cX (XOp.lenS (v := sv) (n := ss.length) runUnderlying45 rfl (SlV.own [] rfl) ?_)
 refine XL.mv (.int .i64 (n)) rfl ?_
 refine cX (XOp.lss (a := (ss.length : Int)) (b := n) rfl rfl ?_)
 refine XL.nil ?_
 refine X.condD (p := ((ss.length : Int) : Int) < n) rfl (fun h3 => ?_) (fun h3 => ?_)
 ·refine X.skip (X.block (X.seq (X.region ?_)))
  refine cX (XOp.loadN [arv, rsv] isAgg29 sizeOf29 rfl rfl (Rd.ownN [_, _, _] rfl rfl) ?_)
  refine XL.mv (cv) rfl ?_
  refine XL.mv (.int .i64 (st)) rfl ?_
  refine cX (XOp.call (args := [.agg #[arv, rsv], cv, .int .i64 (st)]) call151 rfl (sPickBy_spec (st := st) har hrs hcv (hla := (by first | assumption | rfl | omega | simp)) (hlr := (by first | assumption | rfl | omega | simp)) (hrb := (by first | assumption | rfl | omega | simp)) (hlt := (by first | assumption | rfl | omega | simp))) ?_)
  rintro _ _ _ _ ⟨rfl, rfl, rfl⟩
  refine XL.mv (.tuple #[.int .i64 (pickAt ar rs cur st), .int .i64 (pickRule ar rs cur st), .bool (pickB ar rs cur st)]) rfl ?_
  refine cX (XOp.extract (.int .i64 (pickAt ar rs cur st)) rfl rfl ?_)
  refine cX (XOp.extract (.int .i64 (pickRule ar rs cur st)) rfl rfl ?_)
  refine cX (XOp.extract (.bool (pickB ar rs cur st)) rfl rfl ?_)
  refine XL.as (.int .i64 (pickAt ar rs cur st)) rfl ?_
  refine XL.as (.int .i64 (pickRule ar rs cur st)) rfl ?_
  refine XL.as (.bool (pickB ar rs cur st)) rfl ?_
  refine XL.nil (X.seq (X.seq (X.region ?_)))
  refine XL.mv (.bool (pickB ar rs cur st)) rfl ?_
  refine cX (XOp.notB (b := pickB ar rs cur st) rfl ?_)
  refine XL.nil ?_
  refine X.cond (t := !(pickB ar rs cur st)) rfl (fun h4 => ?_) (fun h4 => ?_)
  ·have hpb : pickB ar rs cur st = false := by simpa using h4
   have he : redL ar rs cur = [] := Classical.byContradiction (fun hne => by rw [pickB_iff.2 ⟨right_iff.2 ⟨hsys, hoc⟩, hri.2, hne⟩] at hpb; cases hpb)
   have hend : walkGo ar rs st (n.toNat - ss.length) cur = ([], normalL ar rs cur) := by rw [walk_nil he, normalL, decide_eq_true he]
   refine X.exit (thenQ_exit (blockQ_other (by decide) (thenQ_exit (blockQ_exit ?_))))
   refine X.seq ?_
   refine X.draw [slH 48 3 sv ((ss).length) cs1, cellsH b3 [v1, sv] 60, cellsH b2 [(.slice none 0 0), (.slice none 0 0)] 60, cellsH b1 [arv, rsv] 29] L 4 [[], [], [], []] [[], [], [], [1, 2]] (phiL [fun us v => v = (.agg #[v1, sv] : Value), fun us v => v = (.agg #[arv, rsv] : Value), fun us v => v = cv, fun us v => v = (.bool ((rightB ar rs cur && normalL ar rs cur)) : Value)]) (ownL [fun us v => [], fun us v => [], fun us v => [], fun us v => []]) mixed rfl rfl (by kernel_rfl) ?_ ?_
   ·refine pC (fun vals R hpZ => ?_) ?_
    ·refine XG.op (XOp.loadN [v1, sv] isAgg60 sizeOf60 rfl rfl (Rd.ownN [_] rfl rfl) ?_)
     exact ⟨rfl, rfl, rfl⟩
    refine pC (fun vals R hpZ => ?_) ?_
    ·refine XG.op (XOp.loadN [arv, rsv] isAgg29 sizeOf29 rfl rfl (Rd.ownN [_, _, _] rfl rfl) ?_)
     exact ⟨rfl, rfl, rfl⟩
    refine pC (fun vals R hpZ => ?_) ?_
    ·refine XG.op (XOp.move (cv) rfl ?_)
     exact ⟨rfl, rfl, rfl⟩
    refine pC (fun vals R hpZ => ?_) ?_
    ·rw [eS (l := [(1, (.agg #[arv, rsv] : Value)), (2, cv)]) ⟨hpZ 1 (by decide), hpZ 2 (by decide), trivial⟩]
     refine XG.op (XOp.call (args := [.agg #[arv, rsv], cv]) call32 rfl (sNormalIn_spec har hrs hcv (hla := (by first | assumption | rfl | omega | simp)) (hlr := (by first | assumption | rfl | omega | simp)) (hrb := (by first | assumption | rfl | omega | simp)) (hlt := (by first | assumption | rfl | omega | simp))) ?_)
     rintro _ _ _ _ ⟨rfl, rfl, rfl⟩
     exact ⟨rfl, rfl, rfl⟩
    exact stepsP.nil
   intro vals hphi
   rw [eS (l := [(0, (.agg #[v1, sv] : Value)), (3, (.bool ((rightB ar rs cur && normalL ar rs cur)) : Value))]) ⟨(hphi 0 (by decide)), (hphi 3 (by decide)), trivial⟩]
   show XL _ _ _ _ _ _ _ (slH 48 3 sv ((ss).length) cs1 :: cellsH b3 [v1, sv] 60 :: cellsH b2 [(.slice none 0 0), (.slice none 0 0)] 60 :: cellsH b1 [arv, rsv] 29 :: L)
   refine cX (XOp.storeN (vs := [v1, sv]) [_, _] _ [v1, sv] sizeOf60 rfl rfl rfl (ones_cons (one_sl (IntsF.isSl hf1)) (ones_cons (one_sl hsv) ones_nil)) rfl rfl rfl ?_)
   refine XL.as (.bool ((rightB ar rs cur && normalL ar rs cur))) rfl ?_
   refine XL.nil ?_
   refine X.freezeF [] _ _ rfl (fun F3 le3 hz3 => ?_)
   replace har := har.mono le3
   replace hrs := hrs.mono le3
   replace hf1 := hf1.mono le3
   replace hcv := hcv.mono le3
   replace hc1 := hc1.mono le3
   have hf3 : StepsF F3 sv ss := CO.fz hc1 (by first | rfl | simp | omega) hz3.fz
   refine X.ret (retEnd (L' := L) [.agg #[v1, sv], .bool ((rightB ar rs cur && normalL ar rs cur))] (.tuple #[.agg #[v1, sv], .bool ((rightB ar rs cur && normalL ar rs cur))]) (.cell rfl (loadNV [v1, sv] isAgg60 sizeOf60 rfl (Rd.ownN [_] rfl rfl)) (.tmp rfl .nil)) rfl (FLe.trans (FLe.trans (FLe.trans le1 le2) leG1) le3) rF (sD (sD (sD sR))) ?_)
   have hw := walkB_yes (ar := ar) (rs := rs) (t := t) (st := st) (n := n) (by rw [wOk]; simp [hri, hri.2]; omega)
   have e : walkGo ar rs st n.toNat t = (ss, normalL ar rs cur) := Prod.ext (by rw [hwa, hend]; simp) (by rw [hwb, hend])
   have hrc : rightB ar rs cur = true := right_iff.2 ⟨hsys, hoc⟩
   exact ⟨_, _, by rw [hw, e, hrc, Bool.true_and], by rw [hw]; exact hf1, by rw [hw, e]; exact hf3, rfl⟩
  have hpb : pickB ar rs cur st = true := by simpa using h4
  have hne := (pickB_iff.1 hpb).2.2
  have hpa : pickAt ar rs cur st = pickL ar rs cur st := by rw [pickAt, if_pos hpb]
  have hpr : pickRule ar rs cur st = ruleAtL ar rs cur (pickL ar rs cur st).toNat := by rw [pickRule, if_pos hpb]
  obtain ⟨q, hq1, hq2, hq3, _⟩ := (pick_spec (ar := ar) (rs := rs) (t := cur) st).resolve_left (fun h => hne h.2)
  have hpn : (pickL ar rs cur st).toNat = q := by omega
  have hrr : 0 ≤ ruleAtL ar rs cur (pickL ar rs cur st).toNat := by rw [hpn]; simpa [hasR] using hq3
  obtain ⟨k, hk1, hk2, _⟩ := (M.ruleAt_spec (ar := ar) (rs := rs) (t := cur) (p := (pickL ar rs cur st).toNat)).resolve_left (by omega)
  refine X.skip (X.seq (X.region ?_))
  refine cX (XOp.loadN [arv, rsv] isAgg29 sizeOf29 rfl rfl (Rd.ownN [_, _, _] rfl rfl) ?_)
  refine XL.mv (cv) rfl ?_
  refine XL.mv (.int .i64 (pickAt ar rs cur st)) rfl ?_
  refine XL.mv (.int .i64 (pickRule ar rs cur st)) rfl ?_
  refine cX (XOp.call (args := [.agg #[arv, rsv], cv, .int .i64 (((pickAt ar rs cur st).toNat : Nat) : Int), .int .i64 (((pickRule ar rs cur st).toNat : Nat) : Int)]) call118 (by rw [show (((pickAt ar rs cur st).toNat : Nat) : Int) = pickAt ar rs cur st from by omega, show (((pickRule ar rs cur st).toNat : Nat) : Int) = pickRule ar rs cur st from by omega]; rfl) (l7Step_spec (p := (pickAt ar rs cur st).toNat) (r := (pickRule ar rs cur st).toNat) har hrs hcv (hsys := (by first | assumption | rfl | omega | simp)) (ho := (by first | assumption | rfl | omega | simp)) (hp := (by first | assumption | rfl | omega | simp)) (hr := (by first | assumption | rfl | omega | simp))) ?_)
  rintro _ F4 _ le4 ⟨x1, rfl, hr1, rfl⟩
  replace har := har.mono le4
  replace hrs := hrs.mono le4
  replace hf1 := hf1.mono le4
  replace hcv := hcv.mono le4
  replace hc1 := hc1.mono le4
  refine XL.mv (.tuple #[x1, .bool ((stepL ar rs cur ((pickAt ar rs cur st).toNat) ((pickRule ar rs cur st).toNat)).isSome)]) rfl ?_
  refine cX (XOp.extract (x1) rfl rfl ?_)
  refine cX (XOp.extract (.bool ((stepL ar rs cur ((pickAt ar rs cur st).toNat) ((pickRule ar rs cur st).toNat)).isSome)) rfl rfl ?_)
  refine XL.as (x1) rfl ?_
  refine XL.as (.bool ((stepL ar rs cur ((pickAt ar rs cur st).toNat) ((pickRule ar rs cur st).toNat)).isSome)) rfl ?_
  refine XL.nil (X.seq (X.seq (X.region ?_)))
  refine XL.mv (.bool ((stepL ar rs cur ((pickAt ar rs cur st).toNat) ((pickRule ar rs cur st).toNat)).isSome)) rfl ?_
  refine cX (XOp.notB (b := (stepL ar rs cur ((pickAt ar rs cur st).toNat) ((pickRule ar rs cur st).toNat)).isSome) rfl ?_)
  refine XL.nil ?_
  refine X.cond (t := !((stepL ar rs cur ((pickAt ar rs cur st).toNat) ((pickRule ar rs cur st).toNat)).isSome)) rfl (fun h5 => ?_) (fun h5 => ?_)
  ·have hu : (stepL ar rs cur (pickL ar rs cur st).toNat (ruleAtL ar rs cur (pickL ar rs cur st).toNat).toNat).isSome = false := by rw [← hpr, ← hpa]; simpa using h5
   have hend : walkGo ar rs st (n.toNat - ss.length) cur = ([], normalL ar rs cur) := by rw [walk_stuck (by omega) hne hu, normalL, decide_eq_false hne]
   refine X.exit (thenQ_exit (blockQ_other (by decide) (thenQ_exit (blockQ_exit ?_))))
   refine X.seq ?_
   refine X.draw [slH 48 3 sv ((ss).length) cs1, cellsH b3 [v1, sv] 60, cellsH b2 [(.slice none 0 0), (.slice none 0 0)] 60, cellsH b1 [arv, rsv] 29] L 4 [[], [], [], []] [[], [], [], [1, 2]] (phiL [fun us v => v = (.agg #[v1, sv] : Value), fun us v => v = (.agg #[arv, rsv] : Value), fun us v => v = cv, fun us v => v = (.bool ((rightB ar rs cur && normalL ar rs cur)) : Value)]) (ownL [fun us v => [], fun us v => [], fun us v => [], fun us v => []]) mixed rfl rfl (by kernel_rfl) ?_ ?_
   ·refine pC (fun vals R hpZ => ?_) ?_
    ·refine XG.op (XOp.loadN [v1, sv] isAgg60 sizeOf60 rfl rfl (Rd.ownN [_] rfl rfl) ?_)
     exact ⟨rfl, rfl, rfl⟩
    refine pC (fun vals R hpZ => ?_) ?_
    ·refine XG.op (XOp.loadN [arv, rsv] isAgg29 sizeOf29 rfl rfl (Rd.ownN [_, _, _] rfl rfl) ?_)
     exact ⟨rfl, rfl, rfl⟩
    refine pC (fun vals R hpZ => ?_) ?_
    ·refine XG.op (XOp.move (cv) rfl ?_)
     exact ⟨rfl, rfl, rfl⟩
    refine pC (fun vals R hpZ => ?_) ?_
    ·rw [eS (l := [(1, (.agg #[arv, rsv] : Value)), (2, cv)]) ⟨hpZ 1 (by decide), hpZ 2 (by decide), trivial⟩]
     refine XG.op (XOp.call (args := [.agg #[arv, rsv], cv]) call32 rfl (sNormalIn_spec har hrs hcv (hla := (by first | assumption | rfl | omega | simp)) (hlr := (by first | assumption | rfl | omega | simp)) (hrb := (by first | assumption | rfl | omega | simp)) (hlt := (by first | assumption | rfl | omega | simp))) ?_)
     rintro _ _ _ _ ⟨rfl, rfl, rfl⟩
     exact ⟨rfl, rfl, rfl⟩
    exact stepsP.nil
   intro vals hphi
   rw [eS (l := [(0, (.agg #[v1, sv] : Value)), (3, (.bool ((rightB ar rs cur && normalL ar rs cur)) : Value))]) ⟨(hphi 0 (by decide)), (hphi 3 (by decide)), trivial⟩]
   show XL _ _ _ _ _ _ _ (slH 48 3 sv ((ss).length) cs1 :: cellsH b3 [v1, sv] 60 :: cellsH b2 [(.slice none 0 0), (.slice none 0 0)] 60 :: cellsH b1 [arv, rsv] 29 :: L)
   refine cX (XOp.storeN (vs := [v1, sv]) [_, _] _ [v1, sv] sizeOf60 rfl rfl rfl (ones_cons (one_sl (IntsF.isSl hf1)) (ones_cons (one_sl hsv) ones_nil)) rfl rfl rfl ?_)
   refine XL.as (.bool ((rightB ar rs cur && normalL ar rs cur))) rfl ?_
   refine XL.nil ?_
   refine X.freezeF [] _ _ rfl (fun F5 le5 hz4 => ?_)
   replace har := har.mono le5
   replace hrs := hrs.mono le5
   replace hf1 := hf1.mono le5
   replace hcv := hcv.mono le5
   replace hc1 := hc1.mono le5
   replace hr1 := hr1.mono le5
   have hf4 : StepsF F5 sv ss := CO.fz hc1 (by first | rfl | simp | omega) hz4.fz
   refine X.ret (retEnd (L' := L) [.agg #[v1, sv], .bool ((rightB ar rs cur && normalL ar rs cur))] (.tuple #[.agg #[v1, sv], .bool ((rightB ar rs cur && normalL ar rs cur))]) (.cell rfl (loadNV [v1, sv] isAgg60 sizeOf60 rfl (Rd.ownN [_] rfl rfl)) (.tmp rfl .nil)) rfl (FLe.trans (FLe.trans (FLe.trans (FLe.trans le1 le2) leG1) le4) le5) rF (sD (sD (sD sR))) ?_)
   have hw := walkB_yes (ar := ar) (rs := rs) (t := t) (st := st) (n := n) (by rw [wOk]; simp [hri, hri.2]; omega)
   have e : walkGo ar rs st n.toNat t = (ss, normalL ar rs cur) := Prod.ext (by rw [hwa, hend]; simp) (by rw [hwb, hend])
   have hrc : rightB ar rs cur = true := right_iff.2 ⟨hsys, hoc⟩
   exact ⟨_, _, by rw [hw, e, hrc, Bool.true_and], by rw [hw]; exact hf1, by rw [hw, e]; exact hf4, rfl⟩
  obtain ⟨u, hu⟩ := Option.isSome_iff_exists.1 (show (stepL ar rs cur (pickL ar rs cur st).toNat (ruleAtL ar rs cur (pickL ar rs cur st).toNat).toNat).isSome = true from by rw [← hpr, ← hpa]; simpa using h5)
  have hu2 : stepL ar rs cur (pickAt ar rs cur st).toNat (pickRule ar rs cur st).toNat = some u := by rw [hpa, hpr]; exact hu
  refine X.skip (X.seq (X.region ?_))
  refine cX (XOp.fieldP (b := b3) (1) runUnderlying60 rfl sizeOf45 (by decide) rfl rfl ?_)
  refine cX (XOp.load1 (v := sv) isAgg45 rfl (Rd.own [_] rfl rfl) ?_)
  refine XL.mv (.int .i64 (pickAt ar rs cur st)) rfl ?_
  refine XL.mv (.int .i64 (pickRule ar rs cur st)) rfl ?_
  refine XL.mv (x1) rfl ?_
  refine cX (XOp.build [.int .i64 (pickAt ar rs cur st), .int .i64 (pickRule ar rs cur st), x1] [.int .i64 (0), .int .i64 (0), (.slice none 0 0)] [(0, 1), (1, 1), (2, 1)] [(0, [.int .i64 (pickAt ar rs cur st)]), (1, [.int .i64 (pickRule ar rs cur st)]), (2, [x1])] runUnderlying48 zeroValue48 rfl (.cons rfl sizeOf2 (.cons rfl sizeOf2 (.cons rfl sizeOf24 PlacesAre.nil))) rfl (.cons rfl (.cons rfl (.cons (cells_one (IntsF.isSl hr1)) CellsAre.nil))) ?_)
  refine cX (XOp.buildSlice (s := 3) [.int .i64 (pickAt ar rs cur st), .int .i64 (pickRule ar rs cur st), x1] [.int .i64 (0), .int .i64 (0), (.slice none 0 0)] [(0, [.int .i64 (pickAt ar rs cur st), .int .i64 (pickRule ar rs cur st), x1])] runUnderlying45 sizeOf48 zeroValue48 rfl (by decide) rfl (.cons rfl CellsAre.nil) rfl ?_)
  intro v3 hv1
  refine cX (XOp.append (m := 1) (bytes := 40) (cs := cs1) [_] _ [.int .i64 (pickAt ar rs cur st), .int .i64 (pickRule ar rs cur st), x1] runUnderlying45 typeInfo48 rfl rfl rfl rfl rfl rfl rfl (SlV.own [] rfl) rfl (Rd.lit [] rfl) (ones_cons rfl (ones_cons rfl (ones_cons (one_sl (IntsF.isSl hr1)) ones_nil))) (by (try simp only [List.length_append, List.length_nil, List.length_cons, List.length_singleton]); omega) (by (try simp only [List.length_append, List.length_nil, List.length_cons, List.length_singleton]); omega) ?_)
  intro v4 hs3 hn1 hm1
  have hc2 := StepsC.snoc hc1 (i := pickAt ar rs cur st) (j := pickRule ar rs cur st) hr1
  refine cX (XOp.fieldP (b := b3) (1) runUnderlying60 rfl sizeOf45 (by decide) rfl rfl ?_)
  refine cX (XOp.store1 (v := v4) [_, _] _ [v1, v4] sizeOf45 rfl rfl (one_sl hs3) rfl rfl rfl ?_)
  refine XL.nil (X.region ?_)
  refine XL.mv (x1) rfl ?_
  refine cX (XOp.frzF <| XOp.call (args := [x1]) call141 rfl (l1Copy_spec hr1 (hlt := (by first | omega | (rw [hu2]; have := termOk_len (stepL_ok hsys hoc (by omega) (by omega) hu); simp only [Option.getD_some]; omega)))) ?_)
  rintro v5 _ _ _ ⟨rfl, hs4, rfl⟩
  refine ⟨_, _, rfl, fun F6 le6 hz5 => ?_⟩
  replace har := har.mono le6
  replace hrs := hrs.mono le6
  replace hf1 := hf1.mono le6
  replace hcv := hcv.mono le6
  replace hc1 := hc1.mono le6
  replace hc2 := hc2.mono le6
  have hf5 : IntsF F6 v5 ((((stepL ar rs cur ((pickAt ar rs cur st).toNat) ((pickRule ar rs cur st).toNat)).getD []))) := intsH.fz (xs := (((stepL ar rs cur ((pickAt ar rs cur st).toNat) ((pickRule ar rs cur st).toNat)).getD []))) hz5.fz
  refine XL.as (v5) rfl ?_
  refine XL.nil ?_
  exact ⟨(v5, (((stepL ar rs cur ((pickAt ar rs cur st).toNat) ((pickRule ar rs cur st).toNat)).getD [])), v4, ss ++ [(pickAt ar rs cur st, pickRule ar rs cur st, (stepL ar rs cur ((pickAt ar rs cur st).toNat) ((pickRule ar rs cur st).toNat)).getD [])], F6), _, (FLe.trans (FLe.trans leG1 le4) le6), rF, ⟨rfl, rfl, rfl, rfl, rfl, rfl, trivial⟩, (sD (coH.close hc2 (by first | rfl | simp) (sC (sC (sC sR))))), ⟨rfl, (FLe.trans (FLe.trans leG1 le4) le6), (hf5), (by dsimp only; rw [hu2]; exact stepL_ok hsys hoc (by omega) (by omega) hu), (hs3), (by dsimp only; rw [List.length_append]; simp only [List.length_singleton]; omega), (by dsimp only; rw [hwa, walk_next (m := n.toNat - ss.length) (by omega) hne hu, hu2, hpa, hpr]; simp only [Option.getD_some, List.length_append, List.length_singleton, List.append_assoc, List.singleton_append]; rw [show n.toNat - ss.length - 1 = n.toNat - (ss.length + 1) from by omega]), (by dsimp only; rw [hwb, walk_next (m := n.toNat - ss.length) (by omega) hne hu, hu2]; simp only [Option.getD_some, List.length_append, List.length_singleton]; rw [show n.toNat - ss.length - 1 = n.toNat - (ss.length + 1) from by omega])⟩, (by dsimp only; rw [List.length_append]; simp only [List.length_singleton]; omega)⟩
 have hend : walkGo ar rs st (n.toNat - ss.length) cur = ([], normalL ar rs cur) := by rw [show n.toNat - ss.length = 0 from by omega]; rfl
 refine X.exit (thenQ_exit (thenQ_exit (blockQ_exit ?_)))
 refine X.seq ?_
 refine X.draw [slH 48 3 sv ((ss).length) cs1, cellsH b3 [v1, sv] 60, cellsH b2 [(.slice none 0 0), (.slice none 0 0)] 60, cellsH b1 [arv, rsv] 29] L 4 [[], [], [], []] [[], [], [], [1, 2]] (phiL [fun us v => v = (.agg #[v1, sv] : Value), fun us v => v = (.agg #[arv, rsv] : Value), fun us v => v = cv, fun us v => v = (.bool ((rightB ar rs cur && normalL ar rs cur)) : Value)]) (ownL [fun us v => [], fun us v => [], fun us v => [], fun us v => []]) mixed rfl rfl (by kernel_rfl) ?_ ?_
 ·refine pC (fun vals R hpZ => ?_) ?_
  ·refine XG.op (XOp.loadN [v1, sv] isAgg60 sizeOf60 rfl rfl (Rd.ownN [_] rfl rfl) ?_)
   exact ⟨rfl, rfl, rfl⟩
  refine pC (fun vals R hpZ => ?_) ?_
  ·refine XG.op (XOp.loadN [arv, rsv] isAgg29 sizeOf29 rfl rfl (Rd.ownN [_, _, _] rfl rfl) ?_)
   exact ⟨rfl, rfl, rfl⟩
  refine pC (fun vals R hpZ => ?_) ?_
  ·refine XG.op (XOp.move (cv) rfl ?_)
   exact ⟨rfl, rfl, rfl⟩
  refine pC (fun vals R hpZ => ?_) ?_
  ·rw [eS (l := [(1, (.agg #[arv, rsv] : Value)), (2, cv)]) ⟨hpZ 1 (by decide), hpZ 2 (by decide), trivial⟩]
   refine XG.op (XOp.call (args := [.agg #[arv, rsv], cv]) call32 rfl (sNormalIn_spec har hrs hcv (hla := (by first | assumption | rfl | omega | simp)) (hlr := (by first | assumption | rfl | omega | simp)) (hrb := (by first | assumption | rfl | omega | simp)) (hlt := (by first | assumption | rfl | omega | simp))) ?_)
   rintro _ _ _ _ ⟨rfl, rfl, rfl⟩
   exact ⟨rfl, rfl, rfl⟩
  exact stepsP.nil
 intro vals hphi
 rw [eS (l := [(0, (.agg #[v1, sv] : Value)), (3, (.bool ((rightB ar rs cur && normalL ar rs cur)) : Value))]) ⟨(hphi 0 (by decide)), (hphi 3 (by decide)), trivial⟩]
 show XL _ _ _ _ _ _ _ (slH 48 3 sv ((ss).length) cs1 :: cellsH b3 [v1, sv] 60 :: cellsH b2 [(.slice none 0 0), (.slice none 0 0)] 60 :: cellsH b1 [arv, rsv] 29 :: L)
 refine cX (XOp.storeN (vs := [v1, sv]) [_, _] _ [v1, sv] sizeOf60 rfl rfl rfl (ones_cons (one_sl (IntsF.isSl hf1)) (ones_cons (one_sl hsv) ones_nil)) rfl rfl rfl ?_)
 refine XL.as (.bool ((rightB ar rs cur && normalL ar rs cur))) rfl ?_
 refine XL.nil ?_
 refine X.freezeF [] _ _ rfl (fun F7 le7 hz6 => ?_)
 replace hf1 := hf1.mono le7
 replace hc1 := hc1.mono le7
 have hf6 : StepsF F7 sv ss := CO.fz hc1 (by first | rfl | simp | omega) hz6.fz
 refine X.ret (retEnd (L' := L) [.agg #[v1, sv], .bool ((rightB ar rs cur && normalL ar rs cur))] (.tuple #[.agg #[v1, sv], .bool ((rightB ar rs cur && normalL ar rs cur))]) (.cell rfl (loadNV [v1, sv] isAgg60 sizeOf60 rfl (Rd.ownN [_] rfl rfl)) (.tmp rfl .nil)) rfl (FLe.trans (FLe.trans (FLe.trans le1 le2) leG1) le7) rF (sD (sD (sD sR))) ?_)
 have hw := walkB_yes (ar := ar) (rs := rs) (t := t) (st := st) (n := n) (by rw [wOk]; simp [hri, hri.2]; omega)
 have e : walkGo ar rs st n.toNat t = (ss, normalL ar rs cur) := Prod.ext (by rw [hwa, hend]; simp) (by rw [hwb, hend])
 have hrc : rightB ar rs cur = true := right_iff.2 ⟨hsys, hoc⟩
 exact ⟨_, _, by rw [hw, e, hrc, Bool.true_and], by rw [hw]; exact hf1, by rw [hw, e]; exact hf6, rfl⟩
end Go.Proofs.Ytmaaifhmhclhdaa
set_option linter.unusedSimpArgs false
set_option linter.unusedVariables false
namespace Go.Proofs.Ytmaaifhmhclhdaa
open Go X M Try
end Go.Proofs.Ytmaaifhmhclhdaa
set_option linter.unusedSimpArgs false
set_option linter.unusedVariables false
namespace Go.Proofs.Ytmaaifhmhclhdaa
open Go X M Try
end Go.Proofs.Ytmaaifhmhclhdaa
set_option linter.unusedSimpArgs false
set_option linter.unusedVariables false
namespace Go.Proofs.Ytmaaifhmhclhdaa
open Go X M Try
end Go.Proofs.Ytmaaifhmhclhdaa
set_option linter.unusedSimpArgs false
set_option linter.unusedVariables false
namespace Go.Proofs.Ytmaaifhmhclhdaa
open Go X M Try
end Go.Proofs.Ytmaaifhmhclhdaa
set_option linter.unusedSimpArgs false
set_option linter.unusedVariables false
namespace Go.Proofs.Ytmaaifhmhclhdaa
open Go X M Try

/- (impl.Walk).end -/
theorem walkEnd_spec {F : FH} {L : List HP} {fv : Value} {f : List Int} (hf : IntsF F fv f) {ssv : Value} {ss : List StepT} (hss : StepsF F ssv ss) (hlss : ss.length ≤ 4000000) :
    Does prog 99 [.agg #[fv, ssv]] F (L) (fun v F' L' => F = F' ∧ ∃ (a : Value), (a : Value) = v ∧ (IntsF F' a (endL f ss)) ∧ L = L') := by
 refine Does.of_X func99 rfl rfl rfl ?_
 refine X.seq (X.region ?_)
 refine cX (XOp.box [fv, ssv] rfl rfl ?_)
 intro b1
 refine XL.as ((.slice none 0 0)) rfl ?_
 refine XL.nil (X.seq (X.seq (X.region ?_)))
 refine cX (XOp.fieldP (b := b1) (1) runUnderlying60 rfl sizeOf45 (by decide) rfl rfl ?_)
 refine cX (XOp.load1 (v := ssv) isAgg45 rfl (Rd.own [] rfl rfl) ?_)
 refine cX (XOp.lenS (v := ssv) (n := (ss).length) runUnderlying45 rfl hss.slv ?_)
 refine XL.as (.int .i64 ((ss.length : Int))) rfl ?_
 refine XL.nil (X.seq (X.region ?_))
 refine XL.mv (.int .i64 ((ss.length : Int))) rfl ?_
 refine cX (XOp.gtr (a := (ss.length : Int)) (b := 0) rfl rfl ?_)
 refine XL.nil ?_
 refine X.condD (p := ((ss.length : Int) : Int) > 0) rfl (fun h1 => ?_) (fun h1 => ?_)
 ·refine X.seq (X.region ?_)
  refine cX (XOp.fieldP (b := b1) (1) runUnderlying60 rfl sizeOf45 (by decide) rfl rfl ?_)
  refine cX (XOp.load1 (v := ssv) isAgg45 rfl (Rd.own [] rfl rfl) ?_)
  refine XL.mv (.int .i64 ((ss.length : Int))) rfl ?_
  refine cX (XOp.subR (a := (ss.length : Int)) (b := 1) (((((ss).length) - 1 : Nat) : Int)) rfl rfl (by omega) (by omega) ?_)
  refine cX (XOp.indexS (v := ssv) (i := ((((ss).length) - 1 : Nat) : Int)) (n := (ss).length) (((ss).length) - 1) runUnderlying45 sizeOf48 rfl rfl rfl hss.slv (by omega) rfl ?_)
  refine cX (XOp.fieldE (v := ssv) ((((ss).length) - 1) * 3 + 2) runUnderlying48 rfl sizeOf24 (by decide) rfl rfl ?_)
  obtain ⟨a1, ha1, hr1, hr2, hr3⟩ := hss.rd (i := ((ss).length) - 1) (by omega)
  refine cX (XOp.load1 (v := a1) isAgg24 rfl (hr3 _) ?_)
  refine XL.as (a1) rfl ?_
  refine XL.nil ?_
  refine X.ret (thenQ_ret (retEnd (L' := L) [a1] (a1) (.tmp rfl .nil) rfl rF rF (sD sR) ?_))
  exact ⟨rfl, _, rfl, by rw [endL, if_neg (by omega)]; exact ha1, rfl⟩
 refine X.skip (X.seq (X.region ?_))
 refine cX (XOp.fieldP (b := b1) (0) runUnderlying60 rfl sizeOf24 (by decide) rfl rfl ?_)
 refine cX (XOp.load1 (v := fv) isAgg24 rfl (Rd.own [] rfl rfl) ?_)
 refine XL.as (fv) rfl ?_
 refine XL.nil ?_
 refine X.ret (retEnd (L' := L) [fv] (fv) (.tmp rfl .nil) rfl rF rF (sD sR) ?_)
 exact ⟨rfl, _, rfl, by rw [endL, if_pos (by omega)]; exact hf, rfl⟩

/- spec.l7End -/
theorem l7End_spec {F : FH} {L : List HP} {fv : Value} {f : List Int} (hf : IntsF F fv f) {ssv : Value} {ss : List StepT} (hss : StepsF F ssv ss) (hlf : f.length ≤ 4000000) (hlss : ss.length ≤ 4000000) (hsb : ∀ i, i < ss.length → (ss.getD i (0, 0, [])).2.2.length ≤ 4000000) :
    Does prog 124 [.agg #[fv, ssv]] F (L) (fun v F' L' => F = F' ∧ IsSl v ∧ intsH 2 v (endL f ss) :: L = L') := by
 refine Does.of_X func124 rfl rfl rfl ?_
 have hsb1 := hsb (ss.length - 1)
 refine X.seq (X.region ?_)
 refine cX (XOp.box [fv, ssv] rfl rfl ?_)
 intro b1
 refine XL.as ((.slice none 0 0)) rfl ?_
 refine XL.nil (X.seq (X.seq (X.region ?_)))
 refine cX (XOp.fieldP (b := b1) (1) runUnderlying60 rfl sizeOf45 (by decide) rfl rfl ?_)
 refine cX (XOp.load1 (v := ssv) isAgg45 rfl (Rd.own [] rfl rfl) ?_)
 refine cX (XOp.lenS (v := ssv) (n := (ss).length) runUnderlying45 rfl hss.slv ?_)
 refine cX (XOp.eql (a := (ss.length : Int)) (b := 0) rfl rfl ?_)
 refine XL.nil ?_
 refine X.condD (p := ((ss.length : Int) : Int) = 0) rfl (fun h1 => ?_) (fun h1 => ?_)
 ·refine X.seq (X.region ?_)
  refine cX (XOp.fieldP (b := b1) (0) runUnderlying60 rfl sizeOf24 (by decide) rfl rfl ?_)
  refine cX (XOp.load1 (v := fv) isAgg24 rfl (Rd.own [] rfl rfl) ?_)
  refine cX (XOp.call (args := [fv]) call141 rfl (l1Copy_spec hf (hlt := (by first | assumption | rfl | omega | simp))) ?_)
  rintro v1 _ _ _ ⟨rfl, hs1, rfl⟩
  refine XL.as (v1) rfl ?_
  refine XL.nil ?_
  refine X.ret (thenQ_ret (retEnd (L' := intsH 2 v1 ((f)) :: L) [v1] (v1) (.tmp rfl .nil) rfl rF rF (sC (sD sR)) ?_))
  refine ⟨rfl, hs1, ?_⟩
  have hxs : (endL f ss : List Int) = (f) := by rw [endL, if_pos (by omega)]
  exact congrArg (fun z => intsH 2 _ z :: L) hxs
 refine X.skip (X.seq (X.region ?_))
 refine cX (XOp.fieldP (b := b1) (1) runUnderlying60 rfl sizeOf45 (by decide) rfl rfl ?_)
 refine cX (XOp.load1 (v := ssv) isAgg45 rfl (Rd.own [] rfl rfl) ?_)
 refine cX (XOp.fieldP (b := b1) (1) runUnderlying60 rfl sizeOf45 (by decide) rfl rfl ?_)
 refine cX (XOp.load1 (v := ssv) isAgg45 rfl (Rd.own [] rfl rfl) ?_)
 refine cX (XOp.lenS (v := ssv) (n := (ss).length) runUnderlying45 rfl hss.slv ?_)
 refine cX (XOp.subR (a := (ss.length : Int)) (b := 1) (((((ss).length) - 1 : Nat) : Int)) rfl rfl (by omega) (by omega) ?_)
 refine cX (XOp.indexS (v := ssv) (i := ((((ss).length) - 1 : Nat) : Int)) (n := (ss).length) (((ss).length) - 1) runUnderlying45 sizeOf48 rfl rfl rfl hss.slv (by omega) rfl ?_)
 refine cX (XOp.fieldE (v := ssv) ((((ss).length) - 1) * 3 + 2) runUnderlying48 rfl sizeOf24 (by decide) rfl rfl ?_)
 obtain ⟨a1, ha1, hr1, hr2, hr3⟩ := hss.rd (i := ((ss).length) - 1) (by omega)
 refine cX (XOp.load1 (v := a1) isAgg24 rfl (hr3 _) ?_)
 refine cX (XOp.call (args := [a1]) call141 rfl (l1Copy_spec ha1 (hlt := (by first | assumption | rfl | omega | simp))) ?_)
 rintro v2 _ _ _ ⟨rfl, hs2, rfl⟩
 refine XL.as (v2) rfl ?_
 refine XL.nil ?_
 refine X.ret (retEnd (L' := intsH 2 v2 ((((ss.getD (((ss).length) - 1) (0, 0, [])).2.2))) :: L) [v2] (v2) (.tmp rfl .nil) rfl rF rF (sC (sD sR)) ?_)
 refine ⟨rfl, hs2, ?_⟩
 have hxs : (endL f ss : List Int) = (((ss.getD (((ss).length) - 1) (0, 0, [])).2.2)) := by rw [endL, if_neg (by omega)]
 exact congrArg (fun z => intsH 2 _ z :: L) hxs

/- spec.NormalBy -/
theorem sNormalBy_spec {F : FH} {L : List HP} {arv : Value} {ar : List Int} (har : IntsF F arv ar) {rsv : Value} {rs : List (List Int × List Int)} (hrs : PairsF F rsv rs) {tv : Value} {t : List Int} (ht : IntsF F tv t) {st : Int} {n : Int} (hla : ar.length ≤ 4000000) (hlr : rs.length ≤ 4000000) (hrb : ∀ i, i < rs.length → (rs.getD i ([], [])).1.length ≤ 4000000 ∧ (rs.getD i ([], [])).2.length ≤ 4000000) (hlt : t.length ≤ 4000000) :
    Does prog 75 [.agg #[arv, rsv], tv, .int .i64 (st), .int .i64 (n)] F (L) (fun v F' L' => ∃ (a : Value), (.tuple #[a, .bool ((normB ar rs t st n).2)] : Value) = v ∧ (IntsF F' a (normB ar rs t st n).1) ∧ L = L') := by
 refine Does.of_X func75 rfl rfl rfl ?_
 refine X.seq (X.region ?_)
 refine cX (XOp.box [arv, rsv] rfl rfl ?_)
 intro b1
 refine XL.as ((.slice none 0 0)) rfl ?_
 refine XL.as (.bool (false)) rfl ?_
 refine XL.nil (X.seq (X.region ?_))
 refine cX (XOp.loadN [arv, rsv] isAgg29 sizeOf29 rfl rfl (Rd.ownN [] rfl rfl) ?_)
 refine XL.mv (tv) rfl ?_
 refine XL.mv (.int .i64 (st)) rfl ?_
 refine XL.mv (.int .i64 (n)) rfl ?_
 refine cX (XOp.call (args := [.agg #[arv, rsv], tv, .int .i64 (st), .int .i64 (n)]) call123 rfl (sWalkBy_spec (st := st) (n := n) har hrs ht (hla := (by first | assumption | rfl | omega | simp)) (hlr := (by first | assumption | rfl | omega | simp)) (hrb := (by first | assumption | rfl | omega | simp)) (hlt := (by first | assumption | rfl | omega | simp))) ?_)
 rintro _ F1 _ le1 ⟨x1, x2, rfl, hr1, hr2, rfl⟩
 refine XL.mv (.tuple #[.agg #[x1, x2], .bool ((walkB ar rs t st n).2.2)]) rfl ?_
 refine cX (XOp.extract (.agg #[x1, x2]) rfl rfl ?_)
 refine cX (XOp.extract (.bool ((walkB ar rs t st n).2.2)) rfl rfl ?_)
 refine cX (XOp.alloc [(.slice none 0 0), (.slice none 0 0)] zeroValue60 rfl ?_)
 intro b2
 refine cX (XOp.storeN (vs := [x1, x2]) [] _ [x1, x2] sizeOf60 rfl rfl rfl (ones_cons (one_sl (IntsF.isSl hr1)) (ones_cons (one_sl (StepsF.isSl hr2)) ones_nil)) rfl rfl rfl ?_)
 refine XL.as (.bool ((walkB ar rs t st n).2.2)) rfl ?_
 refine XL.nil (X.seq (X.seq (X.region ?_)))
 refine XL.mv (.bool ((walkB ar rs t st n).2.2)) rfl ?_
 refine cX (XOp.notB (b := (walkB ar rs t st n).2.2) rfl ?_)
 refine XL.nil ?_
 refine X.cond (t := !((walkB ar rs t st n).2.2)) rfl (fun h1 => ?_) (fun h1 => ?_)
 ·have hw2 : (walkB ar rs t st n).2.2 = false := by simpa using h1
  refine X.seq (X.region ?_)
  refine cX (XOp.buildSlice (s := 1) [] [.int .i64 (0)] [] runUnderlying24 sizeOf2 zeroValue2 rfl (by decide) rfl CellsAre.nil rfl ?_)
  intro v1 hv1
  refine XL.as (v1) rfl ?_
  refine XL.as (.bool (false)) rfl ?_
  refine XL.nil ?_
  show X _ _ _ _ _ _ (intsH 2 v1 ([] : List Int) :: cellsH b2 [x1, x2] 60 :: cellsH b1 [arv, rsv] 29 :: L)
  refine X.freezeF [] _ _ rfl (fun F2 le2 hz1 => ?_)
  replace hr1 := hr1.mono le2
  replace hr2 := hr2.mono le2
  have hf1 : IntsF F2 v1 ([]) := intsH.fz (xs := []) hz1.fz
  refine X.ret (thenQ_ret (retEnd (L' := L) [v1, .bool (false)] (.tuple #[v1, .bool (false)]) (.tmp rfl (.tmp rfl .nil)) rfl (FLe.trans le1 le2) rF (sD (sD sR)) ?_))
  have e : normB ar rs t st n = ([], false) := by rw [normB, if_neg (by rw [hw2]; simp)]
  exact ⟨_, by rw [e], by rw [e]; exact hf1, rfl⟩
 have hw2 : (walkB ar rs t st n).2.2 = true := by simpa using h1
 obtain ⟨hw3, hw4, hw5, hw6⟩ := walkB_ok hw2
 have hel : 1 ≤ (endL (walkB ar rs t st n).1 (walkB ar rs t st n).2.1).length ∧ (endL (walkB ar rs t st n).1 (walkB ar rs t st n).2.1).length ≤ 60 := by rw [hw4]; exact termOk_len hw6
 have hwl := walkB_len (ar := ar) (rs := rs) (t := t) (st := st) (n := n)
 refine X.skip (X.seq (X.region ?_))
 refine cX (XOp.loadN [x1, x2] isAgg60 sizeOf60 rfl rfl (Rd.ownN [] rfl rfl) ?_)
 refine cX (XOp.frzF <| XOp.call (args := [.agg #[x1, x2]]) call124 rfl (l7End_spec hr1 hr2 (hlf := (by rw [hw4]; exact hlt)) (hlss := (by first | assumption | rfl | omega | simp)) (hsb := (fun i hi => by have := termOk_len (walkOk_to hw5 hi); omega))) ?_)
 rintro v2 _ _ _ ⟨rfl, hs1, rfl⟩
 refine ⟨_, _, rfl, fun F3 le3 hz2 => ?_⟩
 have hf2 : IntsF F3 v2 ((endL ((walkB ar rs t st n).1) ((walkB ar rs t st n).2.1))) := intsH.fz (xs := (endL ((walkB ar rs t st n).1) ((walkB ar rs t st n).2.1))) hz2.fz
 refine XL.as (v2) rfl ?_
 refine XL.as (.bool (true)) rfl ?_
 refine XL.nil ?_
 refine X.ret (retEnd (L' := L) [v2, .bool (true)] (.tuple #[v2, .bool (true)]) (.tmp rfl (.tmp rfl .nil)) rfl (FLe.trans le1 le3) rF (sD (sD sR)) ?_)
 have e : normB ar rs t st n = (endL (walkB ar rs t st n).1 (walkB ar rs t st n).2.1, true) := by rw [normB, if_pos hw2]
 exact ⟨_, by rw [e], by rw [e]; exact hf2, rfl⟩
end Go.Proofs.Ytmaaifhmhclhdaa
set_option linter.unusedSimpArgs false
set_option linter.unusedVariables false
namespace Go.Proofs.Ytmaaifhmhclhdaa
open Go X M Try

/- impl.wordOk$1 -/
theorem wordOk1_spec {F : FH} {L : List HP} {tv : Value} {t : List Int} (ht : IntsF F tv t) {arv : Value} {ar : List Int} (har : IntsF F arv ar) {rsv : Value} {rs : List (List Int × List Int)} (hrs : PairsF F rsv rs) {b : Nat} (hzb : FzC F b [arv, rsv]) :
    Does prog 120 [tv, ptr b 0] F (L) (fun v F' L' => (.bool (!(termOk ar t)) : Value) = v ∧ F = F' ∧ L = L') := by
 refine Does.of_X func120 rfl rfl rfl ?_
 refine X.seq (X.region ?_)
 refine XL.as (.bool (false)) rfl ?_
 refine XL.nil (X.seq (X.region ?_))
 refine cX (XOp.fieldP (b := b) (0) runUnderlying29 rfl sizeOf26 (by decide) rfl rfl ?_)
 refine cX (XOp.loadN [arv] isAgg26 sizeOf26 rfl rfl (FzC.rdN (o := 0) hzb rfl) ?_)
 refine XL.mv (tv) rfl ?_
 refine cX (XOp.call (args := [.agg #[arv], tv]) call52 rfl (TermOk_spec har ht) ?_)
 rintro _ _ _ _ ⟨rfl, rfl, rfl⟩
 refine cX (XOp.notB (b := termOk ar t) rfl ?_)
 refine XL.as (.bool (!(termOk ar t))) rfl ?_
 refine XL.nil ?_
 refine X.ret (retEnd (L' := L) [.bool (!(termOk ar t))] (.bool (!(termOk ar t))) (.tmp rfl .nil) rfl rF rF sR ?_)
 exact ⟨rfl, rfl, rfl⟩

/- slices.IndexFunc[[][]int64,[]int64] -/
theorem IndexFuncWord_spec {F : FH} {L : List HP} {tsv : Value} {ts : List (List Int)} (hts : RowsF F tsv ts) {arv : Value} {ar : List Int} (har : IntsF F arv ar) {rsv : Value} {rs : List (List Int × List Int)} (hrs : PairsF F rsv rs) {b : Nat} (hzb : FzC F b [arv, rsv]) (hlt : ts.length ≤ 4000000) :
    Does prog 71 [tsv, .func (.func 120) #[] #[ptr b 0]] F (L) (fun v F' L' => (.int .i64 (badIx ar ts) : Value) = v ∧ F = F' ∧ L = L') := by
 refine Does.of_X func71 rfl rfl rfl ?_
 refine X.seq (X.region ?_)
 refine XL.as (.int .i64 (0)) rfl ?_
 refine XL.nil (X.seq (X.seq (X.region ?_)))
 refine XL.mv (tsv) rfl ?_
 refine cX (XOp.lenS (v := tsv) (n := (ts).length) runUnderlying42 rfl hts.slv ?_)
 refine XL.mv (.int .i64 (0)) rfl ?_
 refine XL.nil (X.block ?_)
 refine X.loop (α := Nat) (fun k => [(0, tsv), (1, .func (.func 120) #[] #[ptr b 0]), (7, .int .i64 ((ts.length : Int))), (8, .int .i64 ((k : Int)))]) (fun k => L) (fun k F' => F = F' ∧ (k ≤ ts.length) ∧ (∀ i, i < k → termOk ar (ts.getD i []) = true)) (fun k => ts.length - k) 0 ⟨rfl, rfl, rfl, rfl, trivial⟩ sR ⟨rfl, (by (try dsimp only) <;> omega), (fun i hi => absurd hi (by omega))⟩ ?_
 rintro k rE _ _ ⟨rfl, hk, hall⟩
 show X _ _ _ _ (envs [(0, tsv), (1, .func (.func 120) #[] #[ptr b 0]), (7, .int .i64 ((ts.length : Int))), (8, .int .i64 ((k : Int)))] rE) _ (L)
 refine X.seq (X.region ?_)
 refine cX (XOp.lss (a := (k : Int)) (b := (ts.length : Int)) rfl rfl ?_)
 refine XL.nil (X.seq ?_)
 refine X.condD (p := (k : Int) < (ts.length : Int)) rfl (fun h1 => ?_) (fun h1 => ?_)
 ·refine X.skip (X.seq (X.block (X.seq (X.region ?_))))
  refine XL.mv (.int .i64 ((k : Int))) rfl ?_
  refine XL.as (.int .i64 ((k : Int))) rfl ?_
  refine XL.nil (X.seq (X.region ?_))
  refine XL.mv (.func (.func 120) #[] #[ptr b 0]) rfl ?_
  refine XL.mv (tsv) rfl ?_
  refine XL.mv (.int .i64 ((k : Int))) rfl ?_
  refine cX (XOp.indexS (v := tsv) (i := (k : Int)) (n := (ts).length) k runUnderlying42 sizeOf24 rfl rfl rfl hts.slv (by omega) (Nat.mul_one _) ?_)
  obtain ⟨a1, ha1, hr1⟩ := hts.rd (i := k) (by omega)
  refine cX (XOp.load1 (v := a1) isAgg24 rfl (hr1 _) ?_)
  refine cX (XOp.callV (first := []) (captured := [ptr b 0]) (args := [a1, ptr b 0]) call120 rfl rfl (wordOk1_spec ha1 har hrs hzb) ?_)
  rintro _ _ _ _ ⟨rfl, rfl, rfl⟩
  refine XL.nil ?_
  refine X.cond (t := !(termOk ar ((ts.getD k [])))) rfl (fun h2 => ?_) (fun h2 => ?_)
  ·refine X.seq (X.region ?_)
   refine XL.mv (.int .i64 ((k : Int))) rfl ?_
   refine XL.as (.int .i64 ((k : Int))) rfl ?_
   refine XL.nil ?_
   refine X.ret (blockQ_ret (thenQ_ret (thenQ_ret (blockQ_ret (thenQ_ret (retEnd (L' := L) [.int .i64 ((k : Int))] (.int .i64 ((k : Int))) (.tmp rfl .nil) rfl rF rF sR ?_))))))
   exact ⟨(vI (badIx_at (by omega) (by simp_all) hall)), rfl, rfl⟩
  refine X.skip (X.region ?_)
  refine cX (XOp.addR (a := (k : Int)) (b := 1) (((k + 1 : Nat) : Int)) rfl rfl (by omega) (by omega) ?_)
  refine XL.mv (.int .i64 (((k + 1 : Nat) : Int))) rfl ?_
  refine XL.nil ?_
  exact ⟨k + 1, _, FLe.refl _, rF, ⟨rfl, rfl, rfl, rfl, trivial⟩, sR, ⟨rfl, (by (try dsimp only) <;> omega), (fun i hi => (Nat.lt_or_ge i k).elim (fun h => hall i h) (fun h => by obtain rfl : i = k := (by omega); simp_all))⟩, (by omega)⟩
 refine X.exit (thenQ_exit (thenQ_exit (blockQ_exit ?_)))
 refine X.seq (X.region ?_)
 refine XL.as (.int .i64 (-1)) rfl ?_
 refine XL.nil ?_
 refine X.ret (retEnd (L' := L) [.int .i64 (-1)] (.int .i64 (-1)) (.tmp rfl .nil) rfl rF rF sR ?_)
 exact ⟨(vI (badIx_none (fun i hi => hall i (by omega)))), rfl, rfl⟩

/- slices.ContainsFunc[[][]int64,[]int64] -/
theorem ContainsFuncWord_spec {F : FH} {L : List HP} {tsv : Value} {ts : List (List Int)} (hts : RowsF F tsv ts) {arv : Value} {ar : List Int} (har : IntsF F arv ar) {rsv : Value} {rs : List (List Int × List Int)} (hrs : PairsF F rsv rs) {b : Nat} (hzb : FzC F b [arv, rsv]) (hlt : ts.length ≤ 4000000) :
    Does prog 119 [tsv, .func (.func 120) #[] #[ptr b 0]] F (L) (fun v F' L' => (.bool (decide (badIx ar ts ≥ 0)) : Value) = v ∧ F = F' ∧ L = L') := by
 refine Does.of_X func119 rfl rfl rfl ?_
 refine X.seq (X.region ?_)
 refine XL.as (.bool (false)) rfl ?_
 refine XL.nil (X.seq (X.region ?_))
 refine XL.mv (tsv) rfl ?_
 refine XL.mv (.func (.func 120) #[] #[ptr b 0]) rfl ?_
 refine cX (XOp.call (args := [tsv, .func (.func 120) #[] #[ptr b 0]]) call71 rfl (IndexFuncWord_spec hts har hrs hzb (hlt := (by first | assumption | rfl | omega | simp))) ?_)
 rintro _ _ _ _ ⟨rfl, rfl, rfl⟩
 refine cX (XOp.geq (a := badIx ar ts) (b := 0) rfl rfl ?_)
 refine XL.as (.bool (decide ((badIx ar ts : Int) ≥ 0))) rfl ?_
 refine XL.nil ?_
 refine X.ret (retEnd (L' := L) [.bool (decide ((badIx ar ts : Int) ≥ 0))] (.bool (decide ((badIx ar ts : Int) ≥ 0))) (.tmp rfl .nil) rfl rF rF sR ?_)
 exact ⟨rfl, rfl, rfl⟩

/- impl.wordOk -/
theorem wordOk_spec {F : FH} {L : List HP} {arv : Value} {ar : List Int} (har : IntsF F arv ar) {rsv : Value} {rs : List (List Int × List Int)} (hrs : PairsF F rsv rs) {n : Int} {tsv : Value} {ts : List (List Int)} (hts : RowsF F tsv ts) (hlt : ts.length ≤ 4000000) :
    Does prog 69 [.agg #[arv, rsv], .int .i64 (n), tsv] F (L) (fun v F' L' => (.bool (wordOkL ar rs n ts) : Value) = v ∧ F = F' ∧ L = L') := by
 refine Does.of_X func69 rfl rfl rfl ?_
 refine X.seq (X.region ?_)
 refine cX (XOp.box [arv, rsv] rfl rfl ?_)
 intro b1
 refine XL.as (.bool (false)) rfl ?_
 refine XL.nil (X.seq (X.seq (X.region ?_)))
 refine cX (XOp.loadN [arv, rsv] isAgg29 sizeOf29 rfl rfl (Rd.ownN [] rfl rfl) ?_)
 refine cX (XOp.call (args := [.agg #[arv, rsv]]) call51 rfl (SystemOk_spec har hrs) ?_)
 rintro _ _ _ _ ⟨rfl, rfl, rfl⟩
 refine cX (XOp.notB (b := sysOk ar rs) rfl ?_)
 refine XL.mv (.bool (!(sysOk ar rs))) rfl ?_
 by_cases h1 : (!(sysOk ar rs)) = true
 ·refine XL.no (t := 10) rfl (vB h1) ?_
  refine XL.no (t := 10) rfl (vB h1) ?_
  refine cX (XOp.pickT (.bool (true)) (vB h1) rfl ?_)
  refine XL.mv (.bool (true)) rfl ?_
  refine XL.no (t := 14) rfl rfl ?_
  refine XL.no (t := 14) rfl rfl ?_
  refine cX (XOp.pickT (.bool (true)) rfl rfl ?_)
  refine XL.nil ?_
  refine X.condT rfl ?_
  refine X.seq (X.region ?_)
  refine XL.as (.bool (false)) rfl ?_
  refine XL.nil ?_
  refine X.ret (thenQ_ret (retEnd (L' := L) [.bool (false)] (.bool (false)) (.tmp rfl .nil) rfl rF rF (sD sR) ?_))
  exact ⟨(vB (by unfold wordOkL; simp_all <;> omega)), rfl, rfl⟩
 rw [Bool.not_eq_true] at h1
 refine XL.yes (t := 10) rfl (vB h1) (XOp.move (.int .i64 (n)) rfl ?_)
 refine XL.yes (t := 10) rfl (vB h1) (XOp.lss (a := n) (b := 0) rfl rfl ?_)
 refine cX (XOp.pickF (.bool (decide ((n : Int) < 0))) (vB h1) rfl ?_)
 refine XL.mv (.bool (decide ((n : Int) < 0))) rfl ?_
 by_cases h2 : (n : Int) < 0
 ·refine XL.no (t := 14) rfl (vT h2) ?_
  refine XL.no (t := 14) rfl (vT h2) ?_
  refine cX (XOp.pickT (.bool (true)) (vT h2) rfl ?_)
  refine XL.nil ?_
  refine X.condT rfl ?_
  refine X.seq (X.region ?_)
  refine XL.as (.bool (false)) rfl ?_
  refine XL.nil ?_
  refine X.ret (thenQ_ret (retEnd (L' := L) [.bool (false)] (.bool (false)) (.tmp rfl .nil) rfl rF rF (sD sR) ?_))
  exact ⟨(vB (by unfold wordOkL; simp_all <;> omega)), rfl, rfl⟩
 refine XL.yes (t := 14) rfl (vF h2) (XOp.move (.int .i64 (n)) rfl ?_)
 refine XL.yes (t := 14) rfl (vF h2) (XOp.gtr (a := n) (b := 60) rfl rfl ?_)
 refine cX (XOp.pickF (.bool (decide ((n : Int) > 60))) (vF h2) rfl ?_)
 refine XL.nil ?_
 refine X.condD (p := (n : Int) > 60) rfl (fun h3 => ?_) (fun h3 => ?_)
 ·refine X.seq (X.region ?_)
  refine XL.as (.bool (false)) rfl ?_
  refine XL.nil ?_
  refine X.ret (thenQ_ret (retEnd (L' := L) [.bool (false)] (.bool (false)) (.tmp rfl .nil) rfl rF rF (sD sR) ?_))
  exact ⟨(vB (by unfold wordOkL; simp_all <;> omega)), rfl, rfl⟩
 refine X.skip (X.seq (X.region ?_))
 refine XL.mv (tsv) rfl ?_
 refine cX (XOp.makeFuncL [] [ptr b1 0] rfl rfl ?_)
 refine XL.freeze [] _ _ rfl (fun F1 le1 hz1 => ?_)
 replace har := har.mono le1
 replace hrs := hrs.mono le1
 replace hts := hts.mono le1
 have hf1 : FzC F1 b1 [arv, rsv] := Fz.cells hz1
 refine cX (XOp.call (args := [tsv, .func (.func 120) #[] #[ptr b1 0]]) call119 rfl (ContainsFuncWord_spec hts har hrs hf1 (hlt := (by first | assumption | rfl | omega | simp))) ?_)
 rintro _ _ _ _ ⟨rfl, rfl, rfl⟩
 refine cX (XOp.notD (p := badIx ar ts ≥ 0) rfl ?_)
 refine XL.as (.bool (decide (¬(badIx ar ts ≥ 0)))) rfl ?_
 refine XL.nil ?_
 refine X.ret (retEnd (L' := L) [.bool (decide (¬(badIx ar ts ≥ 0)))] (.bool (decide (¬(badIx ar ts ≥ 0)))) (.tmp rfl .nil) rfl rF le1 sR ?_)
 exact ⟨(vB (by unfold wordOkL; have hb := badIx_iff (ar := ar) (ts := ts); cases hA : ts.all (termOk ar) <;> simp_all <;> omega)), rfl, rfl⟩

/- impl.normalOf -/
theorem normalOf_spec {F : FH} {L : List HP} {arv : Value} {ar : List Int} (har : IntsF F arv ar) {rsv : Value} {rs : List (List Int × List Int)} (hrs : PairsF F rsv rs) {tv : Value} {t : List Int} (ht : IntsF F tv t) {n : Nat} (hsys : sysOk ar rs = true) (ho : termOk ar t = true) (hn : n ≤ 60) :
    Does prog 70 [.agg #[arv, rsv], tv, .int .i64 ((n : Int))] F (L) (fun v F' L' => ∃ (a : Value), (.tuple #[a, .bool ((walkGo ar rs 1 n t).2)] : Value) = v ∧ (IntsF F' a (endL t (walkGo ar rs 1 n t).1)) ∧ L = L') := by
 refine Does.of_X func70 rfl rfl rfl ?_
 have hwl := walkGo_len (ar := ar) (rs := rs) (st := 1) n t
 refine X.seq (X.region ?_)
 refine cX (XOp.box [arv, rsv] rfl rfl ?_)
 intro b1
 refine XL.as ((.slice none 0 0)) rfl ?_
 refine XL.as (.bool (false)) rfl ?_
 refine XL.nil (X.seq (X.region ?_))
 refine cX (XOp.loadN [arv, rsv] isAgg29 sizeOf29 rfl rfl (Rd.ownN [] rfl rfl) ?_)
 refine XL.mv (tv) rfl ?_
 refine XL.mv (.int .i64 ((n : Int))) rfl ?_
 refine cX (XOp.call (args := [.agg #[arv, rsv], tv, .int .i64 (1), .int .i64 (n : Int)]) call121 rfl (walkBy_spec (st := 1) (n := n) har hrs ht (hsys := (by first | assumption | rfl | omega | simp)) (ho := (by first | assumption | rfl | omega | simp)) (hst := (by first | assumption | rfl | omega | simp)) (hn := (by first | assumption | rfl | omega | simp))) ?_)
 rintro _ F1 _ le1 ⟨x1, x2, rfl, hr1, hr2, hr3, rfl⟩
 refine XL.mv (.tuple #[.agg #[x1, x2], .bool ((walkGo ar rs 1 n t).2)]) rfl ?_
 refine cX (XOp.extract (.agg #[x1, x2]) rfl rfl ?_)
 refine cX (XOp.extract (.bool ((walkGo ar rs 1 n t).2)) rfl rfl ?_)
 refine cX (XOp.alloc [(.slice none 0 0), (.slice none 0 0)] zeroValue60 rfl ?_)
 intro b2
 refine cX (XOp.storeN (vs := [x1, x2]) [] _ [x1, x2] sizeOf60 rfl rfl rfl (ones_cons (one_sl (IntsF.isSl hr1)) (ones_cons (one_sl (StepsF.isSl hr2)) ones_nil)) rfl rfl rfl ?_)
 refine XL.as (.bool ((walkGo ar rs 1 n t).2)) rfl ?_
 refine XL.nil (X.seq (X.region ?_))
 refine cX (XOp.loadN [x1, x2] isAgg60 sizeOf60 rfl rfl (Rd.ownN [] rfl rfl) ?_)
 refine cX (XOp.call (args := [.agg #[x1, x2]]) call99 rfl (walkEnd_spec hr1 hr2 (hlss := (by first | assumption | rfl | omega | simp))) ?_)
 rintro _ _ _ _ ⟨rfl, x3, rfl, hr4, rfl⟩
 refine XL.mv (.bool ((walkGo ar rs 1 n t).2)) rfl ?_
 refine XL.as (x3) rfl ?_
 refine XL.as (.bool ((walkGo ar rs 1 n t).2)) rfl ?_
 refine XL.nil ?_
 refine X.ret (retEnd (L' := L) [x3, .bool ((walkGo ar rs 1 n t).2)] (.tuple #[x3, .bool ((walkGo ar rs 1 n t).2)]) (.tmp rfl (.tmp rfl .nil)) rfl le1 rF (sD (sD sR)) ?_)
 exact ⟨_, rfl, hr4, rfl⟩

/- impl.equalBy$1 -/
theorem equalBy1_spec {F : FH} {L : List HP} {tv : Value} {t : List Int} (ht : IntsF F tv t) {arv : Value} {ar : List Int} (har : IntsF F arv ar) {rsv : Value} {rs : List (List Int × List Int)} (hrs : PairsF F rsv rs) {b : Nat} (hzb : FzC F b [arv, rsv]) {n : Nat} {c : Nat} (hzc : FzC F c [.int .i64 ((n : Int))]) (hsys : sysOk ar rs = true) (ho : termOk ar t = true) (hn : n ≤ 60) :
    Does prog 126 [tv, ptr b 0, ptr c 0] F (L) (fun v F' L' => ∃ (a : Value), (.tuple #[a, .bool ((walkGo ar rs 1 n t).2)] : Value) = v ∧ (IntsF F' a (endL t (walkGo ar rs 1 n t).1)) ∧ L = L') := by
 refine Does.of_X func126 rfl rfl rfl ?_
 refine X.seq (X.region ?_)
 refine XL.as ((.slice none 0 0)) rfl ?_
 refine XL.as (.bool (false)) rfl ?_
 refine XL.nil (X.seq (X.region ?_))
 refine cX (XOp.loadN [arv, rsv] isAgg29 sizeOf29 rfl rfl (FzC.rd hzb rfl) ?_)
 refine XL.mv (tv) rfl ?_
 refine cX (XOp.load1 (v := .int .i64 ((n : Int))) isAgg3 rfl (FzC.rd1 hzc rfl) ?_)
 refine cX (XOp.call (args := [.agg #[arv, rsv], tv, .int .i64 (n : Int)]) call70 rfl (normalOf_spec (n := n) har hrs ht (hsys := (by first | assumption | rfl | omega | simp)) (ho := (by first | assumption | rfl | omega | simp)) (hn := (by first | assumption | rfl | omega | simp))) ?_)
 rintro _ F1 _ le1 ⟨x1, rfl, hr1, rfl⟩
 refine cX (XOp.extract (x1) rfl rfl ?_)
 refine cX (XOp.extract (.bool ((walkGo ar rs 1 n t).2)) rfl rfl ?_)
 refine XL.as (x1) rfl ?_
 refine XL.as (.bool ((walkGo ar rs 1 n t).2)) rfl ?_
 refine XL.nil ?_
 refine X.ret (retEnd (L' := L) [x1, .bool ((walkGo ar rs 1 n t).2)] (.tuple #[x1, .bool ((walkGo ar rs 1 n t).2)]) (.tmp rfl (.tmp rfl .nil)) rfl le1 rF sR ?_)
 exact ⟨_, rfl, hr1, rfl⟩

/- impl.both[[]int64] -/
theorem both_spec {F : FH} {L : List HP} {xv : Value} {x : List Int} (hx : IntsF F xv x) {yv : Value} {y : List Int} (hy : IntsF F yv y) {arv : Value} {ar : List Int} (har : IntsF F arv ar) {rsv : Value} {rs : List (List Int × List Int)} (hrs : PairsF F rsv rs) {b : Nat} (hzb : FzC F b [arv, rsv]) {n : Nat} {c : Nat} (hzc : FzC F c [.int .i64 ((n : Int))]) (hsys : sysOk ar rs = true) (hox : termOk ar x = true) (hoy : termOk ar y = true) (hn : n ≤ 60) :
    Does prog 125 [xv, yv, .func (.func 126) #[] #[ptr b 0, ptr c 0]] F (L) (fun v F' L' => ∃ (a : Value), ∃ (d : Value), (.tuple #[a, d, .bool (((walkGo ar rs 1 n x).2 && (walkGo ar rs 1 n y).2))] : Value) = v ∧ (IntsF F' a (endL x (walkGo ar rs 1 n x).1)) ∧ (IntsF F' d (endL y (walkGo ar rs 1 n y).1)) ∧ L = L') := by
 refine Does.of_X func125 rfl rfl rfl ?_
 refine X.seq (X.region ?_)
 refine XL.as ((.slice none 0 0)) rfl ?_
 refine XL.as ((.slice none 0 0)) rfl ?_
 refine XL.as (.bool (false)) rfl ?_
 refine XL.nil (X.seq (X.region ?_))
 refine XL.mv (.func (.func 126) #[] #[ptr b 0, ptr c 0]) rfl ?_
 refine XL.mv (xv) rfl ?_
 refine cX (XOp.callV (first := []) (captured := [ptr b 0, ptr c 0]) (args := [xv, ptr b 0, ptr c 0]) call126 rfl rfl (equalBy1_spec hx har hrs hzb hzc (hsys := (by first | assumption | rfl | omega | simp)) (ho := (by first | assumption | rfl | omega | simp)) (hn := (by first | assumption | rfl | omega | simp))) ?_)
 rintro _ F1 _ le1 ⟨x1, rfl, hr1, rfl⟩
 replace hy := hy.mono le1
 replace har := har.mono le1
 replace hrs := hrs.mono le1
 replace hzb := hzb.mono le1
 replace hzc := hzc.mono le1
 refine XL.mv (.tuple #[x1, .bool ((walkGo ar rs 1 n x).2)]) rfl ?_
 refine cX (XOp.extract (x1) rfl rfl ?_)
 refine cX (XOp.extract (.bool ((walkGo ar rs 1 n x).2)) rfl rfl ?_)
 refine XL.as (x1) rfl ?_
 refine XL.as (.bool ((walkGo ar rs 1 n x).2)) rfl ?_
 refine XL.nil (X.seq (X.region ?_))
 refine XL.mv (.func (.func 126) #[] #[ptr b 0, ptr c 0]) rfl ?_
 refine XL.mv (yv) rfl ?_
 refine cX (XOp.callV (first := []) (captured := [ptr b 0, ptr c 0]) (args := [yv, ptr b 0, ptr c 0]) call126 rfl rfl (equalBy1_spec hy har hrs hzb hzc (hsys := (by first | assumption | rfl | omega | simp)) (ho := (by first | assumption | rfl | omega | simp)) (hn := (by first | assumption | rfl | omega | simp))) ?_)
 rintro _ F2 _ le2 ⟨x2, rfl, hr2, rfl⟩
 replace hr1 := hr1.mono le2
 refine XL.mv (.tuple #[x2, .bool ((walkGo ar rs 1 n y).2)]) rfl ?_
 refine cX (XOp.extract (x2) rfl rfl ?_)
 refine cX (XOp.extract (.bool ((walkGo ar rs 1 n y).2)) rfl rfl ?_)
 refine XL.as (x2) rfl ?_
 refine XL.as (.bool ((walkGo ar rs 1 n y).2)) rfl ?_
 refine XL.nil (X.seq (X.region ?_))
 refine XL.mv (x1) rfl ?_
 refine XL.mv (x2) rfl ?_
 refine XL.mv (.bool ((walkGo ar rs 1 n x).2)) rfl ?_
 refine XL.mv (.bool ((walkGo ar rs 1 n x).2)) rfl ?_
 by_cases h1 : ((walkGo ar rs 1 n x).2) = true
 ·refine XL.yes (t := 28) rfl (vB h1) (XOp.move (.bool ((walkGo ar rs 1 n y).2)) rfl ?_)
  refine cX (XOp.pickT (.bool ((walkGo ar rs 1 n y).2)) (vB h1) rfl ?_)
  refine XL.as (x1) rfl ?_
  refine XL.as (x2) rfl ?_
  refine XL.as (.bool ((walkGo ar rs 1 n y).2)) rfl ?_
  refine XL.nil ?_
  refine X.ret (retEnd (L' := L) [x1, x2, .bool ((walkGo ar rs 1 n y).2)] (.tuple #[x1, x2, .bool ((walkGo ar rs 1 n y).2)]) (.tmp rfl (.tmp rfl (.tmp rfl .nil))) rfl (FLe.trans le1 le2) rF sR ?_)
  exact ⟨_, _, by first | rfl | (rw [‹(walkGo ar rs 1 n x).2 = _›]; rfl), hr1, hr2, rfl⟩
 rw [Bool.not_eq_true] at h1
 refine XL.no (t := 28) rfl (vB h1) ?_
 refine cX (XOp.pickF (.bool (false)) (vB h1) rfl ?_)
 refine XL.as (x1) rfl ?_
 refine XL.as (x2) rfl ?_
 refine XL.as (.bool (false)) rfl ?_
 refine XL.nil ?_
 refine X.ret (retEnd (L' := L) [x1, x2, .bool (false)] (.tuple #[x1, x2, .bool (false)]) (.tmp rfl (.tmp rfl (.tmp rfl .nil))) rfl (FLe.trans le1 le2) rF sR ?_)
 exact ⟨_, _, by first | rfl | (rw [‹(walkGo ar rs 1 n x).2 = _›]; rfl), hr1, hr2, rfl⟩

/- impl.equalBy -/
theorem equalBy_spec {F : FH} {L : List HP} {arv : Value} {ar : List Int} (har : IntsF F arv ar) {rsv : Value} {rs : List (List Int × List Int)} (hrs : PairsF F rsv rs) {av : Value} {a : List Int} (ha : IntsF F av a) {bv : Value} {b : List Int} (hb : IntsF F bv b) {n : Nat} (hsys : sysOk ar rs = true) (hoa : termOk ar a = true) (hob : termOk ar b = true) (hn : n ≤ 60) :
    Does prog 77 [.agg #[arv, rsv], av, bv, .int .i64 ((n : Int))] F (L) (fun v F' L' => (.int .i64 (eqN ar rs a b n) : Value) = v ∧ F = F' ∧ L = L') := by
 refine Does.of_X func77 rfl rfl rfl ?_
 have hwa := walkGo_ok (ar := ar) (rs := rs) (st := 1) n a (right_iff.2 ⟨hsys, hoa⟩)
 have hwb := walkGo_ok (ar := ar) (rs := rs) (st := 1) n b (right_iff.2 ⟨hsys, hob⟩)
 have hla := termOk_len (right_iff.1 hwa.2.1).2
 have hlb := termOk_len (right_iff.1 hwb.2.1).2
 refine X.seq (X.region ?_)
 refine cX (XOp.box [arv, rsv] rfl rfl ?_)
 intro b1
 refine cX (XOp.box [.int .i64 ((n : Int))] rfl rfl ?_)
 intro b2
 refine XL.as (.int .i64 (0)) rfl ?_
 refine XL.nil (X.seq (X.region ?_))
 refine XL.mv (av) rfl ?_
 refine XL.mv (bv) rfl ?_
 refine cX (XOp.makeFuncL [] [ptr b1 0, ptr b2 0] rfl rfl ?_)
 refine XL.freeze [_] _ _ rfl (fun F1 le1 hz1 => ?_)
 replace har := har.mono le1
 replace hrs := hrs.mono le1
 replace ha := ha.mono le1
 replace hb := hb.mono le1
 have hf1 : FzC F1 b1 [arv, rsv] := Fz.cells hz1
 refine XL.freeze [] _ _ rfl (fun F2 le2 hz2 => ?_)
 replace har := har.mono le2
 replace hrs := hrs.mono le2
 replace ha := ha.mono le2
 replace hb := hb.mono le2
 replace hf1 := hf1.mono le2
 have hf2 : FzC F2 b2 [.int .i64 ((n : Int))] := Fz.cells hz2
 refine cX (XOp.call (args := [av, bv, .func (.func 126) #[] #[ptr b1 0, ptr b2 0]]) call125 rfl (both_spec ha hb har hrs hf1 hf2 (hsys := (by first | assumption | rfl | omega | simp)) (hox := (by first | assumption | rfl | omega | simp)) (hoy := (by first | assumption | rfl | omega | simp)) (hn := (by first | assumption | rfl | omega | simp))) ?_)
 rintro _ F3 _ le3 ⟨x1, x2, rfl, hr1, hr2, rfl⟩
 refine XL.mv (.tuple #[x1, x2, .bool (((walkGo ar rs 1 n a).2 && (walkGo ar rs 1 n b).2))]) rfl ?_
 refine cX (XOp.extract (x1) rfl rfl ?_)
 refine cX (XOp.extract (x2) rfl rfl ?_)
 refine cX (XOp.extract (.bool (((walkGo ar rs 1 n a).2 && (walkGo ar rs 1 n b).2))) rfl rfl ?_)
 refine XL.as (x1) rfl ?_
 refine XL.as (x2) rfl ?_
 refine XL.as (.bool (((walkGo ar rs 1 n a).2 && (walkGo ar rs 1 n b).2))) rfl ?_
 refine XL.nil (X.seq (X.block (X.seq (X.region ?_))))
 refine XL.mv (.bool (((walkGo ar rs 1 n a).2 && (walkGo ar rs 1 n b).2))) rfl ?_
 refine cX (XOp.notB (b := ((walkGo ar rs 1 n a).2 && (walkGo ar rs 1 n b).2)) rfl ?_)
 refine XL.as (.bool (!(((walkGo ar rs 1 n a).2 && (walkGo ar rs 1 n b).2)))) rfl ?_
 refine XL.nil ?_
 refine X.cond (t := !(((walkGo ar rs 1 n a).2 && (walkGo ar rs 1 n b).2))) rfl (fun h1 => ?_) (fun h1 => ?_)
 ·refine X.seq (X.region ?_)
  refine XL.as (.int .i64 (-1)) rfl ?_
  refine XL.nil ?_
  refine X.ret (blockQ_ret (thenQ_ret (retEnd (L' := L) [.int .i64 (-1)] (.int .i64 (-1)) (.tmp rfl .nil) rfl rF (FLe.trans (FLe.trans le1 le2) le3) sR ?_)))
  exact ⟨(vI (by rw [eqN, if_neg (fun h => by simp_all)])), rfl, rfl⟩
 refine X.seq (X.region ?_)
 refine XL.mv (x1) rfl ?_
 refine XL.mv (x2) rfl ?_
 refine cX (XOp.call (args := [x1, x2]) call73 rfl (Equal_spec hr1 hr2 (hbd := (by first | assumption | rfl | omega | (left; simp; done) | (right; simp; done)))) ?_)
 rintro _ _ _ _ ⟨rfl, rfl, rfl⟩
 refine XL.as (.bool (decide ((endL a (walkGo ar rs 1 n a).1) = (endL b (walkGo ar rs 1 n b).1)))) rfl ?_
 refine XL.nil ?_
 refine X.condD (p := (endL a (walkGo ar rs 1 n a).1) = (endL b (walkGo ar rs 1 n b).1)) rfl (fun h2 => ?_) (fun h2 => ?_)
 ·refine X.seq (X.region ?_)
  refine XL.as (.int .i64 (1)) rfl ?_
  refine XL.nil ?_
  refine X.ret (blockQ_ret (thenQ_ret (retEnd (L' := L) [.int .i64 (1)] (.int .i64 (1)) (.tmp rfl .nil) rfl rF (FLe.trans (FLe.trans le1 le2) le3) sR ?_)))
  exact ⟨(vI (by rw [eqN, if_pos (by simp_all), if_pos (by assumption)])), rfl, rfl⟩
 refine X.skip (X.seq (X.region ?_))
 refine XL.as (.int .i64 (0)) rfl ?_
 refine XL.nil ?_
 refine X.ret (retEnd (L' := L) [.int .i64 (0)] (.int .i64 (0)) (.tmp rfl .nil) rfl rF (FLe.trans (FLe.trans le1 le2) le3) sR ?_)
 exact ⟨(vI (by rw [eqN, if_pos (by simp_all), if_neg (by assumption)])), rfl, rfl⟩

/- impl.EqualBy -/
theorem EqualBy_spec {F : FH} {L : List HP} {arv : Value} {ar : List Int} (har : IntsF F arv ar) {rsv : Value} {rs : List (List Int × List Int)} (hrs : PairsF F rsv rs) {av : Value} {a : List Int} (ha : IntsF F av a) {bv : Value} {b : List Int} (hb : IntsF F bv b) {n : Int} :
    Does prog 27 [.agg #[arv, rsv], av, bv, .int .i64 (n)] F (L) (fun v F' L' => (.int .i64 (eqB ar rs a b n) : Value) = v ∧ F = F' ∧ L = L') := by
 refine Does.of_X func27 rfl rfl rfl ?_
 refine X.seq (X.region ?_)
 refine cX (XOp.box [arv, rsv] rfl rfl ?_)
 intro b1
 refine XL.as (.int .i64 (0)) rfl ?_
 refine XL.nil (X.seq (X.seq (X.region ?_)))
 refine cX (XOp.loadN [arv, rsv] isAgg29 sizeOf29 rfl rfl (Rd.ownN [] rfl rfl) ?_)
 refine XL.mv (.int .i64 (n)) rfl ?_
 refine XL.mv (av) rfl ?_
 refine XL.mv (bv) rfl ?_
 refine cX (XOp.buildSlice (s := 1) [av, bv] [(.slice none 0 0)] [(0, [av]), (1, [bv])] runUnderlying42 sizeOf24 zeroValue24 rfl (by decide) rfl (.cons (cells_one (IntsF.isSl ha)) (.cons (cells_one (IntsF.isSl hb)) CellsAre.nil)) rfl ?_)
 intro v1 hv1
 have hc1 : RowsC F [av, bv] ([a, b] : List (List Int)) := (RowsC.snoc (RowsC.snoc (CO.nil : RowsC F [] []) ha) hb)
 refine XL.freezeF [] _ _ rfl (fun F1 le1 hz1 => ?_)
 replace har := har.mono le1
 replace hrs := hrs.mono le1
 replace ha := ha.mono le1
 replace hb := hb.mono le1
 replace hc1 := hc1.mono le1
 have hf1 : RowsF F1 v1 (([a, b] : List (List Int))) := CO.fz hc1 (by first | rfl | simp | omega) hz1.fz
 refine cX (XOp.call (args := [.agg #[arv, rsv], .int .i64 (n), v1]) call69 rfl (wordOk_spec (n := n) har hrs hf1 (hlt := (by first | assumption | rfl | omega | simp))) ?_)
 rintro _ _ _ _ ⟨rfl, rfl, rfl⟩
 refine cX (XOp.notB (b := wordOkL ar rs n (([a, b] : List (List Int)))) rfl ?_)
 refine XL.nil ?_
 refine X.cond (t := !(wordOkL ar rs n (([a, b] : List (List Int))))) rfl (fun h1 => ?_) (fun h1 => ?_)
 ·refine X.seq (X.region ?_)
  refine XL.as (.int .i64 (-1)) rfl ?_
  refine XL.nil ?_
  refine X.ret (thenQ_ret (retEnd (L' := L) [.int .i64 (-1)] (.int .i64 (-1)) (.tmp rfl .nil) rfl rF le1 (sD sR) ?_))
  exact ⟨(vI (by rw [eqB, if_neg]; intro h; have h1 := right_iff.1 h.1.1; have h2 := right_iff.1 h.1.2; simp_all [wordOkL] <;> omega)), rfl, rfl⟩
 have hwo : wordOkL ar rs n [a, b] = true := by simpa using h1
 unfold wordOkL at hwo
 simp only [Bool.and_eq_true, decide_eq_true_eq, List.all_cons, List.all_nil] at hwo
 obtain ⟨⟨hsys, hn0⟩, hoa, hob, _⟩ := hwo
 refine X.skip (X.seq (X.region ?_))
 refine cX (XOp.loadN [arv, rsv] isAgg29 sizeOf29 rfl rfl (Rd.ownN [] rfl rfl) ?_)
 refine XL.mv (av) rfl ?_
 refine XL.mv (bv) rfl ?_
 refine XL.mv (.int .i64 (n)) rfl ?_
 refine cX (XOp.call (args := [.agg #[arv, rsv], av, bv, .int .i64 (((n).toNat : Nat) : Int)]) call77 (by rw [show (((n).toNat : Nat) : Int) = n from by omega]; rfl) (equalBy_spec (n := (n).toNat) har hrs ha hb (hsys := (by first | assumption | rfl | omega | simp)) (hoa := (by first | assumption | rfl | omega | simp)) (hob := (by first | assumption | rfl | omega | simp)) (hn := (by first | assumption | rfl | omega | simp))) ?_)
 rintro _ _ _ _ ⟨rfl, rfl, rfl⟩
 refine XL.as (.int .i64 (eqN ar rs a b ((n).toNat))) rfl ?_
 refine XL.nil ?_
 refine X.ret (retEnd (L' := L) [.int .i64 (eqN ar rs a b ((n).toNat))] (.int .i64 (eqN ar rs a b ((n).toNat))) (.tmp rfl .nil) rfl rF le1 (sD sR) ?_)
 exact ⟨(vI (by rw [eqB, if_pos ⟨⟨right_iff.2 ⟨hsys, hoa⟩, right_iff.2 ⟨hsys, hob⟩⟩, hn0⟩])), rfl, rfl⟩

/- spec.l22Right -/
theorem l22Right_spec {F : FH} {L : List HP} {arv : Value} {ar : List Int} (har : IntsF F arv ar) {rsv : Value} {rs : List (List Int × List Int)} (hrs : PairsF F rsv rs) {tv : Value} {t : List Int} (ht : IntsF F tv t) {n : Int} (hla : ar.length ≤ 4000000) (hlr : rs.length ≤ 4000000) (hrb : ∀ i, i < rs.length → (rs.getD i ([], [])).1.length ≤ 4000000 ∧ (rs.getD i ([], [])).2.length ≤ 4000000) (hlt : t.length ≤ 4000000) :
    Does prog 133 [.agg #[arv, rsv], tv, .int .i64 (n)] F (L) (fun v F' L' => (.bool ((rightB ar rs t && decide (0 ≤ n ∧ n ≤ 60))) : Value) = v ∧ F = F' ∧ L = L') := by
 refine Does.of_X func133 rfl rfl rfl ?_
 refine X.seq (X.region ?_)
 refine cX (XOp.box [arv, rsv] rfl rfl ?_)
 intro b1
 refine XL.as (.bool (false)) rfl ?_
 refine XL.nil (X.seq (X.region ?_))
 refine cX (XOp.loadN [arv, rsv] isAgg29 sizeOf29 rfl rfl (Rd.ownN [] rfl rfl) ?_)
 refine XL.mv (tv) rfl ?_
 refine cX (XOp.call (args := [.agg #[arv, rsv], tv]) call57 rfl (l7Right_spec har hrs ht (hla := (by first | assumption | rfl | omega | simp)) (hlr := (by first | assumption | rfl | omega | simp)) (hrb := (by first | assumption | rfl | omega | simp)) (hlt := (by first | assumption | rfl | omega | simp))) ?_)
 rintro _ _ _ _ ⟨rfl, rfl, rfl⟩
 refine XL.mv (.bool (rightB ar rs t)) rfl ?_
 by_cases h1 : (rightB ar rs t) = true
 ·refine XL.yes (t := 10) rfl (vB h1) (XOp.move (.int .i64 (n)) rfl ?_)
  refine XL.yes (t := 10) rfl (vB h1) (XOp.call (args := [.int .i64 (n), .int .i64 (0), .int .i64 (60)]) call122 rfl (l1In_spec (n := n) (a := 0) (b := 60)) ?_)
  rintro _ _ _ _ ⟨rfl, rfl, rfl⟩
  refine cX (XOp.pickT (.bool (decide (0 ≤ n ∧ n ≤ 60))) (vB h1) rfl ?_)
  refine XL.as (.bool (decide (0 ≤ n ∧ n ≤ 60))) rfl ?_
  refine XL.nil ?_
  refine X.ret (retEnd (L' := L) [.bool (decide (0 ≤ n ∧ n ≤ 60))] (.bool (decide (0 ≤ n ∧ n ≤ 60))) (.tmp rfl .nil) rfl rF rF (sD sR) ?_)
  exact ⟨(vB (by simp_all)), rfl, rfl⟩
 rw [Bool.not_eq_true] at h1
 refine XL.no (t := 10) rfl (vB h1) ?_
 refine XL.no (t := 10) rfl (vB h1) ?_
 refine cX (XOp.pickF (.bool (false)) (vB h1) rfl ?_)
 refine XL.as (.bool (false)) rfl ?_
 refine XL.nil ?_
 refine X.ret (retEnd (L' := L) [.bool (false)] (.bool (false)) (.tmp rfl .nil) rfl rF rF (sD sR) ?_)
 exact ⟨(vB (by simp_all)), rfl, rfl⟩

/- spec.l1Flag -/
theorem l1Flag_spec {F : FH} {L : List HP} {q : Bool} :
    Does prog 134 [.bool (q)] F (L) (fun v F' L' => (.int .i64 (if q = true then 1 else 0) : Value) = v ∧ F = F' ∧ L = L') := by
 refine Does.of_X func134 rfl rfl rfl ?_
 refine X.seq (X.region ?_)
 refine XL.as (.int .i64 (0)) rfl ?_
 refine XL.nil (X.seq (X.seq (X.region ?_)))
 refine XL.mv (.bool (q)) rfl ?_
 refine XL.nil ?_
 refine X.cond (t := q) rfl (fun h1 => ?_) (fun h1 => ?_)
 ·refine X.seq (X.region ?_)
  refine XL.as (.int .i64 (1)) rfl ?_
  refine XL.nil ?_
  refine X.ret (thenQ_ret (retEnd (L' := L) [.int .i64 (1)] (.int .i64 (1)) (.tmp rfl .nil) rfl rF rF sR ?_))
  exact ⟨(vI (by rw [if_pos (by assumption)])), rfl, rfl⟩
 refine X.skip (X.seq (X.region ?_))
 refine XL.as (.int .i64 (0)) rfl ?_
 refine XL.nil ?_
 refine X.ret (retEnd (L' := L) [.int .i64 (0)] (.int .i64 (0)) (.tmp rfl .nil) rfl rF rF sR ?_)
 exact ⟨(vI (by rw [if_neg (by simp_all)])), rfl, rfl⟩

/- spec.EqualBy -/
theorem sEqualBy_spec {F : FH} {L : List HP} {arv : Value} {ar : List Int} (har : IntsF F arv ar) {rsv : Value} {rs : List (List Int × List Int)} (hrs : PairsF F rsv rs) {av : Value} {a : List Int} (ha : IntsF F av a) {bv : Value} {b : List Int} (hb : IntsF F bv b) {n : Int} (hla : ar.length ≤ 4000000) (hlr : rs.length ≤ 4000000) (hrb : ∀ i, i < rs.length → (rs.getD i ([], [])).1.length ≤ 4000000 ∧ (rs.getD i ([], [])).2.length ≤ 4000000) (hlta : a.length ≤ 4000000) (hltb : b.length ≤ 4000000) :
    Does prog 85 [.agg #[arv, rsv], av, bv, .int .i64 (n)] F (L) (fun v F' L' => (.int .i64 (eqB ar rs a b n) : Value) = v ∧ F = F' ∧ L = L') := by
 refine Does.of_X func85 rfl rfl rfl ?_
 refine X.seq (X.region ?_)
 refine cX (XOp.box [arv, rsv] rfl rfl ?_)
 intro b1
 refine XL.as (.int .i64 (0)) rfl ?_
 refine XL.nil (X.seq (X.seq (X.region ?_)))
 refine cX (XOp.loadN [arv, rsv] isAgg29 sizeOf29 rfl rfl (Rd.ownN [] rfl rfl) ?_)
 refine XL.mv (av) rfl ?_
 refine XL.mv (.int .i64 (n)) rfl ?_
 refine cX (XOp.call (args := [.agg #[arv, rsv], av, .int .i64 (n)]) call133 rfl (l22Right_spec (n := n) har hrs ha (hla := (by first | assumption | rfl | omega | simp)) (hlr := (by first | assumption | rfl | omega | simp)) (hrb := (by first | assumption | rfl | omega | simp)) (hlt := (by first | assumption | rfl | omega | simp))) ?_)
 rintro _ _ _ _ ⟨rfl, rfl, rfl⟩
 refine cX (XOp.notB (b := (rightB ar rs a && decide (0 ≤ n ∧ n ≤ 60))) rfl ?_)
 refine XL.mv (.bool (!((rightB ar rs a && decide (0 ≤ n ∧ n ≤ 60))))) rfl ?_
 by_cases h1 : (!((rightB ar rs a && decide (0 ≤ n ∧ n ≤ 60)))) = true
 ·refine XL.no (t := 18) rfl (vB h1) ?_
  refine XL.no (t := 18) rfl (vB h1) ?_
  refine XL.no (t := 18) rfl (vB h1) ?_
  refine XL.no (t := 18) rfl (vB h1) ?_
  refine XL.no (t := 18) rfl (vB h1) ?_
  refine cX (XOp.pickT (.bool (true)) (vB h1) rfl ?_)
  refine XL.nil ?_
  refine X.condT rfl ?_
  refine X.seq (X.region ?_)
  refine XL.as (.int .i64 (-1)) rfl ?_
  refine XL.nil ?_
  refine X.ret (thenQ_ret (retEnd (L' := L) [.int .i64 (-1)] (.int .i64 (-1)) (.tmp rfl .nil) rfl rF rF (sD sR) ?_))
  exact ⟨(vI (by rw [eqB, if_neg]; intro h; simp_all <;> omega)), rfl, rfl⟩
 rw [Bool.not_eq_true] at h1
 refine XL.yes (t := 18) rfl (vB h1) (XOp.loadN [arv, rsv] isAgg29 sizeOf29 rfl rfl (Rd.ownN [] rfl rfl) ?_)
 refine XL.yes (t := 18) rfl (vB h1) (XOp.move (bv) rfl ?_)
 refine XL.yes (t := 18) rfl (vB h1) (XOp.move (.int .i64 (n)) rfl ?_)
 refine XL.yes (t := 18) rfl (vB h1) (XOp.call (args := [.agg #[arv, rsv], bv, .int .i64 (n)]) call133 rfl (l22Right_spec (n := n) har hrs hb (hla := (by first | assumption | rfl | omega | simp)) (hlr := (by first | assumption | rfl | omega | simp)) (hrb := (by first | assumption | rfl | omega | simp)) (hlt := (by first | assumption | rfl | omega | simp))) ?_)
 rintro _ _ _ _ ⟨rfl, rfl, rfl⟩
 refine XL.yes (t := 18) rfl (vB h1) (XOp.notB (b := (rightB ar rs b && decide (0 ≤ n ∧ n ≤ 60))) rfl ?_)
 refine cX (XOp.pickF (.bool (!((rightB ar rs b && decide (0 ≤ n ∧ n ≤ 60))))) (vB h1) rfl ?_)
 refine XL.nil ?_
 refine X.cond (t := !((rightB ar rs b && decide (0 ≤ n ∧ n ≤ 60)))) rfl (fun h2 => ?_) (fun h2 => ?_)
 ·refine X.seq (X.region ?_)
  refine XL.as (.int .i64 (-1)) rfl ?_
  refine XL.nil ?_
  refine X.ret (thenQ_ret (retEnd (L' := L) [.int .i64 (-1)] (.int .i64 (-1)) (.tmp rfl .nil) rfl rF rF (sD sR) ?_))
  exact ⟨(vI (by rw [eqB, if_neg]; intro h; simp_all <;> omega)), rfl, rfl⟩
 refine X.skip (X.seq (X.region ?_))
 have hra : rightB ar rs a = true := by simp_all
 have hrb2 : rightB ar rs b = true := by simp_all
 have hn0 : 0 ≤ n ∧ n ≤ 60 := by simp_all
 have hea := normB_right (a := a) hra hn0
 have heb := normB_right (a := b) hrb2 hn0
 have hna := normB_len (ar := ar) (rs := rs) (t := a) (st := 1) (n := n)
 have hnb := normB_len (ar := ar) (rs := rs) (t := b) (st := 1) (n := n)
 refine cX (XOp.loadN [arv, rsv] isAgg29 sizeOf29 rfl rfl (Rd.ownN [] rfl rfl) ?_)
 refine XL.mv (av) rfl ?_
 refine XL.mv (.int .i64 (n)) rfl ?_
 refine cX (XOp.call (args := [.agg #[arv, rsv], av, .int .i64 (1), .int .i64 (n)]) call75 rfl (sNormalBy_spec (st := 1) (n := n) har hrs ha (hla := (by first | assumption | rfl | omega | simp)) (hlr := (by first | assumption | rfl | omega | simp)) (hrb := (by first | assumption | rfl | omega | simp)) (hlt := (by first | assumption | rfl | omega | simp))) ?_)
 rintro _ F1 _ le1 ⟨x1, rfl, hr1, rfl⟩
 replace har := har.mono le1
 replace hrs := hrs.mono le1
 replace hb := hb.mono le1
 refine XL.mv (.tuple #[x1, .bool ((normB ar rs a 1 n).2)]) rfl ?_
 refine cX (XOp.extract (x1) rfl rfl ?_)
 refine cX (XOp.extract (.bool ((normB ar rs a 1 n).2)) rfl rfl ?_)
 refine XL.as (x1) rfl ?_
 refine XL.as (.bool ((normB ar rs a 1 n).2)) rfl ?_
 refine XL.nil (X.seq (X.region ?_))
 refine cX (XOp.loadN [arv, rsv] isAgg29 sizeOf29 rfl rfl (Rd.ownN [] rfl rfl) ?_)
 refine XL.mv (bv) rfl ?_
 refine XL.mv (.int .i64 (n)) rfl ?_
 refine cX (XOp.call (args := [.agg #[arv, rsv], bv, .int .i64 (1), .int .i64 (n)]) call75 rfl (sNormalBy_spec (st := 1) (n := n) har hrs hb (hla := (by first | assumption | rfl | omega | simp)) (hlr := (by first | assumption | rfl | omega | simp)) (hrb := (by first | assumption | rfl | omega | simp)) (hlt := (by first | assumption | rfl | omega | simp))) ?_)
 rintro _ F2 _ le2 ⟨x2, rfl, hr2, rfl⟩
 replace hr1 := hr1.mono le2
 refine XL.mv (.tuple #[x2, .bool ((normB ar rs b 1 n).2)]) rfl ?_
 refine cX (XOp.extract (x2) rfl rfl ?_)
 refine cX (XOp.extract (.bool ((normB ar rs b 1 n).2)) rfl rfl ?_)
 refine XL.as (x2) rfl ?_
 refine XL.as (.bool ((normB ar rs b 1 n).2)) rfl ?_
 refine XL.nil (X.seq (X.seq (X.region ?_)))
 refine XL.mv (.bool ((normB ar rs a 1 n).2)) rfl ?_
 refine cX (XOp.notB (b := (normB ar rs a 1 n).2) rfl ?_)
 refine XL.mv (.bool (!((normB ar rs a 1 n).2))) rfl ?_
 by_cases h3 : (!((normB ar rs a 1 n).2)) = true
 ·refine XL.no (t := 41) rfl (vB h3) ?_
  refine XL.no (t := 41) rfl (vB h3) ?_
  refine cX (XOp.pickT (.bool (true)) (vB h3) rfl ?_)
  refine XL.nil ?_
  refine X.condT rfl ?_
  refine X.seq (X.region ?_)
  refine XL.as (.int .i64 (-1)) rfl ?_
  refine XL.nil ?_
  refine X.ret (thenQ_ret (retEnd (L' := L) [.int .i64 (-1)] (.int .i64 (-1)) (.tmp rfl .nil) rfl rF (FLe.trans le1 le2) (sD sR) ?_))
  exact ⟨(vI (by rw [eqB, if_pos ⟨⟨hra, hrb2⟩, hn0⟩, eqN, if_neg]; intro h; rw [hea, heb, if_pos h.1, if_pos h.2] at *; simp_all)), rfl, rfl⟩
 rw [Bool.not_eq_true] at h3
 refine XL.yes (t := 41) rfl (vB h3) (XOp.move (.bool ((normB ar rs b 1 n).2)) rfl ?_)
 refine XL.yes (t := 41) rfl (vB h3) (XOp.notB (b := (normB ar rs b 1 n).2) rfl ?_)
 refine cX (XOp.pickF (.bool (!((normB ar rs b 1 n).2))) (vB h3) rfl ?_)
 refine XL.nil ?_
 refine X.cond (t := !((normB ar rs b 1 n).2)) rfl (fun h4 => ?_) (fun h4 => ?_)
 ·refine X.seq (X.region ?_)
  refine XL.as (.int .i64 (-1)) rfl ?_
  refine XL.nil ?_
  refine X.ret (thenQ_ret (retEnd (L' := L) [.int .i64 (-1)] (.int .i64 (-1)) (.tmp rfl .nil) rfl rF (FLe.trans le1 le2) (sD sR) ?_))
  exact ⟨(vI (by rw [eqB, if_pos ⟨⟨hra, hrb2⟩, hn0⟩, eqN, if_neg]; intro h; rw [hea, heb, if_pos h.1, if_pos h.2] at *; simp_all)), rfl, rfl⟩
 refine X.skip (X.seq (X.region ?_))
 refine XL.mv (x1) rfl ?_
 refine XL.mv (x2) rfl ?_
 refine cX (XOp.call (args := [x1, x2]) call96 rfl (SameTerm_spec hr1 hr2 (hbd := (by first | assumption | rfl | omega | (left; simp; done) | (right; simp; done)))) ?_)
 rintro _ _ _ _ ⟨rfl, rfl, rfl⟩
 refine cX (XOp.call (args := [.bool (decide (((normB ar rs a 1 n).1) = ((normB ar rs b 1 n).1)))]) call134 rfl (l1Flag_spec (q := decide (((normB ar rs a 1 n).1) = ((normB ar rs b 1 n).1)))) ?_)
 rintro _ _ _ _ ⟨rfl, rfl, rfl⟩
 refine XL.as (.int .i64 (if (decide (((normB ar rs a 1 n).1) = ((normB ar rs b 1 n).1))) = true then 1 else 0)) rfl ?_
 refine XL.nil ?_
 refine X.ret (retEnd (L' := L) [.int .i64 (if (decide (((normB ar rs a 1 n).1) = ((normB ar rs b 1 n).1))) = true then 1 else 0)] (.int .i64 (if (decide (((normB ar rs a 1 n).1) = ((normB ar rs b 1 n).1))) = true then 1 else 0)) (.tmp rfl .nil) rfl rF (FLe.trans le1 le2) (sD sR) ?_)
 exact ⟨(vI (eqFin hra hrb2 hn0 (by simp_all) (by simp_all))), rfl, rfl⟩
end Go.Proofs.Ytmaaifhmhclhdaa
set_option linter.unusedSimpArgs false
set_option linter.unusedVariables false
namespace Go.Proofs.Ytmaaifhmhclhdaa
open Go X M Try

/- impl.SolutionsBy -/
theorem SolutionsBy_spec {F : FH} {L : List HP} {arv : Value} {ar : List Int} (har : IntsF F arv ar) {rsv : Value} {rs : List (List Int × List Int)} (hrs : PairsF F rsv rs) {av : Value} {a : List Int} (ha : IntsF F av a) {bv : Value} {b : List Int} (hb : IntsF F bv b) {tsv : Value} {ts : List (List Int)} (hts : RowsF F tsv ts) {n : Int} (hlt : ts.length ≤ 4000000) :
    Does prog 35 [.agg #[arv, rsv], av, bv, tsv, .int .i64 (n)] F (L) (fun v F' L' => ∃ (r : Value), (r : Value) = v ∧ (IntsF F' r (solL ar rs a b ts n)) ∧ (Fresh F F' (star [intsH 2 r (solL ar rs a b ts n)])) ∧ L = L') := by
 refine Does.of_X func35 rfl rfl rfl ?_
 refine X.seq (X.region ?_)
 refine cX (XOp.box [arv, rsv] rfl rfl ?_)
 intro b1
 refine XL.as ((.slice none 0 0)) rfl ?_
 refine XL.nil (X.seq (X.seq (X.region ?_)))
 refine XL.mv (tsv) rfl ?_
 refine cX (XOp.lenS (v := tsv) (n := (ts).length) runUnderlying42 rfl hts.slv ?_)
 refine cX (XOp.gtr (a := (ts.length : Int)) (b := 16) rfl rfl ?_)
 refine XL.mv (.bool (decide (((ts.length : Int) : Int) > 16))) rfl ?_
 by_cases h1 : ((ts.length : Int) : Int) > 16
 ·refine XL.no (t := 22) rfl (vT h1) ?_
  refine XL.no (t := 22) rfl (vT h1) ?_
  refine XL.no (t := 22) rfl (vT h1) ?_
  refine XL.no (t := 22) rfl (vT h1) ?_
  refine XL.no (t := 22) rfl (vT h1) ?_
  refine XL.no (t := 22) rfl (vT h1) ?_
  refine XL.no (t := 22) rfl (vT h1) ?_
  refine cX (XOp.pickT (.bool (true)) (vT h1) rfl ?_)
  refine XL.mv (.bool (true)) rfl ?_
  refine XL.no (t := 31) rfl rfl ?_
  refine XL.no (t := 31) rfl rfl ?_
  refine XL.no (t := 31) rfl rfl ?_
  refine XL.no (t := 31) rfl rfl ?_
  refine XL.no (t := 31) rfl rfl ?_
  refine cX (XOp.pickT (.bool (true)) rfl rfl ?_)
  refine XL.nil ?_
  refine X.condT rfl ?_
  refine X.seq (X.region ?_)
  refine XL.as ((.slice none 0 0)) rfl ?_
  refine XL.nil ?_
  refine X.ret (thenQ_ret (retEnd (L' := L) [(.slice none 0 0)] ((.slice none 0 0)) (.tmp rfl .nil) rfl rF rF (sD sR) ?_))
  have e9 : solL ar rs a b ts n = [] := by first | (refine solL_no1 ?_; omega) | (refine solL_no2 ?_; simpa using h2) | (refine solL_no3 ?_; simpa using h3)
  exact ⟨_, rfl, by rw [e9]; exact IntsF.nilV, by rw [e9]; exact Fresh.one (Fresh.ofNil _), rfl⟩
 refine XL.yes (t := 22) rfl (vF h1) (XOp.loadN [arv, rsv] isAgg29 sizeOf29 rfl rfl (Rd.ownN [] rfl rfl) ?_)
 refine XL.yes (t := 22) rfl (vF h1) (XOp.move (.int .i64 (n)) rfl ?_)
 refine XL.yes (t := 22) rfl (vF h1) (XOp.move (av) rfl ?_)
 refine XL.yes (t := 22) rfl (vF h1) (XOp.move (bv) rfl ?_)
 refine XL.yes (t := 22) rfl (vF h1) (XOp.buildSlice (s := 1) [av, bv] [(.slice none 0 0)] [(0, [av]), (1, [bv])] runUnderlying42 sizeOf24 zeroValue24 rfl (by decide) rfl (.cons (cells_one (IntsF.isSl ha)) (.cons (cells_one (IntsF.isSl hb)) CellsAre.nil)) rfl ?_)
 intro v1 hv1
 have hc1 : RowsC F [av, bv] ([a, b] : List (List Int)) := (RowsC.snoc (RowsC.snoc (CO.nil : RowsC F [] []) ha) hb)
 refine XL.freezeF [] _ _ rfl (fun F1 le1 hz1 => ?_)
 replace har := har.mono le1
 replace hrs := hrs.mono le1
 replace ha := ha.mono le1
 replace hb := hb.mono le1
 replace hts := hts.mono le1
 replace hc1 := hc1.mono le1
 have hf1 : RowsF F1 v1 (([a, b] : List (List Int))) := CO.fz hc1 (by first | rfl | simp | omega) hz1.fz
 refine XL.yes (t := 22) rfl (vF h1) (XOp.call (args := [.agg #[arv, rsv], .int .i64 (n), v1]) call69 rfl (wordOk_spec (n := n) har hrs hf1 (hlt := (by first | assumption | rfl | omega | simp))) ?_)
 rintro _ _ _ _ ⟨rfl, rfl, rfl⟩
 refine XL.yes (t := 22) rfl (vF h1) (XOp.notB (b := wordOkL ar rs n (([a, b] : List (List Int)))) rfl ?_)
 refine cX (XOp.pickF (.bool (!(wordOkL ar rs n (([a, b] : List (List Int)))))) (vF h1) rfl ?_)
 refine XL.mv (.bool (!(wordOkL ar rs n (([a, b] : List (List Int)))))) rfl ?_
 by_cases h2 : (!(wordOkL ar rs n (([a, b] : List (List Int))))) = true
 ·refine XL.no (t := 31) rfl (vB h2) ?_
  refine XL.no (t := 31) rfl (vB h2) ?_
  refine XL.no (t := 31) rfl (vB h2) ?_
  refine XL.no (t := 31) rfl (vB h2) ?_
  refine XL.no (t := 31) rfl (vB h2) ?_
  refine cX (XOp.pickT (.bool (true)) (vB h2) rfl ?_)
  refine XL.nil ?_
  refine X.condT rfl ?_
  refine X.seq (X.region ?_)
  refine XL.as ((.slice none 0 0)) rfl ?_
  refine XL.nil ?_
  refine X.ret (thenQ_ret (retEnd (L' := L) [(.slice none 0 0)] ((.slice none 0 0)) (.tmp rfl .nil) rfl le1 rF (sD sR) ?_))
  have e9 : solL ar rs a b ts n = [] := by first | (refine solL_no1 ?_; omega) | (refine solL_no2 ?_; simpa using h2) | (refine solL_no3 ?_; simpa using h3)
  exact ⟨_, rfl, by rw [e9]; exact IntsF.nilV, by rw [e9]; exact Fresh.one (Fresh.ofNil _), rfl⟩
 rw [Bool.not_eq_true] at h2
 have hwo : wordOkL ar rs n [a, b] = true := by simpa using h2
 unfold wordOkL at hwo
 simp only [Bool.and_eq_true, decide_eq_true_eq, List.all_cons, List.all_nil] at hwo
 obtain ⟨⟨hsys, hn0⟩, hoa, hob, _⟩ := hwo
 refine XL.yes (t := 31) rfl (vB h2) (XOp.loadN [arv, rsv] isAgg29 sizeOf29 rfl rfl (Rd.ownN [] rfl rfl) ?_)
 refine XL.yes (t := 31) rfl (vB h2) (XOp.move (.int .i64 (n)) rfl ?_)
 refine XL.yes (t := 31) rfl (vB h2) (XOp.move (tsv) rfl ?_)
 refine XL.yes (t := 31) rfl (vB h2) (XOp.call (args := [.agg #[arv, rsv], .int .i64 (n), tsv]) call69 rfl (wordOk_spec (n := n) har hrs hts (hlt := (by first | assumption | rfl | omega | simp))) ?_)
 rintro _ _ _ _ ⟨rfl, rfl, rfl⟩
 refine XL.yes (t := 31) rfl (vB h2) (XOp.notB (b := wordOkL ar rs n ts) rfl ?_)
 refine cX (XOp.pickF (.bool (!(wordOkL ar rs n ts))) (vB h2) rfl ?_)
 refine XL.nil ?_
 refine X.cond (t := !(wordOkL ar rs n ts)) rfl (fun h3 => ?_) (fun h3 => ?_)
 ·refine X.seq (X.region ?_)
  refine XL.as ((.slice none 0 0)) rfl ?_
  refine XL.nil ?_
  refine X.ret (thenQ_ret (retEnd (L' := L) [(.slice none 0 0)] ((.slice none 0 0)) (.tmp rfl .nil) rfl le1 rF (sD sR) ?_))
  have e9 : solL ar rs a b ts n = [] := by first | (refine solL_no1 ?_; omega) | (refine solL_no2 ?_; simpa using h2) | (refine solL_no3 ?_; simpa using h3)
  exact ⟨_, rfl, by rw [e9]; exact IntsF.nilV, by rw [e9]; exact Fresh.one (Fresh.ofNil _), rfl⟩
 have hwt : wordOkL ar rs n ts = true := by simpa using h3
 unfold wordOkL at hwt
 simp only [Bool.and_eq_true, decide_eq_true_eq] at hwt
 have hall := hwt.2
 have hok : solOk ar rs a b ts n = true := solOk_iff.2 ⟨hsys, hn0, hoa, hob, hall, by omega⟩
 have hal := termOk_len hoa
 have hbl := termOk_len hob
 have hag := fun k (hk : k < a.length) => termOk_ge hoa hk
 have hbg := fun k (hk : k < b.length) => termOk_ge hob hk
 refine X.skip (X.seq (X.region ?_))
 refine XL.as ((.slice none 0 0)) rfl ?_
 refine XL.nil (X.seq (X.seq (X.region ?_)))
 refine XL.mv (tsv) rfl ?_
 refine cX (XOp.lenS (v := tsv) (n := (ts).length) runUnderlying42 rfl hts.slv ?_)
 refine XL.mv (.int .i64 (0)) rfl ?_
 refine XL.nil (X.block ?_)
 refine X.loop (α := Nat × Value × List Int × FH) (fun xQ => [(1, av), (2, bv), (4, .int .i64 (n)), (5, ptr b1 0), (11, xQ.2.1), (38, tsv), (39, .int .i64 ((ts.length : Int))), (40, .int .i64 (((xQ.1 : Nat) : Int)))]) (fun xQ => intsH 2 xQ.2.1 xQ.2.2.1 :: cellsH b1 [arv, rsv] 29 :: L) (fun xQ F' => xQ.2.2.2 = F' ∧ F1 ≤ xQ.2.2.2 ∧ (IsSl xQ.2.1) ∧ (xQ.1 ≤ ts.length) ∧ (xQ.2.2.1 = solTo ar rs a b ts n xQ.1)) (fun xQ => ts.length - xQ.1) (0, (.slice none 0 0), [], F1) ⟨rfl, rfl, rfl, rfl, rfl, rfl, rfl, rfl, trivial⟩ (Sub.trans (intsH.addNil 2 none _) (sC (sC sR))) ⟨rfl, FLe.refl _, (⟨_, _, _, rfl⟩), (by (try dsimp only) <;> omega), (rfl)⟩ ?_
 rintro ⟨k, ov, os, G1⟩ rE _ _ ⟨rfl, leG, hov, hk, hos⟩
 show X _ _ _ _ (envs [(1, av), (2, bv), (4, .int .i64 (n)), (5, ptr b1 0), (11, ov), (38, tsv), (39, .int .i64 ((ts.length : Int))), (40, .int .i64 ((k : Int)))] rE) _ (intsH 2 ov os :: cellsH b1 [arv, rsv] 29 :: L)
 replace leG : F1 ≤ G1 := leG
 dsimp only at hov hk hos
 have hol : os.length ≤ k := by rw [hos]; exact solTo_len
 have hot := fun (h : k < ts.length) => all_at hall h
 have htl9 := fun (h : k < ts.length) => termOk_len (all_at hall h)
 have leG1 := leG
 replace har := har.mono leG1
 replace hrs := hrs.mono leG1
 replace ha := ha.mono leG1
 replace hb := hb.mono leG1
 replace hts := hts.mono leG1
 refine X.seq (X.region ?_)
 refine cX (XOp.lss (a := (k : Int)) (b := (ts.length : Int)) rfl rfl ?_)
 refine XL.nil (X.seq ?_)
 refine X.condD (p := (k : Int) < (ts.length : Int)) rfl (fun h4 => ?_) (fun h4 => ?_)
 ·refine X.skip (X.seq (X.block (X.seq (X.region ?_))))
  refine XL.mv (.int .i64 ((k : Int))) rfl ?_
  refine cX (XOp.indexS (v := tsv) (i := (k : Int)) (n := (ts).length) k runUnderlying42 sizeOf24 rfl rfl rfl hts.slv (by omega) (Nat.mul_one _) ?_)
  obtain ⟨a1, ha1, hr1⟩ := hts.rd (i := k) (by omega)
  refine cX (XOp.load1 (v := a1) isAgg24 rfl (hr1 _) ?_)
  refine XL.as (.int .i64 ((k : Int))) rfl ?_
  refine XL.as (a1) rfl ?_
  refine XL.nil (X.seq (X.region ?_))
  refine XL.mv (a1) rfl ?_
  refine cX (XOp.buildSlice (s := 1) [a1] [(.slice none 0 0)] [(0, [a1])] runUnderlying42 sizeOf24 zeroValue24 rfl (by decide) rfl (.cons (cells_one (IntsF.isSl ha1)) CellsAre.nil) rfl ?_)
  intro v2 hv2
  refine cX (XOp.build [v2] [(.slice none 0 0)] [(0, 1)] [(0, [v2])] runUnderlying57 zeroValue57 rfl (.cons rfl sizeOf42 PlacesAre.nil) rfl (.cons (cells_one (isSl_lit hv2)) CellsAre.nil) ?_)
  refine cX (XOp.alloc [(.slice none 0 0)] zeroValue57 rfl ?_)
  intro b2
  refine cX (XOp.storeN (vs := [v2]) [] _ [v2] sizeOf57 rfl rfl rfl (ones_cons (one_sl (isSl_lit hv2)) ones_nil) rfl rfl rfl ?_)
  refine XL.nil (X.seq (X.region ?_))
  refine cX (XOp.loadN [v2] isAgg57 sizeOf57 rfl rfl (Rd.ownN [] rfl rfl) ?_)
  refine XL.mv (av) rfl ?_
  have hc2 : RowsC G1 [a1] ([(ts.getD k [])] : List (List Int)) := (RowsC.snoc (CO.nil : RowsC G1 [] []) ha1)
  refine XL.freezeF [_] _ _ rfl (fun F2 le2 hz2 => ?_)
  replace har := har.mono le2
  replace hrs := hrs.mono le2
  replace ha := ha.mono le2
  replace hb := hb.mono le2
  replace hc2 := hc2.mono le2
  have hf2 : RowsF F2 v2 (([(ts.getD k [])] : List (List Int))) := CO.fz hc2 (by first | rfl | simp | omega) hz2.fz
  refine cX (XOp.call (args := [.agg #[v2], av]) call82 rfl (fill_spec hf2 ha (hsl := (by simp)) (hsb := (fun i => by have := rows1_len (hot (by omega)) i; omega)) (htl := (by omega)) (htg := (by first | (exact fun k hk => by have := hag k hk; omega) | (exact fun k hk => by have := hbg k hk; omega)))) ?_)
  rintro _ F3 _ le3 ⟨x1, rfl, hr2, hr3, rfl⟩
  replace har := har.mono le3
  replace hrs := hrs.mono le3
  replace hb := hb.mono le3
  replace hf2 := hf2.mono le3
  refine XL.mv (.tuple #[x1, .bool ((fillL (([(ts.getD k [])] : List (List Int))) a).isSome)]) rfl ?_
  refine cX (XOp.extract (x1) rfl rfl ?_)
  refine cX (XOp.extract (.bool ((fillL (([(ts.getD k [])] : List (List Int))) a).isSome)) rfl rfl ?_)
  refine XL.as (x1) rfl ?_
  refine XL.as (.bool ((fillL (([(ts.getD k [])] : List (List Int))) a).isSome)) rfl ?_
  refine XL.nil (X.seq (X.region ?_))
  refine cX (XOp.loadN [v2] isAgg57 sizeOf57 rfl rfl (Rd.ownN [] rfl rfl) ?_)
  refine XL.mv (bv) rfl ?_
  refine cX (XOp.call (args := [.agg #[v2], bv]) call82 rfl (fill_spec hf2 hb (hsl := (by simp)) (hsb := (fun i => by have := rows1_len (hot (by omega)) i; omega)) (htl := (by omega)) (htg := (by first | (exact fun k hk => by have := hag k hk; omega) | (exact fun k hk => by have := hbg k hk; omega)))) ?_)
  rintro _ F4 _ le4 ⟨x2, rfl, hr4, hr5, rfl⟩
  replace har := har.mono le4
  replace hrs := hrs.mono le4
  replace hr2 := hr2.mono le4
  refine XL.mv (.tuple #[x2, .bool ((fillL (([(ts.getD k [])] : List (List Int))) b).isSome)]) rfl ?_
  refine cX (XOp.extract (x2) rfl rfl ?_)
  refine cX (XOp.extract (.bool ((fillL (([(ts.getD k [])] : List (List Int))) b).isSome)) rfl rfl ?_)
  refine XL.as (x2) rfl ?_
  refine XL.as (.bool ((fillL (([(ts.getD k [])] : List (List Int))) b).isSome)) rfl ?_
  refine XL.nil (X.seq (X.region ?_))
  refine XL.mv (.bool ((fillL (([(ts.getD k [])] : List (List Int))) a).isSome)) rfl ?_
  refine XL.mv (.bool ((fillL (([(ts.getD k [])] : List (List Int))) a).isSome)) rfl ?_
  by_cases h5 : ((fillL (([(ts.getD k [])] : List (List Int))) a).isSome) = true
  ·refine XL.yes (t := 61) rfl (vB h5) (XOp.move (.bool ((fillL (([(ts.getD k [])] : List (List Int))) b).isSome)) rfl ?_)
   refine cX (XOp.pickT (.bool ((fillL (([(ts.getD k [])] : List (List Int))) b).isSome)) (vB h5) rfl ?_)
   refine XL.mv (.bool ((fillL (([(ts.getD k [])] : List (List Int))) b).isSome)) rfl ?_
   by_cases h6 : ((fillL (([(ts.getD k [])] : List (List Int))) b).isSome) = true
   ·refine XL.yes (t := 64) rfl (vB h6) (XOp.loadN [arv, rsv] isAgg29 sizeOf29 rfl rfl (Rd.ownN [_, _] rfl rfl) ?_)
    refine XL.yes (t := 64) rfl (vB h6) (XOp.move (x1) rfl ?_)
    refine XL.yes (t := 64) rfl (vB h6) (XOp.move (x2) rfl ?_)
    refine XL.yes (t := 64) rfl (vB h6) (XOp.move (.int .i64 (n)) rfl ?_)
    refine XL.yes (t := 64) rfl (vB h6) (XOp.call (args := [.agg #[arv, rsv], x1, x2, .int .i64 (((n).toNat : Nat) : Int)]) call77 (by rw [show (((n).toNat : Nat) : Int) = n from by omega]; rfl) (equalBy_spec (n := (n).toNat) har hrs hr2 hr4 (hsys := (by first | assumption | rfl | omega | simp)) (hoa := (fill1 (hot (by omega)) hoa (by assumption))) (hob := (fill1 (hot (by omega)) hob (by assumption))) (hn := (by first | assumption | rfl | omega | simp))) ?_)
    rintro _ _ _ _ ⟨rfl, rfl, rfl⟩
    refine XL.yes (t := 64) rfl (vB h6) (XOp.eql (a := eqN ar rs ((fillL (([(ts.getD k [])] : List (List Int))) a).getD []) ((fillL (([(ts.getD k [])] : List (List Int))) b).getD []) ((n).toNat)) (b := 1) rfl rfl ?_)
    refine cX (XOp.pickT (.bool (decide ((eqN ar rs ((fillL (([(ts.getD k [])] : List (List Int))) a).getD []) ((fillL (([(ts.getD k [])] : List (List Int))) b).getD []) ((n).toNat) : Int) = 1))) (vB h6) rfl ?_)
    refine XL.nil ?_
    refine X.condD (p := (eqN ar rs ((fillL (([(ts.getD k [])] : List (List Int))) a).getD []) ((fillL (([(ts.getD k [])] : List (List Int))) b).getD []) ((n).toNat) : Int) = 1) rfl (fun h7 => ?_) (fun h7 => ?_)
    ·refine X.region ?_
     refine XL.mv (ov) rfl ?_
     refine XL.mv (.int .i64 ((k : Int))) rfl ?_
     refine cX (XOp.buildSlice (s := 1) [.int .i64 ((k : Int))] [.int .i64 (0)] [(0, [.int .i64 ((k : Int))])] runUnderlying24 sizeOf2 zeroValue2 rfl (by decide) rfl (.cons rfl CellsAre.nil) rfl ?_)
     intro v3 hv3
     refine cX (XOp.append1 (u := (k : Int)) [_, _] _ runUnderlying24 typeInfo2 rfl rfl rfl rfl rfl rfl (SlV.own [] rfl) (Rd.sl [] rfl rfl) (by (try simp only [List.length_append, List.length_nil, List.length_cons, List.length_singleton, List.length_take, List.length_drop]); omega) ?_)
     intro v4 hs1 hn1
     refine XL.as (v4) rfl ?_
     refine XL.nil (X.region ?_)
     refine cX (XOp.addR (a := (k : Int)) (b := 1) (((k + 1 : Nat) : Int)) rfl rfl (by omega) (by omega) ?_)
     refine XL.mv (.int .i64 (((k + 1 : Nat) : Int))) rfl ?_
     refine XL.nil ?_
     exact ⟨(k + 1, v4, os ++ [(k : Int)], F4), _, (FLe.trans (FLe.trans (FLe.trans leG1 le2) le3) le4), rF, ⟨rfl, rfl, rfl, rfl, rfl, rfl, rfl, rfl, trivial⟩, (sD (sD (sC (sC sR)))), ⟨rfl, (FLe.trans (FLe.trans (FLe.trans leG1 le2) le3) le4), (hs1), (by (try dsimp only) <;> omega), ((by dsimp only; rw [hos]; first | exact (solTo_yes (by unfold sol1; simp_all)).symm | exact (solTo_no (by unfold sol1; simp_all)).symm))⟩, (by omega)⟩
    refine X.skip (X.region ?_)
    refine cX (XOp.addR (a := (k : Int)) (b := 1) (((k + 1 : Nat) : Int)) rfl rfl (by omega) (by omega) ?_)
    refine XL.mv (.int .i64 (((k + 1 : Nat) : Int))) rfl ?_
    refine XL.nil ?_
    exact ⟨(k + 1, ov, os, F4), _, (FLe.trans (FLe.trans (FLe.trans leG1 le2) le3) le4), rF, ⟨rfl, rfl, rfl, rfl, rfl, rfl, rfl, rfl, trivial⟩, (sD (sC (sC sR))), ⟨rfl, (FLe.trans (FLe.trans (FLe.trans leG1 le2) le3) le4), (hov), (by (try dsimp only) <;> omega), ((by dsimp only; rw [hos]; first | exact (solTo_yes (by unfold sol1; simp_all)).symm | exact (solTo_no (by unfold sol1; simp_all)).symm))⟩, (by omega)⟩
   rw [Bool.not_eq_true] at h6
   refine XL.no (t := 64) rfl (vB h6) ?_
   refine XL.no (t := 64) rfl (vB h6) ?_
   refine XL.no (t := 64) rfl (vB h6) ?_
   refine XL.no (t := 64) rfl (vB h6) ?_
   refine XL.no (t := 64) rfl (vB h6) ?_
   refine XL.no (t := 64) rfl (vB h6) ?_
   refine cX (XOp.pickF (.bool (false)) (vB h6) rfl ?_)
   refine XL.nil ?_
   refine X.condF rfl ?_
   refine X.skip (X.region ?_)
   refine cX (XOp.addR (a := (k : Int)) (b := 1) (((k + 1 : Nat) : Int)) rfl rfl (by omega) (by omega) ?_)
   refine XL.mv (.int .i64 (((k + 1 : Nat) : Int))) rfl ?_
   refine XL.nil ?_
   exact ⟨(k + 1, ov, os, F4), _, (FLe.trans (FLe.trans (FLe.trans leG1 le2) le3) le4), rF, ⟨rfl, rfl, rfl, rfl, rfl, rfl, rfl, rfl, trivial⟩, (sD (sC (sC sR))), ⟨rfl, (FLe.trans (FLe.trans (FLe.trans leG1 le2) le3) le4), (hov), (by (try dsimp only) <;> omega), ((by dsimp only; rw [hos]; first | exact (solTo_yes (by unfold sol1; simp_all)).symm | exact (solTo_no (by unfold sol1; simp_all)).symm))⟩, (by omega)⟩
  rw [Bool.not_eq_true] at h5
  refine XL.no (t := 61) rfl (vB h5) ?_
  refine cX (XOp.pickF (.bool (false)) (vB h5) rfl ?_)
  refine XL.mv (.bool (false)) rfl ?_
  refine XL.no (t := 64) rfl rfl ?_
  refine XL.no (t := 64) rfl rfl ?_
  refine XL.no (t := 64) rfl rfl ?_
  refine XL.no (t := 64) rfl rfl ?_
  refine XL.no (t := 64) rfl rfl ?_
  refine XL.no (t := 64) rfl rfl ?_
  refine cX (XOp.pickF (.bool (false)) rfl rfl ?_)
  refine XL.nil ?_
  refine X.condF rfl ?_
  refine X.skip (X.region ?_)
  refine cX (XOp.addR (a := (k : Int)) (b := 1) (((k + 1 : Nat) : Int)) rfl rfl (by omega) (by omega) ?_)
  refine XL.mv (.int .i64 (((k + 1 : Nat) : Int))) rfl ?_
  refine XL.nil ?_
  exact ⟨(k + 1, ov, os, F4), _, (FLe.trans (FLe.trans (FLe.trans leG1 le2) le3) le4), rF, ⟨rfl, rfl, rfl, rfl, rfl, rfl, rfl, rfl, trivial⟩, (sD (sC (sC sR))), ⟨rfl, (FLe.trans (FLe.trans (FLe.trans leG1 le2) le3) le4), (hov), (by (try dsimp only) <;> omega), ((by dsimp only; rw [hos]; first | exact (solTo_yes (by unfold sol1; simp_all)).symm | exact (solTo_no (by unfold sol1; simp_all)).symm))⟩, (by omega)⟩
 refine X.exit (thenQ_exit (thenQ_exit (blockQ_exit ?_)))
 refine X.seq (X.region ?_)
 refine XL.mv (ov) rfl ?_
 refine XL.as (ov) rfl ?_
 refine XL.nil ?_
 refine X.freezeF [] _ _ rfl (fun F5 le5 hz3 => ?_)
 have hf3 : IntsF F5 ov os := intsH.fz (xs := os) hz3.fz
 refine X.ret (retEnd (L' := L) [ov] (ov) (.tmp rfl .nil) rfl (FLe.trans (FLe.trans le1 leG1) le5) rF (sD sR) ?_)
 have e9 : solL ar rs a b ts n = os := by unfold solL; rw [if_pos hok, hos, show k = ts.length from by omega]
 exact ⟨_, rfl, by rw [e9]; exact hf3, by rw [e9]; exact Fresh.one (hz3.base (FLe.trans le1 leG1)), rfl⟩

/- spec.l22All -/
theorem l22All_spec {F : FH} {L : List HP} {arv : Value} {ar : List Int} (har : IntsF F arv ar) {rsv : Value} {rs : List (List Int × List Int)} (hrs : PairsF F rsv rs) {tsv : Value} {ts : List (List Int)} (hts : RowsF F tsv ts) {n : Int} (hla : ar.length ≤ 4000000) (hlr : rs.length ≤ 4000000) (hrb : ∀ i, i < rs.length → (rs.getD i ([], [])).1.length ≤ 4000000 ∧ (rs.getD i ([], [])).2.length ≤ 4000000) (hlt : ts.length ≤ 4000000) (htb : ∀ i, i < ts.length → (ts.getD i []).length ≤ 4000000) :
    Does prog 74 [.agg #[arv, rsv], tsv, .int .i64 (n)] F (L) (fun v F' L' => (.bool (allOk ar rs ts n) : Value) = v ∧ F = F' ∧ L = L') := by
 refine Does.of_X func74 rfl rfl rfl ?_
 refine X.seq (X.region ?_)
 refine cX (XOp.box [arv, rsv] rfl rfl ?_)
 intro b1
 refine XL.as (.bool (false)) rfl ?_
 refine XL.nil (X.seq (X.seq (X.region ?_)))
 refine XL.mv (tsv) rfl ?_
 refine cX (XOp.lenS (v := tsv) (n := (ts).length) runUnderlying42 rfl hts.slv ?_)
 refine cX (XOp.gtr (a := (ts.length : Int)) (b := 16) rfl rfl ?_)
 refine XL.mv (.bool (decide (((ts.length : Int) : Int) > 16))) rfl ?_
 by_cases h1 : ((ts.length : Int) : Int) > 16
 ·refine XL.no (t := 11) rfl (vT h1) ?_
  refine XL.no (t := 11) rfl (vT h1) ?_
  refine XL.no (t := 11) rfl (vT h1) ?_
  refine cX (XOp.pickT (.bool (true)) (vT h1) rfl ?_)
  refine XL.mv (.bool (true)) rfl ?_
  refine XL.no (t := 16) rfl rfl ?_
  refine XL.no (t := 16) rfl rfl ?_
  refine XL.no (t := 16) rfl rfl ?_
  refine cX (XOp.pickT (.bool (true)) rfl rfl ?_)
  refine XL.nil ?_
  refine X.condT rfl ?_
  refine X.seq (X.region ?_)
  refine XL.as (.bool (false)) rfl ?_
  refine XL.nil ?_
  refine X.ret (thenQ_ret (retEnd (L' := L) [.bool (false)] (.bool (false)) (.tmp rfl .nil) rfl rF rF (sD sR) ?_))
  exact ⟨(vB (by unfold allOk; simp_all <;> omega)), rfl, rfl⟩
 refine XL.yes (t := 11) rfl (vF h1) (XOp.loadN [arv, rsv] isAgg29 sizeOf29 rfl rfl (Rd.ownN [] rfl rfl) ?_)
 refine XL.yes (t := 11) rfl (vF h1) (XOp.call (args := [.agg #[arv, rsv]]) call110 rfl (sSystemOk_spec har hrs (hla := (by first | assumption | rfl | omega | simp)) (hlr := (by first | assumption | rfl | omega | simp)) (hrb := (by first | assumption | rfl | omega | simp))) ?_)
 rintro _ _ _ _ ⟨rfl, rfl, rfl⟩
 refine XL.yes (t := 11) rfl (vF h1) (XOp.notB (b := sysOk ar rs) rfl ?_)
 refine cX (XOp.pickF (.bool (!(sysOk ar rs))) (vF h1) rfl ?_)
 refine XL.mv (.bool (!(sysOk ar rs))) rfl ?_
 by_cases h2 : (!(sysOk ar rs)) = true
 ·refine XL.no (t := 16) rfl (vB h2) ?_
  refine XL.no (t := 16) rfl (vB h2) ?_
  refine XL.no (t := 16) rfl (vB h2) ?_
  refine cX (XOp.pickT (.bool (true)) (vB h2) rfl ?_)
  refine XL.nil ?_
  refine X.condT rfl ?_
  refine X.seq (X.region ?_)
  refine XL.as (.bool (false)) rfl ?_
  refine XL.nil ?_
  refine X.ret (thenQ_ret (retEnd (L' := L) [.bool (false)] (.bool (false)) (.tmp rfl .nil) rfl rF rF (sD sR) ?_))
  exact ⟨(vB (by unfold allOk; simp_all <;> omega)), rfl, rfl⟩
 rw [Bool.not_eq_true] at h2
 refine XL.yes (t := 16) rfl (vB h2) (XOp.move (.int .i64 (n)) rfl ?_)
 refine XL.yes (t := 16) rfl (vB h2) (XOp.call (args := [.int .i64 (n), .int .i64 (0), .int .i64 (60)]) call122 rfl (l1In_spec (n := n) (a := 0) (b := 60)) ?_)
 rintro _ _ _ _ ⟨rfl, rfl, rfl⟩
 refine XL.yes (t := 16) rfl (vB h2) (XOp.notD (p := 0 ≤ n ∧ n ≤ 60) rfl ?_)
 refine cX (XOp.pickF (.bool (decide (¬(0 ≤ n ∧ n ≤ 60)))) (vB h2) rfl ?_)
 refine XL.nil ?_
 refine X.condD (p := ¬(0 ≤ n ∧ n ≤ 60)) rfl (fun h3 => ?_) (fun h3 => ?_)
 ·refine X.seq (X.region ?_)
  refine XL.as (.bool (false)) rfl ?_
  refine XL.nil ?_
  refine X.ret (thenQ_ret (retEnd (L' := L) [.bool (false)] (.bool (false)) (.tmp rfl .nil) rfl rF rF (sD sR) ?_))
  exact ⟨(vB (by unfold allOk; simp_all <;> omega)), rfl, rfl⟩
 refine X.skip (X.seq (X.seq (X.region ?_)))
 refine XL.as (.int .i64 (0)) rfl ?_
 refine XL.nil (X.block ?_)
 refine X.loop (α := Nat) (fun k => [(1, tsv), (3, ptr b1 0), (7, .int .i64 ((k : Int)))]) (fun k => cellsH b1 [arv, rsv] 29 :: L) (fun k F' => F = F' ∧ (k ≤ ts.length) ∧ (∀ i, i < k → termOk ar (ts.getD i []) = true)) (fun k => ts.length - k) 0 ⟨rfl, rfl, rfl, trivial⟩ (sC sR) ⟨rfl, (by (try dsimp only) <;> omega), (fun i hi => absurd hi (by omega))⟩ ?_
 rintro k rE _ _ ⟨rfl, hk, hall⟩
 show X _ _ _ _ (envs [(1, tsv), (3, ptr b1 0), (7, .int .i64 ((k : Int)))] rE) _ (cellsH b1 [arv, rsv] 29 :: L)
 have htbk := htb k
 refine X.seq (X.seq (X.region ?_))
 refine XL.mv (.int .i64 ((k : Int))) rfl ?_
 refine XL.mv (tsv) rfl ?_
 refine cX (XOp.lenS (v := tsv) (n := (ts).length) runUnderlying42 rfl hts.slv ?_)
 refine cX (XOp.lss (a := (k : Int)) (b := (ts.length : Int)) rfl rfl ?_)
 refine XL.nil ?_
 refine X.condD (p := (k : Int) < (ts.length : Int)) rfl (fun h4 => ?_) (fun h4 => ?_)
 ·refine X.skip (X.seq (X.block (X.seq ?_)))
  obtain ⟨a1, ha1, hr1⟩ := hts.rd (i := k) (by omega)
  refine X.draw [cellsH b1 [arv, rsv] 29] L 6 [[], [], [], [], [], []] [[], [0], [], [], [2, 3], [4]] (phiL [fun us v => v = ptr b1 0, fun us v => v = (.agg #[arv] : Value), fun us v => v = tsv, fun us v => v = (.int .i64 ((k : Int)) : Value), fun us v => v = (.pointer (some (elemA tsv (k))) : Value), fun us v => v = a1]) (ownL [fun us v => [], fun us v => [], fun us v => [], fun us v => [], fun us v => [], fun us v => []]) mixed rfl rfl (by kernel_rfl) ?_ ?_
  ·refine pC (fun vals R hpZ => ?_) ?_
   ·refine XG.op (XOp.fieldP (b := b1) (0) runUnderlying29 rfl sizeOf26 (by decide) rfl rfl ?_)
    exact ⟨rfl, rfl, rfl⟩
   refine pC (fun vals R hpZ => ?_) ?_
   ·rw [eS (l := [(0, ptr b1 0)]) ⟨hpZ 0 (by decide), trivial⟩]
    refine XG.op (XOp.loadN [arv] isAgg26 sizeOf26 rfl rfl (Rd.ownN [] rfl rfl) ?_)
    exact ⟨rfl, rfl, rfl⟩
   refine pC (fun vals R hpZ => ?_) ?_
   ·refine XG.op (XOp.move (tsv) rfl ?_)
    exact ⟨rfl, rfl, rfl⟩
   refine pC (fun vals R hpZ => ?_) ?_
   ·refine XG.op (XOp.move (.int .i64 ((k : Int))) rfl ?_)
    exact ⟨rfl, rfl, rfl⟩
   refine pC (fun vals R hpZ => ?_) ?_
   ·rw [eS (l := [(2, tsv), (3, (.int .i64 ((k : Int)) : Value))]) ⟨hpZ 2 (by decide), hpZ 3 (by decide), trivial⟩]
    refine XG.op (XOp.indexS (v := tsv) (i := (k : Int)) (n := (ts).length) k runUnderlying42 sizeOf24 rfl rfl rfl hts.slv (by omega) (Nat.mul_one _) ?_)
    exact ⟨rfl, rfl, rfl⟩
   refine pC (fun vals R hpZ => ?_) ?_
   ·rw [eS (l := [(4, (.pointer (some (elemA tsv (k))) : Value))]) ⟨hpZ 4 (by decide), trivial⟩]
    refine XG.op (XOp.load1 (v := a1) isAgg24 rfl (hr1 _) ?_)
    exact ⟨rfl, rfl, rfl⟩
   exact stepsP.nil
  intro vals hphi
  rw [eS (l := [(1, (.agg #[arv] : Value)), (5, a1)]) ⟨(hphi 1 (by decide)), (hphi 5 (by decide)), trivial⟩]
  show XL _ _ _ _ _ _ _ (cellsH b1 [arv, rsv] 29 :: L)
  refine cX (XOp.call (args := [.agg #[arv], a1]) call83 rfl (sTermOk_spec har ha1 (hla := (by first | assumption | rfl | omega | simp)) (hlt := (by first | assumption | rfl | omega | simp))) ?_)
  rintro _ _ _ _ ⟨rfl, rfl, rfl⟩
  refine cX (XOp.notB (b := termOk ar ((ts.getD k []))) rfl ?_)
  refine XL.nil ?_
  refine X.cond (t := !(termOk ar ((ts.getD k [])))) rfl (fun h5 => ?_) (fun h5 => ?_)
  ·refine X.seq (X.region ?_)
   refine XL.as (.bool (false)) rfl ?_
   refine XL.nil ?_
   refine X.ret (blockQ_ret (thenQ_ret (thenQ_ret (blockQ_ret (thenQ_ret (retEnd (L' := L) [.bool (false)] (.bool (false)) (.tmp rfl .nil) rfl rF rF (sD sR) ?_))))))
   exact ⟨(vB (by rw [allOk, all_fail [] (k := k) (by omega) (by simp_all)]; simp)), rfl, rfl⟩
  refine X.skip (X.region ?_)
  refine XL.mv (.int .i64 ((k : Int))) rfl ?_
  refine cX (XOp.addR (a := (k : Int)) (b := 1) (((k + 1 : Nat) : Int)) rfl rfl (by omega) (by omega) ?_)
  refine XL.as (.int .i64 (((k + 1 : Nat) : Int))) rfl ?_
  refine XL.nil ?_
  exact ⟨k + 1, _, FLe.refl _, rF, ⟨rfl, rfl, rfl, trivial⟩, (sC sR), ⟨rfl, (by (try dsimp only) <;> omega), (fun i hi => (Nat.lt_or_ge i k).elim (fun h => hall i h) (fun h => by obtain rfl : i = k := (by omega); simp_all))⟩, (by omega)⟩
 refine X.exit (thenQ_exit (thenQ_exit (blockQ_exit ?_)))
 refine X.seq (X.region ?_)
 refine XL.as (.bool (true)) rfl ?_
 refine XL.nil ?_
 refine X.ret (retEnd (L' := L) [.bool (true)] (.bool (true)) (.tmp rfl .nil) rfl rF rF (sD sR) ?_)
 exact ⟨(vB (by rw [allOk, (all_getD_iff []).2 (fun i hi => hall i (by omega))]; simp_all <;> omega)), rfl, rfl⟩

/- spec.SolutionsBy -/
theorem sSolutionsBy_spec {F : FH} {L : List HP} {arv : Value} {ar : List Int} (har : IntsF F arv ar) {rsv : Value} {rs : List (List Int × List Int)} (hrs : PairsF F rsv rs) {av : Value} {a : List Int} (ha : IntsF F av a) {bv : Value} {b : List Int} (hb : IntsF F bv b) {tsv : Value} {ts : List (List Int)} (hts : RowsF F tsv ts) {n : Int} (hla : ar.length ≤ 4000000) (hlr : rs.length ≤ 4000000) (hrb : ∀ i, i < rs.length → (rs.getD i ([], [])).1.length ≤ 4000000 ∧ (rs.getD i ([], [])).2.length ≤ 4000000) (hlt : ts.length ≤ 4000000) (htb : ∀ i, i < ts.length → (ts.getD i []).length ≤ 4000000) (hlta : a.length ≤ 4000000) (hltb : b.length ≤ 4000000) :
    Does prog 36 [.agg #[arv, rsv], av, bv, tsv, .int .i64 (n)] F (L) (fun v F' L' => ∃ (r : Value), (r : Value) = v ∧ (IntsF F' r (solL ar rs a b ts n)) ∧ L = L') := by
 refine Does.of_X func36 rfl rfl rfl ?_
 refine X.seq (X.region ?_)
 refine cX (XOp.box [arv, rsv] rfl rfl ?_)
 intro b1
 refine XL.as ((.slice none 0 0)) rfl ?_
 refine XL.nil (X.seq (X.region ?_))
 refine cX (XOp.buildSlice (s := 1) [] [.int .i64 (0)] [] runUnderlying24 sizeOf2 zeroValue2 rfl (by decide) rfl CellsAre.nil rfl ?_)
 intro v1 hv1
 refine XL.as (v1) rfl ?_
 refine XL.nil (X.seq (X.seq (X.region ?_)))
 refine cX (XOp.loadN [arv, rsv] isAgg29 sizeOf29 rfl rfl (Rd.ownN [_] rfl rfl) ?_)
 refine XL.mv (tsv) rfl ?_
 refine XL.mv (.int .i64 (n)) rfl ?_
 refine cX (XOp.call (args := [.agg #[arv, rsv], tsv, .int .i64 (n)]) call74 rfl (l22All_spec (n := n) har hrs hts (hla := (by first | assumption | rfl | omega | simp)) (hlr := (by first | assumption | rfl | omega | simp)) (hrb := (by first | assumption | rfl | omega | simp)) (hlt := (by first | assumption | rfl | omega | simp)) (htb := (by first | assumption | rfl | omega | simp))) ?_)
 rintro _ _ _ _ ⟨rfl, rfl, rfl⟩
 refine cX (XOp.notB (b := allOk ar rs ts n) rfl ?_)
 refine XL.mv (.bool (!(allOk ar rs ts n))) rfl ?_
 by_cases h1 : (!(allOk ar rs ts n)) = true
 ·refine XL.no (t := 24) rfl (vB h1) ?_
  refine XL.no (t := 24) rfl (vB h1) ?_
  refine XL.no (t := 24) rfl (vB h1) ?_
  refine XL.no (t := 24) rfl (vB h1) ?_
  refine XL.no (t := 24) rfl (vB h1) ?_
  refine cX (XOp.pickT (.bool (true)) (vB h1) rfl ?_)
  refine XL.mv (.bool (true)) rfl ?_
  refine XL.no (t := 31) rfl rfl ?_
  refine XL.no (t := 31) rfl rfl ?_
  refine XL.no (t := 31) rfl rfl ?_
  refine XL.no (t := 31) rfl rfl ?_
  refine XL.no (t := 31) rfl rfl ?_
  refine cX (XOp.pickT (.bool (true)) rfl rfl ?_)
  refine XL.nil ?_
  refine X.condT rfl ?_
  refine X.seq (X.region ?_)
  refine XL.mv (v1) rfl ?_
  refine XL.as (v1) rfl ?_
  refine XL.nil ?_
  show X _ _ _ _ _ _ (intsH 2 v1 ([] : List Int) :: cellsH b1 [arv, rsv] 29 :: L)
  refine X.freezeF [] _ _ rfl (fun F1 le1 hz1 => ?_)
  replace har := har.mono le1
  replace hrs := hrs.mono le1
  replace ha := ha.mono le1
  replace hb := hb.mono le1
  replace hts := hts.mono le1
  have hf1 : IntsF F1 v1 ([]) := intsH.fz (xs := []) hz1.fz
  refine X.ret (thenQ_ret (retEnd (L' := L) [v1] (v1) (.tmp rfl .nil) rfl le1 rF (sD sR) ?_))
  have e9 : solL ar rs a b ts n = [] := by first | (refine solL_no4 ?_; simpa using h1) | (refine solL_no5 ?_; simpa using h2) | (refine solL_no6 ?_; simpa using h3)
  exact ⟨_, rfl, by rw [e9]; exact hf1, rfl⟩
 rw [Bool.not_eq_true] at h1
 have hao : allOk ar rs ts n = true := by simpa using h1
 have hao2 := allOk_iff.1 hao
 have hsys := hao2.1
 have hn0 := hao2.2.1
 have hall := hao2.2.2.1
 have hll := hao2.2.2.2
 refine XL.yes (t := 24) rfl (vB h1) (XOp.fieldP (b := b1) (0) runUnderlying29 rfl sizeOf26 (by decide) rfl rfl ?_)
 refine XL.yes (t := 24) rfl (vB h1) (XOp.loadN [arv] isAgg26 sizeOf26 rfl rfl (Rd.ownN [_] rfl rfl) ?_)
 refine XL.yes (t := 24) rfl (vB h1) (XOp.move (av) rfl ?_)
 refine XL.yes (t := 24) rfl (vB h1) (XOp.call (args := [.agg #[arv], av]) call83 rfl (sTermOk_spec har ha (hla := (by first | assumption | rfl | omega | simp)) (hlt := (by first | assumption | rfl | omega | simp))) ?_)
 rintro _ _ _ _ ⟨rfl, rfl, rfl⟩
 refine XL.yes (t := 24) rfl (vB h1) (XOp.notB (b := termOk ar a) rfl ?_)
 refine cX (XOp.pickF (.bool (!(termOk ar a))) (vB h1) rfl ?_)
 refine XL.mv (.bool (!(termOk ar a))) rfl ?_
 by_cases h2 : (!(termOk ar a)) = true
 ·refine XL.no (t := 31) rfl (vB h2) ?_
  refine XL.no (t := 31) rfl (vB h2) ?_
  refine XL.no (t := 31) rfl (vB h2) ?_
  refine XL.no (t := 31) rfl (vB h2) ?_
  refine XL.no (t := 31) rfl (vB h2) ?_
  refine cX (XOp.pickT (.bool (true)) (vB h2) rfl ?_)
  refine XL.nil ?_
  refine X.condT rfl ?_
  refine X.seq (X.region ?_)
  refine XL.mv (v1) rfl ?_
  refine XL.as (v1) rfl ?_
  refine XL.nil ?_
  show X _ _ _ _ _ _ (intsH 2 v1 ([] : List Int) :: cellsH b1 [arv, rsv] 29 :: L)
  refine X.freezeF [] _ _ rfl (fun F2 le2 hz2 => ?_)
  replace har := har.mono le2
  replace hrs := hrs.mono le2
  replace ha := ha.mono le2
  replace hb := hb.mono le2
  replace hts := hts.mono le2
  have hf2 : IntsF F2 v1 ([]) := intsH.fz (xs := []) hz2.fz
  refine X.ret (thenQ_ret (retEnd (L' := L) [v1] (v1) (.tmp rfl .nil) rfl le2 rF (sD sR) ?_))
  have e9 : solL ar rs a b ts n = [] := by first | (refine solL_no4 ?_; simpa using h1) | (refine solL_no5 ?_; simpa using h2) | (refine solL_no6 ?_; simpa using h3)
  exact ⟨_, rfl, by rw [e9]; exact hf2, rfl⟩
 rw [Bool.not_eq_true] at h2
 have hoa : termOk ar a = true := by simpa using h2
 have hal := termOk_len hoa
 have hag := fun k (hk : k < a.length) => termOk_ge hoa hk
 refine XL.yes (t := 31) rfl (vB h2) (XOp.fieldP (b := b1) (0) runUnderlying29 rfl sizeOf26 (by decide) rfl rfl ?_)
 refine XL.yes (t := 31) rfl (vB h2) (XOp.loadN [arv] isAgg26 sizeOf26 rfl rfl (Rd.ownN [_] rfl rfl) ?_)
 refine XL.yes (t := 31) rfl (vB h2) (XOp.move (bv) rfl ?_)
 refine XL.yes (t := 31) rfl (vB h2) (XOp.call (args := [.agg #[arv], bv]) call83 rfl (sTermOk_spec har hb (hla := (by first | assumption | rfl | omega | simp)) (hlt := (by first | assumption | rfl | omega | simp))) ?_)
 rintro _ _ _ _ ⟨rfl, rfl, rfl⟩
 refine XL.yes (t := 31) rfl (vB h2) (XOp.notB (b := termOk ar b) rfl ?_)
 refine cX (XOp.pickF (.bool (!(termOk ar b))) (vB h2) rfl ?_)
 refine XL.nil ?_
 refine X.cond (t := !(termOk ar b)) rfl (fun h3 => ?_) (fun h3 => ?_)
 ·refine X.seq (X.region ?_)
  refine XL.mv (v1) rfl ?_
  refine XL.as (v1) rfl ?_
  refine XL.nil ?_
  show X _ _ _ _ _ _ (intsH 2 v1 ([] : List Int) :: cellsH b1 [arv, rsv] 29 :: L)
  refine X.freezeF [] _ _ rfl (fun F3 le3 hz3 => ?_)
  replace har := har.mono le3
  replace hrs := hrs.mono le3
  replace ha := ha.mono le3
  replace hb := hb.mono le3
  replace hts := hts.mono le3
  have hf3 : IntsF F3 v1 ([]) := intsH.fz (xs := []) hz3.fz
  refine X.ret (thenQ_ret (retEnd (L' := L) [v1] (v1) (.tmp rfl .nil) rfl le3 rF (sD sR) ?_))
  have e9 : solL ar rs a b ts n = [] := by first | (refine solL_no4 ?_; simpa using h1) | (refine solL_no5 ?_; simpa using h2) | (refine solL_no6 ?_; simpa using h3)
  exact ⟨_, rfl, by rw [e9]; exact hf3, rfl⟩
 have hob : termOk ar b = true := by simpa using h3
 have hbl := termOk_len hob
 have hbg := fun k (hk : k < b.length) => termOk_ge hob hk
 have hok : solOk ar rs a b ts n = true := solOk_iff.2 ⟨hsys, hn0, hoa, hob, hall, hll⟩
 refine X.skip (X.seq (X.seq (X.region ?_)))
 refine XL.as (.int .i64 (0)) rfl ?_
 refine XL.nil (X.block ?_)
 refine X.loop (α := Nat × Value × List Int × FH) (fun xQ => [(1, av), (2, bv), (3, tsv), (4, .int .i64 (n)), (5, ptr b1 0), (11, xQ.2.1), (12, .int .i64 (((xQ.1 : Nat) : Int)))]) (fun xQ => intsH 2 xQ.2.1 xQ.2.2.1 :: cellsH b1 [arv, rsv] 29 :: L) (fun xQ F' => xQ.2.2.2 = F' ∧ F ≤ xQ.2.2.2 ∧ (IsSl xQ.2.1) ∧ (xQ.1 ≤ ts.length) ∧ (xQ.2.2.1 = solTo ar rs a b ts n xQ.1)) (fun xQ => ts.length - xQ.1) (0, v1, [], F) ⟨rfl, rfl, rfl, rfl, rfl, rfl, rfl, trivial⟩ (sC (sC sR)) ⟨rfl, FLe.refl _, ((isSl_lit hv1)), (by (try dsimp only) <;> omega), (rfl)⟩ ?_
 rintro ⟨k, ov, os, G1⟩ rE _ _ ⟨rfl, leG, hov, hk, hos⟩
 show X _ _ _ _ (envs [(1, av), (2, bv), (3, tsv), (4, .int .i64 (n)), (5, ptr b1 0), (11, ov), (12, .int .i64 ((k : Int)))] rE) _ (intsH 2 ov os :: cellsH b1 [arv, rsv] 29 :: L)
 replace leG : F ≤ G1 := leG
 dsimp only at hov hk hos
 have hol : os.length ≤ k := by rw [hos]; exact solTo_len
 have hot := fun (h : k < ts.length) => all_at hall h
 have htl9 := fun (h : k < ts.length) => termOk_len (all_at hall h)
 have leG1 := leG
 replace har := har.mono leG1
 replace hrs := hrs.mono leG1
 replace ha := ha.mono leG1
 replace hb := hb.mono leG1
 replace hts := hts.mono leG1
 refine X.seq (X.seq (X.region ?_))
 refine XL.mv (.int .i64 ((k : Int))) rfl ?_
 refine XL.mv (tsv) rfl ?_
 refine cX (XOp.lenS (v := tsv) (n := (ts).length) runUnderlying42 rfl hts.slv ?_)
 refine cX (XOp.lss (a := (k : Int)) (b := (ts.length : Int)) rfl rfl ?_)
 refine XL.nil ?_
 refine X.condD (p := (k : Int) < (ts.length : Int)) rfl (fun h4 => ?_) (fun h4 => ?_)
 ·refine X.skip (X.seq (X.block (X.seq (X.region ?_))))
  refine XL.mv (tsv) rfl ?_
  refine XL.mv (.int .i64 ((k : Int))) rfl ?_
  refine cX (XOp.indexS (v := tsv) (i := (k : Int)) (n := (ts).length) k runUnderlying42 sizeOf24 rfl rfl rfl hts.slv (by omega) (Nat.mul_one _) ?_)
  obtain ⟨a1, ha1, hr1⟩ := hts.rd (i := k) (by omega)
  refine cX (XOp.load1 (v := a1) isAgg24 rfl (hr1 _) ?_)
  refine cX (XOp.buildSlice (s := 1) [a1] [(.slice none 0 0)] [(0, [a1])] runUnderlying42 sizeOf24 zeroValue24 rfl (by decide) rfl (.cons (cells_one (IntsF.isSl ha1)) CellsAre.nil) rfl ?_)
  intro v2 hv2
  refine cX (XOp.build [v2] [(.slice none 0 0)] [(0, 1)] [(0, [v2])] runUnderlying57 zeroValue57 rfl (.cons rfl sizeOf42 PlacesAre.nil) rfl (.cons (cells_one (isSl_lit hv2)) CellsAre.nil) ?_)
  refine cX (XOp.alloc [(.slice none 0 0)] zeroValue57 rfl ?_)
  intro b2
  refine cX (XOp.storeN (vs := [v2]) [] _ [v2] sizeOf57 rfl rfl rfl (ones_cons (one_sl (isSl_lit hv2)) ones_nil) rfl rfl rfl ?_)
  refine XL.nil (X.seq (X.region ?_))
  refine cX (XOp.loadN [v2] isAgg57 sizeOf57 rfl rfl (Rd.ownN [] rfl rfl) ?_)
  refine XL.mv (av) rfl ?_
  have hc1 : RowsC G1 [a1] ([(ts.getD k [])] : List (List Int)) := (RowsC.snoc (CO.nil : RowsC G1 [] []) ha1)
  refine XL.freezeF [_] _ _ rfl (fun F4 le4 hz4 => ?_)
  replace har := har.mono le4
  replace hrs := hrs.mono le4
  replace ha := ha.mono le4
  replace hb := hb.mono le4
  replace hc1 := hc1.mono le4
  have hf4 : RowsF F4 v2 (([(ts.getD k [])] : List (List Int))) := CO.fz hc1 (by first | rfl | simp | omega) hz4.fz
  refine cX (XOp.call (args := [.agg #[v2], av]) call84 rfl (l2Filled_spec hf4 ha (hsl := (by simp)) (hsb := (fun i => by have := rows1_len (hot (by omega)) i; omega)) (htl := (by omega)) (htg := (by first | (exact fun k hk => by have := hag k hk; omega) | (exact fun k hk => by have := hbg k hk; omega)))) ?_)
  rintro _ F5 _ le5 ⟨x1, rfl, hr2, rfl⟩
  replace har := har.mono le5
  replace hrs := hrs.mono le5
  replace hb := hb.mono le5
  replace hf4 := hf4.mono le5
  refine XL.mv (.tuple #[x1, .bool ((fillL (([(ts.getD k [])] : List (List Int))) a).isSome)]) rfl ?_
  refine cX (XOp.extract (x1) rfl rfl ?_)
  refine cX (XOp.extract (.bool ((fillL (([(ts.getD k [])] : List (List Int))) a).isSome)) rfl rfl ?_)
  refine XL.as (x1) rfl ?_
  refine XL.as (.bool ((fillL (([(ts.getD k [])] : List (List Int))) a).isSome)) rfl ?_
  refine XL.nil (X.seq (X.region ?_))
  refine cX (XOp.loadN [v2] isAgg57 sizeOf57 rfl rfl (Rd.ownN [] rfl rfl) ?_)
  refine XL.mv (bv) rfl ?_
  refine cX (XOp.call (args := [.agg #[v2], bv]) call84 rfl (l2Filled_spec hf4 hb (hsl := (by simp)) (hsb := (fun i => by have := rows1_len (hot (by omega)) i; omega)) (htl := (by omega)) (htg := (by first | (exact fun k hk => by have := hag k hk; omega) | (exact fun k hk => by have := hbg k hk; omega)))) ?_)
  rintro _ F6 _ le6 ⟨x2, rfl, hr3, rfl⟩
  replace har := har.mono le6
  replace hrs := hrs.mono le6
  replace hr2 := hr2.mono le6
  refine XL.mv (.tuple #[x2, .bool ((fillL (([(ts.getD k [])] : List (List Int))) b).isSome)]) rfl ?_
  refine cX (XOp.extract (x2) rfl rfl ?_)
  refine cX (XOp.extract (.bool ((fillL (([(ts.getD k [])] : List (List Int))) b).isSome)) rfl rfl ?_)
  refine XL.as (x2) rfl ?_
  refine XL.as (.bool ((fillL (([(ts.getD k [])] : List (List Int))) b).isSome)) rfl ?_
  refine XL.nil (X.seq (X.region ?_))
  refine XL.mv (.bool ((fillL (([(ts.getD k [])] : List (List Int))) a).isSome)) rfl ?_
  refine XL.mv (.bool ((fillL (([(ts.getD k [])] : List (List Int))) a).isSome)) rfl ?_
  by_cases h5 : ((fillL (([(ts.getD k [])] : List (List Int))) a).isSome) = true
  ·refine XL.yes (t := 64) rfl (vB h5) (XOp.move (.bool ((fillL (([(ts.getD k [])] : List (List Int))) b).isSome)) rfl ?_)
   refine cX (XOp.pickT (.bool ((fillL (([(ts.getD k [])] : List (List Int))) b).isSome)) (vB h5) rfl ?_)
   refine XL.mv (.bool ((fillL (([(ts.getD k [])] : List (List Int))) b).isSome)) rfl ?_
   by_cases h6 : ((fillL (([(ts.getD k [])] : List (List Int))) b).isSome) = true
   ·refine XL.yes (t := 67) rfl (vB h6) (XOp.loadN [arv, rsv] isAgg29 sizeOf29 rfl rfl (Rd.ownN [_, _] rfl rfl) ?_)
    refine XL.yes (t := 67) rfl (vB h6) (XOp.move (x1) rfl ?_)
    refine XL.yes (t := 67) rfl (vB h6) (XOp.move (x2) rfl ?_)
    refine XL.yes (t := 67) rfl (vB h6) (XOp.move (.int .i64 (n)) rfl ?_)
    refine XL.yes (t := 67) rfl (vB h6) (XOp.call (args := [.agg #[arv, rsv], x1, x2, .int .i64 (n)]) call85 rfl (sEqualBy_spec (n := n) har hrs hr2 hr3 (hla := (by first | assumption | rfl | omega | simp)) (hlr := (by first | assumption | rfl | omega | simp)) (hrb := (by first | assumption | rfl | omega | simp)) (hlta := (by have := termOk_len (fill1 (hot (by omega)) hoa (by assumption)); omega)) (hltb := (by have := termOk_len (fill1 (hot (by omega)) hob (by assumption)); omega))) ?_)
    rintro _ _ _ _ ⟨rfl, rfl, rfl⟩
    refine XL.yes (t := 67) rfl (vB h6) (XOp.eql (a := eqB ar rs ((fillL (([(ts.getD k [])] : List (List Int))) a).getD []) ((fillL (([(ts.getD k [])] : List (List Int))) b).getD []) n) (b := 1) rfl rfl ?_)
    refine cX (XOp.pickT (.bool (decide ((eqB ar rs ((fillL (([(ts.getD k [])] : List (List Int))) a).getD []) ((fillL (([(ts.getD k [])] : List (List Int))) b).getD []) n : Int) = 1))) (vB h6) rfl ?_)
    refine XL.nil ?_
    refine X.condD (p := (eqB ar rs ((fillL (([(ts.getD k [])] : List (List Int))) a).getD []) ((fillL (([(ts.getD k [])] : List (List Int))) b).getD []) n : Int) = 1) rfl (fun h7 => ?_) (fun h7 => ?_)
    ·refine X.region ?_
     refine XL.mv (ov) rfl ?_
     refine XL.mv (.int .i64 ((k : Int))) rfl ?_
     refine cX (XOp.buildSlice (s := 1) [.int .i64 ((k : Int))] [.int .i64 (0)] [(0, [.int .i64 ((k : Int))])] runUnderlying24 sizeOf2 zeroValue2 rfl (by decide) rfl (.cons rfl CellsAre.nil) rfl ?_)
     intro v3 hv3
     refine cX (XOp.append1 (u := (k : Int)) [_, _] _ runUnderlying24 typeInfo2 rfl rfl rfl rfl rfl rfl (SlV.own [] rfl) (Rd.sl [] rfl rfl) (by (try simp only [List.length_append, List.length_nil, List.length_cons, List.length_singleton, List.length_take, List.length_drop]); omega) ?_)
     intro v4 hs1 hn1
     refine XL.as (v4) rfl ?_
     refine XL.nil (X.region ?_)
     refine XL.mv (.int .i64 ((k : Int))) rfl ?_
     refine cX (XOp.addR (a := (k : Int)) (b := 1) (((k + 1 : Nat) : Int)) rfl rfl (by omega) (by omega) ?_)
     refine XL.as (.int .i64 (((k + 1 : Nat) : Int))) rfl ?_
     refine XL.nil ?_
     exact ⟨(k + 1, v4, os ++ [(k : Int)], F6), _, (FLe.trans (FLe.trans (FLe.trans leG1 le4) le5) le6), rF, ⟨rfl, rfl, rfl, rfl, rfl, rfl, rfl, trivial⟩, (sD (sD (sC (sC sR)))), ⟨rfl, (FLe.trans (FLe.trans (FLe.trans leG1 le4) le5) le6), (hs1), (by (try dsimp only) <;> omega), ((by dsimp only; rw [hos]; have hqq := fun h1 h2 => eqB_eqN (n := n) (right_iff.2 ⟨hsys, fill1 (hot (by omega)) hoa h1⟩) (right_iff.2 ⟨hsys, fill1 (hot (by omega)) hob h2⟩) hn0; first | exact (solTo_yes (by unfold sol1; simp_all)).symm | exact (solTo_no (by unfold sol1; simp_all)).symm))⟩, (by omega)⟩
    refine X.skip (X.region ?_)
    refine XL.mv (.int .i64 ((k : Int))) rfl ?_
    refine cX (XOp.addR (a := (k : Int)) (b := 1) (((k + 1 : Nat) : Int)) rfl rfl (by omega) (by omega) ?_)
    refine XL.as (.int .i64 (((k + 1 : Nat) : Int))) rfl ?_
    refine XL.nil ?_
    exact ⟨(k + 1, ov, os, F6), _, (FLe.trans (FLe.trans (FLe.trans leG1 le4) le5) le6), rF, ⟨rfl, rfl, rfl, rfl, rfl, rfl, rfl, trivial⟩, (sD (sC (sC sR))), ⟨rfl, (FLe.trans (FLe.trans (FLe.trans leG1 le4) le5) le6), (hov), (by (try dsimp only) <;> omega), ((by dsimp only; rw [hos]; have hqq := fun h1 h2 => eqB_eqN (n := n) (right_iff.2 ⟨hsys, fill1 (hot (by omega)) hoa h1⟩) (right_iff.2 ⟨hsys, fill1 (hot (by omega)) hob h2⟩) hn0; first | exact (solTo_yes (by unfold sol1; simp_all)).symm | exact (solTo_no (by unfold sol1; simp_all)).symm))⟩, (by omega)⟩
   rw [Bool.not_eq_true] at h6
   refine XL.no (t := 67) rfl (vB h6) ?_
   refine XL.no (t := 67) rfl (vB h6) ?_
   refine XL.no (t := 67) rfl (vB h6) ?_
   refine XL.no (t := 67) rfl (vB h6) ?_
   refine XL.no (t := 67) rfl (vB h6) ?_
   refine XL.no (t := 67) rfl (vB h6) ?_
   refine cX (XOp.pickF (.bool (false)) (vB h6) rfl ?_)
   refine XL.nil ?_
   refine X.condF rfl ?_
   refine X.skip (X.region ?_)
   refine XL.mv (.int .i64 ((k : Int))) rfl ?_
   refine cX (XOp.addR (a := (k : Int)) (b := 1) (((k + 1 : Nat) : Int)) rfl rfl (by omega) (by omega) ?_)
   refine XL.as (.int .i64 (((k + 1 : Nat) : Int))) rfl ?_
   refine XL.nil ?_
   exact ⟨(k + 1, ov, os, F6), _, (FLe.trans (FLe.trans (FLe.trans leG1 le4) le5) le6), rF, ⟨rfl, rfl, rfl, rfl, rfl, rfl, rfl, trivial⟩, (sD (sC (sC sR))), ⟨rfl, (FLe.trans (FLe.trans (FLe.trans leG1 le4) le5) le6), (hov), (by (try dsimp only) <;> omega), ((by dsimp only; rw [hos]; have hqq := fun h1 h2 => eqB_eqN (n := n) (right_iff.2 ⟨hsys, fill1 (hot (by omega)) hoa h1⟩) (right_iff.2 ⟨hsys, fill1 (hot (by omega)) hob h2⟩) hn0; first | exact (solTo_yes (by unfold sol1; simp_all)).symm | exact (solTo_no (by unfold sol1; simp_all)).symm))⟩, (by omega)⟩
  rw [Bool.not_eq_true] at h5
  refine XL.no (t := 64) rfl (vB h5) ?_
  refine cX (XOp.pickF (.bool (false)) (vB h5) rfl ?_)
  refine XL.mv (.bool (false)) rfl ?_
  refine XL.no (t := 67) rfl rfl ?_
  refine XL.no (t := 67) rfl rfl ?_
  refine XL.no (t := 67) rfl rfl ?_
  refine XL.no (t := 67) rfl rfl ?_
  refine XL.no (t := 67) rfl rfl ?_
  refine XL.no (t := 67) rfl rfl ?_
  refine cX (XOp.pickF (.bool (false)) rfl rfl ?_)
  refine XL.nil ?_
  refine X.condF rfl ?_
  refine X.skip (X.region ?_)
  refine XL.mv (.int .i64 ((k : Int))) rfl ?_
  refine cX (XOp.addR (a := (k : Int)) (b := 1) (((k + 1 : Nat) : Int)) rfl rfl (by omega) (by omega) ?_)
  refine XL.as (.int .i64 (((k + 1 : Nat) : Int))) rfl ?_
  refine XL.nil ?_
  exact ⟨(k + 1, ov, os, F6), _, (FLe.trans (FLe.trans (FLe.trans leG1 le4) le5) le6), rF, ⟨rfl, rfl, rfl, rfl, rfl, rfl, rfl, trivial⟩, (sD (sC (sC sR))), ⟨rfl, (FLe.trans (FLe.trans (FLe.trans leG1 le4) le5) le6), (hov), (by (try dsimp only) <;> omega), ((by dsimp only; rw [hos]; have hqq := fun h1 h2 => eqB_eqN (n := n) (right_iff.2 ⟨hsys, fill1 (hot (by omega)) hoa h1⟩) (right_iff.2 ⟨hsys, fill1 (hot (by omega)) hob h2⟩) hn0; first | exact (solTo_yes (by unfold sol1; simp_all)).symm | exact (solTo_no (by unfold sol1; simp_all)).symm))⟩, (by omega)⟩
 refine X.exit (thenQ_exit (thenQ_exit (blockQ_exit ?_)))
 refine X.seq (X.region ?_)
 refine XL.mv (ov) rfl ?_
 refine XL.as (ov) rfl ?_
 refine XL.nil ?_
 refine X.freezeF [] _ _ rfl (fun F7 le7 hz5 => ?_)
 have hf5 : IntsF F7 ov os := intsH.fz (xs := os) hz5.fz
 refine X.ret (retEnd (L' := L) [ov] (ov) (.tmp rfl .nil) rfl (FLe.trans leG1 le7) rF (sD sR) ?_)
 have e9 : solL ar rs a b ts n = os := by unfold solL; rw [if_pos hok, hos, show k = ts.length from by omega]
 exact ⟨_, rfl, by rw [e9]; exact hf5, rfl⟩
end Go.Proofs.Ytmaaifhmhclhdaa
set_option linter.unusedSimpArgs false
set_option linter.unusedVariables false
namespace Go.Proofs.Ytmaaifhmhclhdaa
open Go X M Try

/- spec.SubstOk -/
theorem sSubstOk_spec {F : FH} {L : List HP} {arv : Value} {ar : List Int} (har : IntsF F arv ar) {sv : Value} {s : List (List Int)} (hs : RowsF F sv s) (hla : ar.length ≤ 4000000) (hsl : s.length ≤ 4000000) (hsb : ∀ i, i < s.length → (s.getD i []).length ≤ 4000000) :
    Does prog 86 [.agg #[arv], .agg #[sv]] F (L) (fun v F' L' => (.bool (substOk ar s) : Value) = v ∧ F = F' ∧ L = L') := by
 refine Does.of_X func86 rfl rfl rfl ?_
 refine X.seq (X.region ?_)
 refine cX (XOp.box [arv] rfl rfl ?_)
 intro b1
 refine cX (XOp.box [sv] rfl rfl ?_)
 intro b2
 refine XL.as (.bool (false)) rfl ?_
 refine XL.nil (X.seq (X.seq (X.region ?_)))
 refine cX (XOp.loadN [arv] isAgg26 sizeOf26 rfl rfl (Rd.ownN [_] rfl rfl) ?_)
 refine cX (XOp.call (args := [.agg #[arv]]) call131 rfl (sSigOk_spec har (hla := (by first | assumption | rfl | omega | simp))) ?_)
 rintro _ _ _ _ ⟨rfl, rfl, rfl⟩
 refine cX (XOp.notB (b := sigOk ar) rfl ?_)
 refine XL.mv (.bool (!(sigOk ar))) rfl ?_
 by_cases h1 : (!(sigOk ar)) = true
 ·refine XL.no (t := 9) rfl (vB h1) ?_
  refine XL.no (t := 9) rfl (vB h1) ?_
  refine XL.no (t := 9) rfl (vB h1) ?_
  refine XL.no (t := 9) rfl (vB h1) ?_
  refine cX (XOp.pickT (.bool (true)) (vB h1) rfl ?_)
  refine XL.nil ?_
  refine X.condT rfl ?_
  refine X.seq (X.region ?_)
  refine XL.as (.bool (false)) rfl ?_
  refine XL.nil ?_
  refine X.ret (thenQ_ret (retEnd (L' := L) [.bool (false)] (.bool (false)) (.tmp rfl .nil) rfl rF rF (sD (sD sR)) ?_))
  exact ⟨(vB (substOk_false (fun h => by have := h.1; have := h.2.1; simp_all <;> omega))), rfl, rfl⟩
 rw [Bool.not_eq_true] at h1
 refine XL.yes (t := 9) rfl (vB h1) (XOp.fieldP (b := b2) (0) runUnderlying57 rfl sizeOf42 (by decide) rfl rfl ?_)
 refine XL.yes (t := 9) rfl (vB h1) (XOp.load1 (v := sv) isAgg42 rfl (Rd.own [] rfl rfl) ?_)
 refine XL.yes (t := 9) rfl (vB h1) (XOp.lenS (v := sv) (n := (s).length) runUnderlying42 rfl hs.slv ?_)
 refine XL.yes (t := 9) rfl (vB h1) (XOp.gtr (a := (s.length : Int)) (b := 24) rfl rfl ?_)
 refine cX (XOp.pickF (.bool (decide (((s.length : Int) : Int) > 24))) (vB h1) rfl ?_)
 refine XL.nil ?_
 refine X.condD (p := ((s.length : Int) : Int) > 24) rfl (fun h2 => ?_) (fun h2 => ?_)
 ·refine X.seq (X.region ?_)
  refine XL.as (.bool (false)) rfl ?_
  refine XL.nil ?_
  refine X.ret (thenQ_ret (retEnd (L' := L) [.bool (false)] (.bool (false)) (.tmp rfl .nil) rfl rF rF (sD (sD sR)) ?_))
  exact ⟨(vB (substOk_false (fun h => by have := h.1; have := h.2.1; simp_all <;> omega))), rfl, rfl⟩
 refine X.skip (X.seq (X.seq (X.region ?_)))
 refine XL.as (.int .i64 (0)) rfl ?_
 refine XL.nil (X.block ?_)
 refine X.loop (α := Nat) (fun k => [(2, ptr b1 0), (3, ptr b2 0), (5, .int .i64 ((k : Int)))]) (fun k => cellsH b2 [sv] 57 :: cellsH b1 [arv] 26 :: L) (fun k F' => F = F' ∧ (k ≤ s.length) ∧ (∀ i, i < k → s.getD i [] = [] ∨ termOk ar (s.getD i []) = true)) (fun k => s.length - k) 0 ⟨rfl, rfl, rfl, trivial⟩ (sC (sC sR)) ⟨rfl, (by (try dsimp only) <;> omega), (fun i hi => absurd hi (by omega))⟩ ?_
 rintro k rE _ _ ⟨rfl, hk, hall⟩
 show X _ _ _ _ (envs [(2, ptr b1 0), (3, ptr b2 0), (5, .int .i64 ((k : Int)))] rE) _ (cellsH b2 [sv] 57 :: cellsH b1 [arv] 26 :: L)
 have hsbk := hsb k
 refine X.seq (X.seq (X.region ?_))
 refine XL.mv (.int .i64 ((k : Int))) rfl ?_
 refine cX (XOp.fieldP (b := b2) (0) runUnderlying57 rfl sizeOf42 (by decide) rfl rfl ?_)
 refine cX (XOp.load1 (v := sv) isAgg42 rfl (Rd.own [] rfl rfl) ?_)
 refine cX (XOp.lenS (v := sv) (n := (s).length) runUnderlying42 rfl hs.slv ?_)
 refine cX (XOp.lss (a := (k : Int)) (b := (s.length : Int)) rfl rfl ?_)
 refine XL.nil ?_
 refine X.condD (p := (k : Int) < (s.length : Int)) rfl (fun h3 => ?_) (fun h3 => ?_)
 ·refine X.skip (X.seq (X.block (X.seq ?_)))
  obtain ⟨a1, ha1, hr1⟩ := hs.rd (i := k) (by omega)
  by_cases h4 : (((((s.getD k [])).length : Nat) : Int) : Int) > 0
  ·refine X.draw [cellsH b2 [sv] 57, cellsH b1 [arv] 26] L 14 [[], [], [], [], [], [], [], [], [], [], [], [], [], []] [[], [0], [], [1, 2], [3], [4], [5], [6], [7], [7], [7, 9], [7], [7, 10, 11], [7, 12]] (phiL [fun us v => v = ptr b2 0, fun us v => v = sv, fun us v => v = (.int .i64 ((k : Int)) : Value), fun us v => v = (.pointer (some (elemA sv (k))) : Value), fun us v => v = a1, fun us v => v = (.int .i64 (((((s.getD k [])).length : Nat) : Int)) : Value), fun us v => v = (.bool (decide ((((((s.getD k [])).length : Nat) : Int) : Int) > 0)) : Value), fun us v => v = (.bool (decide ((((((s.getD k [])).length : Nat) : Int) : Int) > 0)) : Value), fun us v => v = (.agg #[arv] : Value), fun us v => v = ptr b2 0, fun us v => v = sv, fun us v => v = (.int .i64 ((k : Int)) : Value), fun us v => v = (.pointer (some (elemA sv (k))) : Value), fun us v => v = a1]) (ownL [fun us v => [], fun us v => [], fun us v => [], fun us v => [], fun us v => [], fun us v => [], fun us v => [], fun us v => [], fun us v => [], fun us v => [], fun us v => [], fun us v => [], fun us v => [], fun us v => []]) mixed rfl rfl (by kernel_rfl) ?_ ?_
   ·refine pC (fun vals R hpZ => ?_) ?_
    ·refine XG.op (XOp.fieldP (b := b2) (0) runUnderlying57 rfl sizeOf42 (by decide) rfl rfl ?_)
     exact ⟨rfl, rfl, rfl⟩
    refine pC (fun vals R hpZ => ?_) ?_
    ·rw [eS (l := [(0, ptr b2 0)]) ⟨hpZ 0 (by decide), trivial⟩]
     refine XG.op (XOp.load1 (v := sv) isAgg42 rfl (Rd.own [] rfl rfl) ?_)
     exact ⟨rfl, rfl, rfl⟩
    refine pC (fun vals R hpZ => ?_) ?_
    ·refine XG.op (XOp.move (.int .i64 ((k : Int))) rfl ?_)
     exact ⟨rfl, rfl, rfl⟩
    refine pC (fun vals R hpZ => ?_) ?_
    ·rw [eS (l := [(1, sv), (2, (.int .i64 ((k : Int)) : Value))]) ⟨hpZ 1 (by decide), hpZ 2 (by decide), trivial⟩]
     refine XG.op (XOp.indexS (v := sv) (i := (k : Int)) (n := (s).length) k runUnderlying42 sizeOf24 rfl rfl rfl hs.slv (by omega) (Nat.mul_one _) ?_)
     exact ⟨rfl, rfl, rfl⟩
    refine pC (fun vals R hpZ => ?_) ?_
    ·rw [eS (l := [(3, (.pointer (some (elemA sv (k))) : Value))]) ⟨hpZ 3 (by decide), trivial⟩]
     refine XG.op (XOp.load1 (v := a1) isAgg24 rfl (hr1 _) ?_)
     exact ⟨rfl, rfl, rfl⟩
    refine pC (fun vals R hpZ => ?_) ?_
    ·rw [eS (l := [(4, a1)]) ⟨hpZ 4 (by decide), trivial⟩]
     refine XG.op (XOp.lenS (v := a1) (n := ((s.getD k [])).length) runUnderlying24 rfl ha1.slv ?_)
     exact ⟨rfl, rfl, rfl⟩
    refine pC (fun vals R hpZ => ?_) ?_
    ·rw [eS (l := [(5, (.int .i64 (((((s.getD k [])).length : Nat) : Int)) : Value))]) ⟨hpZ 5 (by decide), trivial⟩]
     refine XG.op (XOp.gtr (a := ((((s.getD k [])).length : Nat) : Int)) (b := 0) rfl rfl ?_)
     exact ⟨rfl, rfl, rfl⟩
    refine pC (fun vals R hpZ => ?_) ?_
    ·rw [eS (l := [(6, (.bool (decide ((((((s.getD k [])).length : Nat) : Int) : Int) > 0)) : Value))]) ⟨hpZ 6 (by decide), trivial⟩]
     refine XG.op (XOp.move (.bool (decide ((((((s.getD k [])).length : Nat) : Int) : Int) > 0))) rfl ?_)
     exact ⟨rfl, rfl, rfl⟩
    refine pC (fun vals R hpZ => ?_) ?_
    ·rw [eS (l := [(7, (.bool (decide ((((((s.getD k [])).length : Nat) : Int) : Int) > 0)) : Value))]) ⟨hpZ 7 (by decide), trivial⟩]
     refine XG.yes (t := 29) rfl (vT h4) (XOp.loadN [arv] isAgg26 sizeOf26 rfl rfl (Rd.ownN [_] rfl rfl) ?_)
     exact ⟨rfl, rfl, rfl⟩
    refine pC (fun vals R hpZ => ?_) ?_
    ·rw [eS (l := [(7, (.bool (decide ((((((s.getD k [])).length : Nat) : Int) : Int) > 0)) : Value))]) ⟨hpZ 7 (by decide), trivial⟩]
     refine XG.yes (t := 29) rfl (vT h4) (XOp.fieldP (b := b2) (0) runUnderlying57 rfl sizeOf42 (by decide) rfl rfl ?_)
     exact ⟨rfl, rfl, rfl⟩
    refine pC (fun vals R hpZ => ?_) ?_
    ·rw [eS (l := [(7, (.bool (decide ((((((s.getD k [])).length : Nat) : Int) : Int) > 0)) : Value)), (9, ptr b2 0)]) ⟨hpZ 7 (by decide), hpZ 9 (by decide), trivial⟩]
     refine XG.yes (t := 29) rfl (vT h4) (XOp.load1 (v := sv) isAgg42 rfl (Rd.own [] rfl rfl) ?_)
     exact ⟨rfl, rfl, rfl⟩
    refine pC (fun vals R hpZ => ?_) ?_
    ·rw [eS (l := [(7, (.bool (decide ((((((s.getD k [])).length : Nat) : Int) : Int) > 0)) : Value))]) ⟨hpZ 7 (by decide), trivial⟩]
     refine XG.yes (t := 29) rfl (vT h4) (XOp.move (.int .i64 ((k : Int))) rfl ?_)
     exact ⟨rfl, rfl, rfl⟩
    refine pC (fun vals R hpZ => ?_) ?_
    ·rw [eS (l := [(7, (.bool (decide ((((((s.getD k [])).length : Nat) : Int) : Int) > 0)) : Value)), (10, sv), (11, (.int .i64 ((k : Int)) : Value))]) ⟨hpZ 7 (by decide), hpZ 10 (by decide), hpZ 11 (by decide), trivial⟩]
     refine XG.yes (t := 29) rfl (vT h4) (XOp.indexS (v := sv) (i := (k : Int)) (n := (s).length) k runUnderlying42 sizeOf24 rfl rfl rfl hs.slv (by omega) (Nat.mul_one _) ?_)
     exact ⟨rfl, rfl, rfl⟩
    refine pC (fun vals R hpZ => ?_) ?_
    ·rw [eS (l := [(7, (.bool (decide ((((((s.getD k [])).length : Nat) : Int) : Int) > 0)) : Value)), (12, (.pointer (some (elemA sv (k))) : Value))]) ⟨hpZ 7 (by decide), hpZ 12 (by decide), trivial⟩]
     refine XG.yes (t := 29) rfl (vT h4) (XOp.load1 (v := a1) isAgg24 rfl (hr1 _) ?_)
     exact ⟨rfl, rfl, rfl⟩
    exact stepsP.nil
   intro vals hphi
   rw [eS (l := [(7, (.bool (decide ((((((s.getD k [])).length : Nat) : Int) : Int) > 0)) : Value)), (8, (.agg #[arv] : Value)), (13, a1)]) ⟨(hphi 7 (by decide)), (hphi 8 (by decide)), (hphi 13 (by decide)), trivial⟩]
   show XL _ _ _ _ _ _ _ (cellsH b2 [sv] 57 :: cellsH b1 [arv] 26 :: L)
   refine XL.yes (t := 29) rfl (vT h4) (XOp.call (args := [.agg #[arv], a1]) call83 rfl (sTermOk_spec har ha1 (hla := (by first | assumption | rfl | omega | simp)) (hlt := (by first | assumption | rfl | omega | simp))) ?_)
   rintro _ _ _ _ ⟨rfl, rfl, rfl⟩
   refine XL.yes (t := 29) rfl (vT h4) (XOp.notB (b := termOk ar ((s.getD k []))) rfl ?_)
   refine cX (XOp.pickT (.bool (!(termOk ar ((s.getD k []))))) (vT h4) rfl ?_)
   refine XL.nil ?_
   refine X.cond (t := !(termOk ar ((s.getD k [])))) rfl (fun h5 => ?_) (fun h5 => ?_)
   ·refine X.seq (X.region ?_)
    refine XL.as (.bool (false)) rfl ?_
    refine XL.nil ?_
    refine X.ret (blockQ_ret (thenQ_ret (thenQ_ret (blockQ_ret (thenQ_ret (retEnd (L' := L) [.bool (false)] (.bool (false)) (.tmp rfl .nil) rfl rF rF (sD (sD sR)) ?_))))))
    exact ⟨(vB (substOk_false (fun h => by have h9 := h.2.2 k (by omega); rcases h9 with h9 | h9; (have := congrArg List.length h9; simp only [List.length_nil] at this; omega); simp_all))), rfl, rfl⟩
   refine X.skip (X.region ?_)
   refine XL.mv (.int .i64 ((k : Int))) rfl ?_
   refine cX (XOp.addR (a := (k : Int)) (b := 1) (((k + 1 : Nat) : Int)) rfl rfl (by omega) (by omega) ?_)
   refine XL.as (.int .i64 (((k + 1 : Nat) : Int))) rfl ?_
   refine XL.nil ?_
   exact ⟨k + 1, _, FLe.refl _, rF, ⟨rfl, rfl, rfl, trivial⟩, (sC (sC sR)), ⟨rfl, (by (try dsimp only) <;> omega), (fun i hi => (Nat.lt_or_ge i k).elim (fun h => hall i h) (fun h => by obtain rfl : i = k := (by omega); first | exact .inr (by assumption) | exact .inl (len_nil (by assumption)) | (have := len_nil (by assumption); simp_all) | simp_all))⟩, (by omega)⟩
  refine X.draw [cellsH b2 [sv] 57, cellsH b1 [arv] 26] L 14 [[], [], [], [], [], [], [], [], [], [], [], [], [], []] [[], [0], [], [1, 2], [3], [4], [5], [6], [7], [7], [7, 9], [7], [7, 10, 11], [7, 12]] (phiL [fun us v => v = ptr b2 0, fun us v => v = sv, fun us v => v = (.int .i64 ((k : Int)) : Value), fun us v => v = (.pointer (some (elemA sv (k))) : Value), fun us v => v = a1, fun us v => v = (.int .i64 (((((s.getD k [])).length : Nat) : Int)) : Value), fun us v => v = (.bool (decide ((((((s.getD k [])).length : Nat) : Int) : Int) > 0)) : Value), fun us v => v = (.bool (decide ((((((s.getD k [])).length : Nat) : Int) : Int) > 0)) : Value), fun us v => v = undef, fun us v => v = undef, fun us v => v = undef, fun us v => v = undef, fun us v => v = undef, fun us v => v = undef]) (ownL [fun us v => [], fun us v => [], fun us v => [], fun us v => [], fun us v => [], fun us v => [], fun us v => [], fun us v => [], fun us v => [], fun us v => [], fun us v => [], fun us v => [], fun us v => [], fun us v => []]) mixed rfl rfl (by kernel_rfl) ?_ ?_
  ·refine pC (fun vals R hpZ => ?_) ?_
   ·refine XG.op (XOp.fieldP (b := b2) (0) runUnderlying57 rfl sizeOf42 (by decide) rfl rfl ?_)
    exact ⟨rfl, rfl, rfl⟩
   refine pC (fun vals R hpZ => ?_) ?_
   ·rw [eS (l := [(0, ptr b2 0)]) ⟨hpZ 0 (by decide), trivial⟩]
    refine XG.op (XOp.load1 (v := sv) isAgg42 rfl (Rd.own [] rfl rfl) ?_)
    exact ⟨rfl, rfl, rfl⟩
   refine pC (fun vals R hpZ => ?_) ?_
   ·refine XG.op (XOp.move (.int .i64 ((k : Int))) rfl ?_)
    exact ⟨rfl, rfl, rfl⟩
   refine pC (fun vals R hpZ => ?_) ?_
   ·rw [eS (l := [(1, sv), (2, (.int .i64 ((k : Int)) : Value))]) ⟨hpZ 1 (by decide), hpZ 2 (by decide), trivial⟩]
    refine XG.op (XOp.indexS (v := sv) (i := (k : Int)) (n := (s).length) k runUnderlying42 sizeOf24 rfl rfl rfl hs.slv (by omega) (Nat.mul_one _) ?_)
    exact ⟨rfl, rfl, rfl⟩
   refine pC (fun vals R hpZ => ?_) ?_
   ·rw [eS (l := [(3, (.pointer (some (elemA sv (k))) : Value))]) ⟨hpZ 3 (by decide), trivial⟩]
    refine XG.op (XOp.load1 (v := a1) isAgg24 rfl (hr1 _) ?_)
    exact ⟨rfl, rfl, rfl⟩
   refine pC (fun vals R hpZ => ?_) ?_
   ·rw [eS (l := [(4, a1)]) ⟨hpZ 4 (by decide), trivial⟩]
    refine XG.op (XOp.lenS (v := a1) (n := ((s.getD k [])).length) runUnderlying24 rfl ha1.slv ?_)
    exact ⟨rfl, rfl, rfl⟩
   refine pC (fun vals R hpZ => ?_) ?_
   ·rw [eS (l := [(5, (.int .i64 (((((s.getD k [])).length : Nat) : Int)) : Value))]) ⟨hpZ 5 (by decide), trivial⟩]
    refine XG.op (XOp.gtr (a := ((((s.getD k [])).length : Nat) : Int)) (b := 0) rfl rfl ?_)
    exact ⟨rfl, rfl, rfl⟩
   refine pC (fun vals R hpZ => ?_) ?_
   ·rw [eS (l := [(6, (.bool (decide ((((((s.getD k [])).length : Nat) : Int) : Int) > 0)) : Value))]) ⟨hpZ 6 (by decide), trivial⟩]
    refine XG.op (XOp.move (.bool (decide ((((((s.getD k [])).length : Nat) : Int) : Int) > 0))) rfl ?_)
    exact ⟨rfl, rfl, rfl⟩
   refine pC (fun vals R hpZ => ?_) ?_
   ·rw [eS (l := [(7, (.bool (decide ((((((s.getD k [])).length : Nat) : Int) : Int) > 0)) : Value))]) ⟨hpZ 7 (by decide), trivial⟩]
    exact XG.no (t := 29) rfl (vF h4) ⟨rfl, rfl, rfl⟩
   refine pC (fun vals R hpZ => ?_) ?_
   ·rw [eS (l := [(7, (.bool (decide ((((((s.getD k [])).length : Nat) : Int) : Int) > 0)) : Value))]) ⟨hpZ 7 (by decide), trivial⟩]
    exact XG.no (t := 29) rfl (vF h4) ⟨rfl, rfl, rfl⟩
   refine pC (fun vals R hpZ => ?_) ?_
   ·rw [eS (l := [(7, (.bool (decide ((((((s.getD k [])).length : Nat) : Int) : Int) > 0)) : Value)), (9, undef)]) ⟨hpZ 7 (by decide), hpZ 9 (by decide), trivial⟩]
    exact XG.no (t := 29) rfl (vF h4) ⟨rfl, rfl, rfl⟩
   refine pC (fun vals R hpZ => ?_) ?_
   ·rw [eS (l := [(7, (.bool (decide ((((((s.getD k [])).length : Nat) : Int) : Int) > 0)) : Value))]) ⟨hpZ 7 (by decide), trivial⟩]
    exact XG.no (t := 29) rfl (vF h4) ⟨rfl, rfl, rfl⟩
   refine pC (fun vals R hpZ => ?_) ?_
   ·rw [eS (l := [(7, (.bool (decide ((((((s.getD k [])).length : Nat) : Int) : Int) > 0)) : Value)), (10, undef), (11, undef)]) ⟨hpZ 7 (by decide), hpZ 10 (by decide), hpZ 11 (by decide), trivial⟩]
    exact XG.no (t := 29) rfl (vF h4) ⟨rfl, rfl, rfl⟩
   refine pC (fun vals R hpZ => ?_) ?_
   ·rw [eS (l := [(7, (.bool (decide ((((((s.getD k [])).length : Nat) : Int) : Int) > 0)) : Value)), (12, undef)]) ⟨hpZ 7 (by decide), hpZ 12 (by decide), trivial⟩]
    exact XG.no (t := 29) rfl (vF h4) ⟨rfl, rfl, rfl⟩
   exact stepsP.nil
  intro vals hphi
  rw [eS (l := [(7, (.bool (decide ((((((s.getD k [])).length : Nat) : Int) : Int) > 0)) : Value)), (8, undef), (13, undef)]) ⟨(hphi 7 (by decide)), (hphi 8 (by decide)), (hphi 13 (by decide)), trivial⟩]
  show XL _ _ _ _ _ _ _ (cellsH b2 [sv] 57 :: cellsH b1 [arv] 26 :: L)
  refine XL.no (t := 29) rfl (vF h4) ?_
  refine XL.no (t := 29) rfl (vF h4) ?_
  refine cX (XOp.pickF (.bool (false)) (vF h4) rfl ?_)
  refine XL.nil ?_
  refine X.condF rfl ?_
  refine X.skip (X.region ?_)
  refine XL.mv (.int .i64 ((k : Int))) rfl ?_
  refine cX (XOp.addR (a := (k : Int)) (b := 1) (((k + 1 : Nat) : Int)) rfl rfl (by omega) (by omega) ?_)
  refine XL.as (.int .i64 (((k + 1 : Nat) : Int))) rfl ?_
  refine XL.nil ?_
  exact ⟨k + 1, _, FLe.refl _, rF, ⟨rfl, rfl, rfl, trivial⟩, (sC (sC sR)), ⟨rfl, (by (try dsimp only) <;> omega), (fun i hi => (Nat.lt_or_ge i k).elim (fun h => hall i h) (fun h => by obtain rfl : i = k := (by omega); first | exact .inr (by assumption) | exact .inl (len_nil (by assumption)) | (have := len_nil (by assumption); simp_all) | simp_all))⟩, (by omega)⟩
 refine X.exit (thenQ_exit (thenQ_exit (blockQ_exit ?_)))
 refine X.seq (X.region ?_)
 refine XL.as (.bool (true)) rfl ?_
 refine XL.nil ?_
 refine X.ret (retEnd (L' := L) [.bool (true)] (.bool (true)) (.tmp rfl .nil) rfl rF rF (sD (sD sR)) ?_)
 exact ⟨(vB (substOk_iff.2 ⟨by simp_all, by omega, fun i hi => hall i (by omega)⟩)), rfl, rfl⟩

/- spec.Filled -/
theorem sFilled_spec {F : FH} {L : List HP} {arv : Value} {ar : List Int} (har : IntsF F arv ar) {sv : Value} {s : List (List Int)} (hs : RowsF F sv s) {tv : Value} {t : List Int} (ht : IntsF F tv t) (hla : ar.length ≤ 4000000) (hsl : s.length ≤ 4000000) (hsb : ∀ i, i < s.length → (s.getD i []).length ≤ 4000000) (hlt : t.length ≤ 4000000) :
    Does prog 37 [.agg #[arv], .agg #[sv], tv] F (L) (fun v F' L' => ∃ (a : Value), (.tuple #[a, .bool ((filledL ar s t).isSome)] : Value) = v ∧ (IntsF F' a ((filledL ar s t).getD [])) ∧ L = L') := by
 refine Does.of_X func37 rfl rfl rfl ?_
 refine X.seq (X.region ?_)
 refine cX (XOp.box [arv] rfl rfl ?_)
 intro b1
 refine cX (XOp.box [sv] rfl rfl ?_)
 intro b2
 refine XL.as ((.slice none 0 0)) rfl ?_
 refine XL.as (.bool (false)) rfl ?_
 refine XL.nil (X.seq (X.seq (X.region ?_)))
 refine cX (XOp.loadN [arv] isAgg26 sizeOf26 rfl rfl (Rd.ownN [_] rfl rfl) ?_)
 refine cX (XOp.loadN [sv] isAgg57 sizeOf57 rfl rfl (Rd.ownN [] rfl rfl) ?_)
 refine cX (XOp.call (args := [.agg #[arv], .agg #[sv]]) call86 rfl (sSubstOk_spec har hs (hla := (by first | assumption | rfl | omega | simp)) (hsl := (by first | assumption | rfl | omega | simp)) (hsb := (by first | assumption | rfl | omega | simp))) ?_)
 rintro _ _ _ _ ⟨rfl, rfl, rfl⟩
 refine cX (XOp.notB (b := substOk ar s) rfl ?_)
 refine XL.mv (.bool (!(substOk ar s))) rfl ?_
 by_cases h1 : (!(substOk ar s)) = true
 ·refine XL.no (t := 12) rfl (vB h1) ?_
  refine XL.no (t := 12) rfl (vB h1) ?_
  refine XL.no (t := 12) rfl (vB h1) ?_
  refine XL.no (t := 12) rfl (vB h1) ?_
  refine cX (XOp.pickT (.bool (true)) (vB h1) rfl ?_)
  refine XL.nil ?_
  refine X.condT rfl ?_
  refine X.seq (X.region ?_)
  refine cX (XOp.buildSlice (s := 1) [] [.int .i64 (0)] [] runUnderlying24 sizeOf2 zeroValue2 rfl (by decide) rfl CellsAre.nil rfl ?_)
  intro v1 hv1
  refine XL.as (v1) rfl ?_
  refine XL.as (.bool (false)) rfl ?_
  refine XL.nil ?_
  show X _ _ _ _ _ _ (intsH 2 v1 ([] : List Int) :: cellsH b2 [sv] 57 :: cellsH b1 [arv] 26 :: L)
  refine X.freezeF [] _ _ rfl (fun F1 le1 hz1 => ?_)
  replace har := har.mono le1
  replace hs := hs.mono le1
  replace ht := ht.mono le1
  have hf1 : IntsF F1 v1 ([]) := intsH.fz (xs := []) hz1.fz
  refine X.ret (thenQ_ret (retEnd (L' := L) [v1, .bool (false)] (.tuple #[v1, .bool (false)]) (.tmp rfl (.tmp rfl .nil)) rfl le1 rF (sD (sD sR)) ?_))
  have e : filledL ar s t = none := by unfold filledL; rw [if_neg (by simp_all)]
  exact ⟨_, by rw [e]; rfl, by rw [e]; exact hf1, rfl⟩
 rw [Bool.not_eq_true] at h1
 have hsk : substOk ar s = true := by simpa using h1
 have hsk2 := substOk_len hsk
 have hsk3 := (substOk_iff.1 hsk).2.1
 refine XL.yes (t := 12) rfl (vB h1) (XOp.loadN [arv] isAgg26 sizeOf26 rfl rfl (Rd.ownN [_] rfl rfl) ?_)
 refine XL.yes (t := 12) rfl (vB h1) (XOp.move (tv) rfl ?_)
 refine XL.yes (t := 12) rfl (vB h1) (XOp.call (args := [.agg #[arv], tv]) call83 rfl (sTermOk_spec har ht (hla := (by first | assumption | rfl | omega | simp)) (hlt := (by first | assumption | rfl | omega | simp))) ?_)
 rintro _ _ _ _ ⟨rfl, rfl, rfl⟩
 refine XL.yes (t := 12) rfl (vB h1) (XOp.notB (b := termOk ar t) rfl ?_)
 refine cX (XOp.pickF (.bool (!(termOk ar t))) (vB h1) rfl ?_)
 refine XL.nil ?_
 refine X.cond (t := !(termOk ar t)) rfl (fun h2 => ?_) (fun h2 => ?_)
 ·refine X.seq (X.region ?_)
  refine cX (XOp.buildSlice (s := 1) [] [.int .i64 (0)] [] runUnderlying24 sizeOf2 zeroValue2 rfl (by decide) rfl CellsAre.nil rfl ?_)
  intro v2 hv2
  refine XL.as (v2) rfl ?_
  refine XL.as (.bool (false)) rfl ?_
  refine XL.nil ?_
  show X _ _ _ _ _ _ (intsH 2 v2 ([] : List Int) :: cellsH b2 [sv] 57 :: cellsH b1 [arv] 26 :: L)
  refine X.freezeF [] _ _ rfl (fun F2 le2 hz2 => ?_)
  replace hs := hs.mono le2
  replace ht := ht.mono le2
  have hf2 : IntsF F2 v2 ([]) := intsH.fz (xs := []) hz2.fz
  refine X.ret (thenQ_ret (retEnd (L' := L) [v2, .bool (false)] (.tuple #[v2, .bool (false)]) (.tmp rfl (.tmp rfl .nil)) rfl le2 rF (sD (sD sR)) ?_))
  have e : filledL ar s t = none := by unfold filledL; rw [if_neg (by simp_all)]
  exact ⟨_, by rw [e]; rfl, by rw [e]; exact hf2, rfl⟩
 have hto : termOk ar t = true := by simpa using h2
 have htl2 := termOk_len hto
 have htg := fun k (hk : k < t.length) => termOk_ge hto hk
 refine X.skip (X.seq (X.region ?_))
 refine cX (XOp.loadN [sv] isAgg57 sizeOf57 rfl rfl (Rd.ownN [] rfl rfl) ?_)
 refine XL.mv (tv) rfl ?_
 refine cX (XOp.call (args := [.agg #[sv], tv]) call84 rfl (l2Filled_spec hs ht (hsl := (by first | assumption | rfl | omega | simp)) (hsb := (fun i => by have := hsk2 i; omega)) (htl := (by first | assumption | rfl | omega | simp)) (htg := (fun k hk => by have := htg k hk; omega))) ?_)
 rintro _ F3 _ le3 ⟨x1, rfl, hr1, rfl⟩
 refine cX (XOp.extract (x1) rfl rfl ?_)
 refine cX (XOp.extract (.bool ((fillL s t).isSome)) rfl rfl ?_)
 refine XL.as (x1) rfl ?_
 refine XL.as (.bool ((fillL s t).isSome)) rfl ?_
 refine XL.nil ?_
 refine X.ret (retEnd (L' := L) [x1, .bool ((fillL s t).isSome)] (.tuple #[x1, .bool ((fillL s t).isSome)]) (.tmp rfl (.tmp rfl .nil)) rfl le3 rF (sD (sD sR)) ?_)
 have e : filledL ar s t = fillL s t := by unfold filledL; rw [if_pos ⟨hsk, hto⟩]
 exact ⟨_, by rw [e], by rw [e]; exact hr1, rfl⟩
end Go.Proofs.Ytmaaifhmhclhdaa
