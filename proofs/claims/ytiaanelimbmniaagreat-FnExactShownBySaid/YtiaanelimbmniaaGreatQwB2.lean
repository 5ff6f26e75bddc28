/-
  Walks, one after the other (part 3).
-/
import Derived.Test.YtiaanelimbmniaaGreatQwL1
import Derived.Test.YtiaanelimbmniaaGreatQwB1
set_option linter.unusedSimpArgs false
set_option linter.unusedVariables false
namespace Go.Proofs.YtiaanelimbmniaaGreat
open Go X M Tryz

/- spec.l2Filled -/
theorem l2Filled_spec {F : FH} {L : List HP} {sv : Value} {s : List (List Int)} (hs : RowsF F sv s) {tv : Value} {t : List Int} (ht : IntsF F tv t) (hsl : s.length ≤ 4000000) (hsb : ∀ i, (s.getD i []).length ≤ 4000000) (htl : t.length ≤ 4000000) (htg : ∀ k, k < t.length → -4000000 ≤ t.getD k 0) :
    Does prog 174 [.agg #[sv], tv] F (L) (fun v F' L' => ∃ (a : Value), (.tuple #[a, .bool ((fillL s t).isSome)] : Value) = v ∧ (IntsF F' a ((fillL s t).getD [])) ∧ L = L') := by
 refine Does.of_X func174 rfl rfl rfl ?_
 refine X.seq (X.region ?_)
 refine cX (XOp.box [sv] rfl rfl ?_)
 intro b1
 refine XL.as ((.slice none 0 0)) rfl ?_
 refine XL.as (.bool (false)) rfl ?_
 refine XL.nil (X.seq (X.region ?_))
 refine cX (XOp.buildSlice (s := 1) [] [.int .i64 (0)] [] runUnderlying22 sizeOf2 zeroValue2 rfl (by decide) rfl CellsAre.nil rfl ?_)
 intro v1 hv1
 refine XL.as (v1) rfl ?_
 refine XL.nil (X.seq (X.seq (X.region ?_)))
 refine XL.as (.int .i64 (0)) rfl ?_
 refine XL.nil (X.block ?_)
 refine X.loop (α := Nat × Value × List Int) (fun xQ => [(1, tv), (2, ptr b1 0), (6, xQ.2.1), (7, .int .i64 (((xQ.1 : Nat) : Int)))]) (fun xQ => intsH 2 xQ.2.1 xQ.2.2 :: cellsH b1 [sv] 60 :: L) (fun xQ F' => F = F' ∧ (IsSl xQ.2.1) ∧ (xQ.1 ≤ t.length) ∧ (fillL s t = fillGo s (t.drop xQ.1) xQ.2.2) ∧ (xQ.2.2.length ≤ 60)) (fun xQ => t.length - xQ.1) (0, v1, []) ⟨rfl, rfl, rfl, rfl, trivial⟩ (Sub.cons (Sub.cons sR)) ⟨rfl, ((isSl_lit hv1)), (by (try dsimp only) <;> omega), (rfl), (by simp)⟩ ?_
 rintro ⟨k, ov, os⟩ rE _ _ ⟨rfl, hov, hk, hm, hol⟩
 show X _ _ _ _ (envs [(1, tv), (2, ptr b1 0), (6, ov), (7, .int .i64 ((k : Int)))] rE) _ (intsH 2 ov os :: cellsH b1 [sv] 60 :: L)
 dsimp only at hov hk hm hol
 have htk := htg k
 have hlk0 := lk_bound (N := 4000000) (by omega) hsb (-1 - (((-1 - t.getD k 0).toNat : Nat) : Int))
 refine X.seq (X.seq (X.region ?_))
 refine XL.mv (.int .i64 ((k : Int))) rfl ?_
 refine XL.mv (tv) rfl ?_
 refine cX (XOp.lenS (v := tv) (n := (t).length) runUnderlying22 rfl ht.slv ?_)
 refine cX (XOp.lss (a := (k : Int)) (b := (t.length : Int)) rfl rfl ?_)
 refine XL.nil ?_
 refine X.condD (p := (k : Int) < (t.length : Int)) rfl (fun h1 => ?_) (fun h1 => ?_)
 ·refine X.skip (X.seq (X.block (X.seq (X.seq (X.region ?_)))))
  refine XL.mv (tv) rfl ?_
  refine XL.mv (.int .i64 ((k : Int))) rfl ?_
  refine cX (XOp.indexS (v := tv) (i := (k : Int)) (n := (t).length) k runUnderlying22 sizeOf2 rfl rfl rfl ht.slv (by omega) (Nat.mul_one _) ?_)
  refine cX (XOp.load1 (v := .int .i64 (t.getD k 0)) isAgg2 rfl (ht.rd (by omega)) ?_)
  refine cX (XOp.lss (a := t.getD k 0) (b := 0) rfl rfl ?_)
  refine XL.nil ?_
  refine X.condD (p := (t.getD k 0 : Int) < 0) rfl (fun h2 => ?_) (fun h2 => ?_)
  ·refine X.drawG [intsH 2 ov os, cellsH b1 [sv] 60] L 8 [[], [], [], [], [], [], [], []] [[], [], [], [], [2, 3], [4], [5], [1, 6]] [[], [], [], [], [], [], [], []] (phiG [fun FF us v => v = ov, fun FF us v => v = (.agg #[sv] : Value), fun FF us v => v = tv, fun FF us v => v = (.int .i64 ((k : Int)) : Value), fun FF us v => v = (.pointer (some (elemA tv (k))) : Value), fun FF us v => v = (.int .i64 (t.getD k 0) : Value), fun FF us v => v = (.int .i64 ((-1) - (t.getD k 0)) : Value), fun FF us v => ((v) : Value) = v ∧ (IntsF FF (v) (lk s (-1 - ((((-1) - (t.getD k 0)).toNat) : Int))))]) (ownL [fun us v => [], fun us v => [], fun us v => [], fun us v => [], fun us v => [], fun us v => [], fun us v => [], fun us v => []]) mixed rfl rfl (by kernel_rfl) (by kernel_rfl) (MonoG.get (MonoG.cons (fun le h => h) (MonoG.cons (fun le h => h) (MonoG.cons (fun le h => h) (MonoG.cons (fun le h => h) (MonoG.cons (fun le h => h) (MonoG.cons (fun le h => h) (MonoG.cons (fun le h => h) (MonoG.cons (fun le h => ⟨h.1, h.2.mono le⟩) MonoG.nil))))))))) ?_ ?_
   ·refine stepsG.cons (fun vals Fs R leFs hpZ => ?_) ?_
    ·refine XG.op (XOp.move (ov) rfl ?_)
     exact ⟨rfl, rfl⟩
    refine stepsG.cons (fun vals Fs R leFs hpZ => ?_) ?_
    ·replace hs := hs.mono leFs
     replace ht := ht.mono leFs
     refine XG.op (XOp.loadN [sv] isAgg60 sizeOf60 rfl rfl (Rd.ownN [_] rfl rfl) ?_)
     exact ⟨rfl, rfl⟩
    refine stepsG.cons (fun vals Fs R leFs hpZ => ?_) ?_
    ·refine XG.op (XOp.move (tv) rfl ?_)
     exact ⟨rfl, rfl⟩
    refine stepsG.cons (fun vals Fs R leFs hpZ => ?_) ?_
    ·refine XG.op (XOp.move (.int .i64 ((k : Int))) rfl ?_)
     exact ⟨rfl, rfl⟩
    refine stepsG.cons (fun vals Fs R leFs hpZ => ?_) ?_
    ·replace hs := hs.mono leFs
     replace ht := ht.mono leFs
     rw [eS (l := [(2, tv), (3, (.int .i64 ((k : Int)) : Value))]) ⟨(hpZ 2 (by decide)), (hpZ 3 (by decide)), trivial⟩]
     refine XG.op (XOp.indexS (v := tv) (i := (k : Int)) (n := (t).length) k runUnderlying22 sizeOf2 rfl rfl rfl ht.slv (by omega) (Nat.mul_one _) ?_)
     exact ⟨rfl, rfl⟩
    refine stepsG.cons (fun vals Fs R leFs hpZ => ?_) ?_
    ·replace hs := hs.mono leFs
     replace ht := ht.mono leFs
     rw [eS (l := [(4, (.pointer (some (elemA tv (k))) : Value))]) ⟨(hpZ 4 (by decide)), trivial⟩]
     refine XG.op (XOp.load1 (v := .int .i64 (t.getD k 0)) isAgg2 rfl (ht.rd (by omega)) ?_)
     exact ⟨rfl, rfl⟩
    refine stepsG.cons (fun vals Fs R leFs hpZ => ?_) ?_
    ·rw [eS (l := [(5, (.int .i64 (t.getD k 0) : Value))]) ⟨(hpZ 5 (by decide)), trivial⟩]
     refine XG.op (XOp.subR (a := -1) (b := t.getD k 0) ((-1) - (t.getD k 0)) rfl rfl (by omega) (by omega) ?_)
     exact ⟨rfl, rfl⟩
    refine stepsG.cons (fun vals Fs R leFs hpZ => ?_) ?_
    ·replace hs := hs.mono leFs
     replace ht := ht.mono leFs
     rw [eS (l := [(1, (.agg #[sv] : Value)), (6, (.int .i64 ((-1) - (t.getD k 0)) : Value))]) ⟨(hpZ 1 (by decide)), (hpZ 6 (by decide)), trivial⟩]
     refine XG.op (XOp.frzF <| XOp.call (args := [.agg #[sv], .int .i64 ((((-1) - (t.getD k 0)).toNat : Nat) : Int)]) call127 (by rw [show ((((-1) - (t.getD k 0)).toNat : Nat) : Int) = (-1) - (t.getD k 0) from by omega]; rfl) (l2Gives_spec (i := ((-1) - (t.getD k 0)).toNat) hs (hsl := (by first | assumption | rfl | omega | simp)) (hi := (by first | assumption | rfl | omega | simp)) (hsb := (hsb _))) ?_)
     rintro v3 _ _ _ ⟨rfl, hs2, rfl⟩
     refine ⟨_, _, rfl, fun F1 le1 hz1 => ?_⟩
     replace ht := ht.mono le1
     have hf1 : IntsF F1 v3 ((lk s (-1 - ((((-1) - (t.getD k 0)).toNat) : Int)))) := intsH.fz (xs := (lk s (-1 - ((((-1) - (t.getD k 0)).toNat) : Int)))) hz1.fz
     exact ⟨⟨rfl, hf1⟩, rfl⟩
    exact stepsG.nil
   ·intro vals F2 le2 hphi
    obtain ⟨e7, f7_1ha⟩ := hphi 7 (by decide)
    generalize hu1 : ((vals 7)) = u1 at e7 f7_1ha
    rw [eS (l := [(0, ov), (7, u1)]) ⟨(hphi 0 (by decide)), hu1, trivial⟩]
    replace ht := ht.mono le2
    show XL _ _ _ _ _ _ _ (intsH 2 ov os :: cellsH b1 [sv] 60 :: L)
    refine cX (XOp.appendI [] _ runUnderlying22 typeInfo2 rfl rfl rfl rfl rfl rfl f7_1ha (by (try simp only [List.length_append, List.length_nil, List.length_cons, List.length_singleton, List.length_take, List.length_drop]); omega) ?_)
    intro v4 hs3 hn1 hm1
    refine XL.as (v4) rfl ?_
    refine XL.nil (X.seq (X.region ?_))
    refine XL.mv (v4) rfl ?_
    refine cX (XOp.lenS (v := v4) (n := (os ++ ((lk s (-1 - ((((-1) - (t.getD k 0)).toNat) : Int))))).length) runUnderlying22 rfl (intsH.slv [] rfl) ?_)
    refine cX (XOp.gtr (a := (((os ++ ((lk s (-1 - ((((-1) - (t.getD k 0)).toNat) : Int))))).length : Nat) : Int)) (b := 60) rfl rfl ?_)
    refine XL.nil ?_
    refine X.condD (p := ((((os ++ ((lk s (-1 - ((((-1) - (t.getD k 0)).toNat) : Int))))).length : Nat) : Int) : Int) > 60) rfl (fun h3 => ?_) (fun h3 => ?_)
    ·refine X.seq (X.region ?_)
     refine cX (XOp.buildSlice (s := 1) [] [.int .i64 (0)] [] runUnderlying22 sizeOf2 zeroValue2 rfl (by decide) rfl CellsAre.nil rfl ?_)
     intro v5 hv2
     refine XL.as (v5) rfl ?_
     refine XL.as (.bool (false)) rfl ?_
     refine XL.nil ?_
     show X _ _ _ _ _ _ (intsH 2 v5 ([] : List Int) :: intsH 2 v4 (os ++ ((lk s (-1 - ((((-1) - (t.getD k 0)).toNat) : Int))))) :: cellsH b1 [sv] 60 :: L)
     refine X.freezeF [] _ _ rfl (fun F3 le3 hz2 => ?_)
     replace ht := ht.mono le3
     have hf2 : IntsF F3 v5 ([]) := intsH.fz (xs := []) hz2.fz
     refine X.ret (blockQ_ret (thenQ_ret (thenQ_ret (blockQ_ret (thenQ_ret (retEnd (L' := L) [v5, .bool (false)] (.tuple #[v5, .bool (false)]) (.tmp rfl (.tmp rfl .nil)) rfl (FLe.trans le2 le3) rF (Sub.drop (Sub.drop sR)) ?_))))))
     have hz : fillL s t = none := hm.trans (fillGo_long (a := os ++ ((lk s (-1 - ((((-1) - (t.getD k 0)).toNat) : Int))))) (by omega) (by rw [show (-1 - (((-1 - t.getD k 0).toNat : Nat) : Int)) = t.getD k 0 from by omega]) (by omega))
     exact ⟨_, by rw [hz]; rfl, by rw [hz]; exact hf2, rfl⟩
    ·refine X.skip (X.region ?_)
     refine XL.mv (.int .i64 ((k : Int))) rfl ?_
     refine cX (XOp.addR (a := (k : Int)) (b := 1) (((k + 1 : Nat) : Int)) rfl rfl (by omega) (by omega) ?_)
     refine XL.as (.int .i64 (((k + 1 : Nat) : Int))) rfl ?_
     refine XL.nil ?_
     exact ⟨(k + 1, v4, os ++ ((lk s (-1 - ((((-1) - (t.getD k 0)).toNat) : Int))))), _, FLe.refl _, le2, ⟨rfl, rfl, rfl, rfl, trivial⟩, (Sub.cons (Sub.cons sR)), ⟨rfl, (hs3), (by (try dsimp only) <;> omega), (by dsimp only; exact hm.trans (fillGo_next (by omega) (by rw [show (-1 - (((-1 - t.getD k 0).toNat : Nat) : Int)) = t.getD k 0 from by omega]) (by omega))), (by dsimp only; omega)⟩, (by omega)⟩
  ·refine X.region ?_
   refine XL.mv (ov) rfl ?_
   refine XL.mv (tv) rfl ?_
   refine XL.mv (.int .i64 ((k : Int))) rfl ?_
   refine cX (XOp.indexS (v := tv) (i := (k : Int)) (n := (t).length) k runUnderlying22 sizeOf2 rfl rfl rfl ht.slv (by omega) (Nat.mul_one _) ?_)
   refine cX (XOp.load1 (v := .int .i64 (t.getD k 0)) isAgg2 rfl (ht.rd (by omega)) ?_)
   refine cX (XOp.buildSlice (s := 1) [.int .i64 (t.getD k 0)] [.int .i64 (0)] [(0, [.int .i64 (t.getD k 0)])] runUnderlying22 sizeOf2 zeroValue2 rfl (by decide) rfl (.cons rfl CellsAre.nil) rfl ?_)
   intro v6 hv3
   refine cX (XOp.append1 (u := t.getD k 0) [_] _ runUnderlying22 typeInfo2 rfl rfl rfl rfl rfl rfl (SlV.own [] rfl) (Rd.sl [] rfl rfl) (by (try simp only [List.length_append, List.length_nil, List.length_cons, List.length_singleton, List.length_take, List.length_drop]); omega) ?_)
   intro v7 hs4 hn2
   refine XL.as (v7) rfl ?_
   refine XL.nil (X.seq (X.region ?_))
   refine XL.mv (v7) rfl ?_
   refine cX (XOp.lenS (v := v7) (n := (os ++ [t.getD k 0]).length) runUnderlying22 rfl (intsH.slv [_] rfl) ?_)
   refine cX (XOp.gtr (a := (((os ++ [t.getD k 0]).length : Nat) : Int)) (b := 60) rfl rfl ?_)
   refine XL.nil ?_
   refine X.condD (p := ((((os ++ [t.getD k 0]).length : Nat) : Int) : Int) > 60) rfl (fun h4 => ?_) (fun h4 => ?_)
   ·refine X.seq (X.region ?_)
    refine cX (XOp.buildSlice (s := 1) [] [.int .i64 (0)] [] runUnderlying22 sizeOf2 zeroValue2 rfl (by decide) rfl CellsAre.nil rfl ?_)
    intro v8 hv4
    refine XL.as (v8) rfl ?_
    refine XL.as (.bool (false)) rfl ?_
    refine XL.nil ?_
    show X _ _ _ _ _ _ (intsH 2 v8 ([] : List Int) :: slH 2 1 v6 1 [.int .i64 (t.getD k 0)] :: intsH 2 v7 (os ++ [t.getD k 0]) :: cellsH b1 [sv] 60 :: L)
    refine X.freezeF [] _ _ rfl (fun F4 le4 hz3 => ?_)
    have hf3 : IntsF F4 v8 ([]) := intsH.fz (xs := []) hz3.fz
    refine X.ret (blockQ_ret (thenQ_ret (thenQ_ret (blockQ_ret (thenQ_ret (retEnd (L' := L) [v8, .bool (false)] (.tuple #[v8, .bool (false)]) (.tmp rfl (.tmp rfl .nil)) rfl le4 rF (Sub.drop (Sub.drop (Sub.drop sR))) ?_))))))
    have hz : fillL s t = none := hm.trans (fillGo_long (a := os ++ [t.getD k 0]) (by omega) (by rw [lk_sym (by omega)]) (by omega))
    exact ⟨_, by rw [hz]; rfl, by rw [hz]; exact hf3, rfl⟩
   ·refine X.skip (X.region ?_)
    refine XL.mv (.int .i64 ((k : Int))) rfl ?_
    refine cX (XOp.addR (a := (k : Int)) (b := 1) (((k + 1 : Nat) : Int)) rfl rfl (by omega) (by omega) ?_)
    refine XL.as (.int .i64 (((k + 1 : Nat) : Int))) rfl ?_
    refine XL.nil ?_
    exact ⟨(k + 1, v7, os ++ [t.getD k 0]), _, FLe.refl _, rF, ⟨rfl, rfl, rfl, rfl, trivial⟩, (Sub.drop (Sub.cons (Sub.cons sR))), ⟨rfl, (hs4), (by (try dsimp only) <;> omega), (by dsimp only; exact hm.trans (fillGo_next (by omega) (by rw [lk_sym (by omega)]) (by omega))), (by dsimp only; omega)⟩, (by omega)⟩
 ·refine X.exit (thenQ_exit (thenQ_exit (blockQ_exit ?_)))
  refine X.seq (X.region ?_)
  refine XL.mv (ov) rfl ?_
  refine XL.as (ov) rfl ?_
  refine XL.as (.bool (true)) rfl ?_
  refine XL.nil ?_
  refine X.freezeF [] _ _ rfl (fun F5 le5 hz4 => ?_)
  have hf4 : IntsF F5 ov os := intsH.fz (xs := os) hz4.fz
  refine X.ret (retEnd (L' := L) [ov, .bool (true)] (.tuple #[ov, .bool (true)]) (.tmp rfl (.tmp rfl .nil)) rfl le5 rF (Sub.drop sR) ?_)
  have hz : fillL s t = some os := hm.trans (fillGo_done (by omega))
  exact ⟨_, by rw [hz]; rfl, by rw [hz]; exact hf4, rfl⟩

/- spec.l3Put -/
theorem l3Put_spec {F : FH} {L : List HP} {arv : Value} {ar : List Int} (har : IntsF F arv ar) {tv : Value} {t : List Int} (ht : IntsF F tv t) {p : Nat} {uv : Value} {u : List Int} (hu : IntsF F uv u) (ho : termOk ar t = true) (hp : p < t.length) (hul : u.length ≤ 4000000) :
    Does prog 175 [.agg #[arv], tv, .int .i64 ((p : Int)), uv] F (L) (fun v F' L' => ∃ (a : Value), (.tuple #[a, .bool ((putL ar t p u).isSome)] : Value) = v ∧ (IntsF F' a ((putL ar t p u).getD [])) ∧ L = L') := by
 refine Does.of_X func175 rfl rfl rfl ?_
 have hsig := termOk_sig ho
 have hsl := sigOk_spec hsig
 have htl := termOk_len ho
 have hee := endN_spec ho hp
 refine X.seq (X.region ?_)
 refine cX (XOp.box [arv] rfl rfl ?_)
 intro b1
 refine XL.as ((.slice none 0 0)) rfl ?_
 refine XL.as (.bool (false)) rfl ?_
 refine XL.nil (X.seq (X.region ?_))
 refine XL.mv (tv) rfl ?_
 refine XL.mv (.int .i64 ((p : Int))) rfl ?_
 refine cX (XOp.sliceI 0 p runUnderlying22 sizeOf2 rfl ht rfl ⟨_, rfl⟩ (by omega) (by omega) ?_)
 intro v1 hv1 hn1
 refine cX (XOp.call (args := [v1]) call99 rfl (l1Copy_spec hv1 (hlt := (by simp; omega))) ?_)
 rintro v2 _ _ _ ⟨rfl, hs1, rfl⟩
 refine XL.mv (uv) rfl ?_
 refine cX (XOp.appendI [] _ runUnderlying22 typeInfo2 rfl rfl rfl rfl rfl rfl hu (by (try simp only [List.length_append, List.length_nil, List.length_cons, List.length_singleton, List.length_take, List.length_drop]); omega) ?_)
 intro v3 hs2 hn2 hm1
 refine XL.as (v3) rfl ?_
 refine XL.nil (X.seq (X.region ?_))
 refine XL.mv (v3) rfl ?_
 refine XL.mv (tv) rfl ?_
 refine cX (XOp.loadN [arv] isAgg34 sizeOf34 rfl rfl (Rd.ownN [_] rfl rfl) ?_)
 refine XL.mv (tv) rfl ?_
 refine XL.mv (.int .i64 ((p : Int))) rfl ?_
 refine cX (XOp.call (args := [.agg #[arv], tv, .int .i64 (p : Int)]) call139 rfl (l1End_ok (p := p) har ht (ho := (by first | assumption | rfl | omega | (left; simp; done) | (right; simp; done))) (hp := (by first | assumption | rfl | omega | (left; simp; done) | (right; simp; done)))) ?_)
 rintro _ _ _ _ ⟨rfl, rfl, rfl⟩
 refine cX (XOp.sliceI (endN ar t p) ((t).length) runUnderlying22 sizeOf2 rfl ht ⟨_, rfl⟩ rfl (by omega) (by omega) ?_)
 intro v4 hv2 hn3
 refine cX (XOp.appendI [] _ runUnderlying22 typeInfo2 rfl rfl rfl rfl rfl rfl hv2 (by (try simp only [List.length_append, List.length_nil, List.length_cons, List.length_singleton, List.length_take, List.length_drop]); omega) ?_)
 intro v5 hs3 hn4 hm2
 refine XL.as (v5) rfl ?_
 refine XL.nil (X.seq (X.seq (X.region ?_)))
 refine XL.mv (v5) rfl ?_
 refine cX (XOp.lenS (v := v5) (n := (((((((t.drop 0).take (p - 0))))) ++ u) ++ (((t.drop (endN ar t p)).take (((t).length) - (endN ar t p))))).length) runUnderlying22 rfl (intsH.slv [] rfl) ?_)
 refine cX (XOp.gtr (a := (((((((((t.drop 0).take (p - 0))))) ++ u) ++ (((t.drop (endN ar t p)).take (((t).length) - (endN ar t p))))).length : Nat) : Int)) (b := 60) rfl rfl ?_)
 refine XL.nil ?_
 refine X.condD (p := ((((((((((t.drop 0).take (p - 0))))) ++ u) ++ (((t.drop (endN ar t p)).take (((t).length) - (endN ar t p))))).length : Nat) : Int) : Int) > 60) rfl (fun h1 => ?_) (fun h1 => ?_)
 ·refine X.seq (X.region ?_)
  refine cX (XOp.buildSlice (s := 1) [] [.int .i64 (0)] [] runUnderlying22 sizeOf2 zeroValue2 rfl (by decide) rfl CellsAre.nil rfl ?_)
  intro v6 hv3
  refine XL.as (v6) rfl ?_
  refine XL.as (.bool (false)) rfl ?_
  refine XL.nil ?_
  show X _ _ _ _ _ _ (intsH 2 v6 ([] : List Int) :: intsH 2 v5 (((((((t.drop 0).take (p - 0))))) ++ u) ++ (((t.drop (endN ar t p)).take (((t).length) - (endN ar t p))))) :: cellsH b1 [arv] 34 :: L)
  refine X.freezeF [] _ _ rfl (fun F1 le1 hz1 => ?_)
  have hf1 : IntsF F1 v6 ([]) := intsH.fz (xs := []) hz1.fz
  refine X.ret (thenQ_ret (retEnd (L' := L) [v6, .bool (false)] (.tuple #[v6, .bool (false)]) (.tmp rfl (.tmp rfl .nil)) rfl le1 rF (Sub.drop (Sub.drop sR)) ?_))
  have hz : putL ar t p u = none := putL_none put_three (by omega)
  exact ⟨_, by rw [hz]; rfl, by rw [hz]; exact hf1, rfl⟩
 ·refine X.skip (X.seq (X.region ?_))
  refine XL.mv (v5) rfl ?_
  refine XL.as (v5) rfl ?_
  refine XL.as (.bool (true)) rfl ?_
  refine XL.nil ?_
  refine X.freezeF [] _ _ rfl (fun F2 le2 hz2 => ?_)
  have hf2 : IntsF F2 v5 (((((((t.drop 0).take (p - 0))))) ++ u) ++ (((t.drop (endN ar t p)).take (((t).length) - (endN ar t p))))) := intsH.fz (xs := ((((((t.drop 0).take (p - 0))))) ++ u) ++ (((t.drop (endN ar t p)).take (((t).length) - (endN ar t p))))) hz2.fz
  refine X.ret (retEnd (L' := L) [v5, .bool (true)] (.tuple #[v5, .bool (true)]) (.tmp rfl (.tmp rfl .nil)) rfl le2 rF (Sub.drop sR) ?_)
  have hz := putL_some (ar := ar) (t := t) (p := p) (u := u) put_three (by omega)
  exact ⟨_, by rw [hz]; rfl, by rw [hz]; exact hf2, rfl⟩

/- spec.l7Step -/
theorem l7Step_spec {F : FH} {L : List HP} {arv : Value} {ar : List Int} (har : IntsF F arv ar) {rsv : Value} {rs : List (List Int × List Int)} (hrs : PairsF F rsv rs) {tv : Value} {t : List Int} (ht : IntsF F tv t) {p : Nat} {r : Nat} (hsys : sysOk ar rs = true) (ho : termOk ar t = true) (hp : p < t.length) (hr : r < rs.length) :
    Does prog 101 [.agg #[arv, rsv], tv, .int .i64 ((p : Int)), .int .i64 ((r : Int))] F (L) (fun v F' L' => ∃ (a : Value), (.tuple #[a, .bool ((stepL ar rs t p r).isSome)] : Value) = v ∧ (IntsF F' a ((stepL ar rs t p r).getD [])) ∧ L = L') := by
 refine Does.of_X func101 rfl rfl rfl ?_
 have hnn := notNil_of_pos ht (by have := termOk_len ho; omega)
 have htl := termOk_len ho
 have hrl := (sysOk_iff.1 hsys).2.1
 have hsig := (sysOk_iff.1 hsys).1
 have hsl := sigOk_spec hsig
 have hR := ruleOk_iff.1 ((sysOk_iff.1 hsys).2.2 r hr)
 have hRl := hR.left
 have hRr := hR.right
 have hso := sub_ok ho hp
 have hsb := sub_length ho hp
 have hee := endN_spec ho hp
 have hRrl := termOk_len hRr
 have hRg := fun k (hk : k < (rs.getD r ([], [])).2.length) => termOk_ge hRr hk
 have hmp := matchP_len (ar := ar) (p := (rs.getD r ([], [])).1) (t := sub ar t p)
 have hmp2 := hmp.2
 have hmp3 := hmp.1
 refine X.seq (X.region ?_)
 refine cX (XOp.box [arv, rsv] rfl rfl ?_)
 intro b1
 refine XL.as ((.slice none 0 0)) rfl ?_
 refine XL.as (.bool (false)) rfl ?_
 refine XL.nil (X.seq (X.region ?_))
 refine cX (XOp.fieldP (b := b1) (1) runUnderlying37 rfl sizeOf35 (by decide) rfl rfl ?_)
 refine cX (XOp.load1 (v := rsv) isAgg35 rfl (Rd.own [] rfl rfl) ?_)
 refine XL.mv (.int .i64 ((r : Int))) rfl ?_
 refine cX (XOp.indexS (v := rsv) (i := (r : Int)) (n := (rs).length) r runUnderlying35 sizeOf121 rfl rfl rfl hrs.slv (by omega) rfl ?_)
 obtain ⟨a1, a2, ha1, ha2, hr1, hr2⟩ := hrs.rd (i := r) (by omega)
 refine cX (XOp.loadN [a1, a2] isAgg121 sizeOf121 rfl rfl (Rd.two (hr1 _) (hr2 _)) ?_)
 refine cX (XOp.alloc [(.slice none 0 0), (.slice none 0 0)] zeroValue121 rfl ?_)
 intro b2
 refine cX (XOp.storeN (vs := [a1, a2]) [] _ [a1, a2] sizeOf121 rfl rfl rfl (ones_cons (one_sl (IntsF.isSl ha1)) (ones_cons (one_sl (IntsF.isSl ha2)) ones_nil)) rfl rfl rfl ?_)
 refine XL.nil (X.seq ?_)
 refine X.drawG [cellsH b2 [a1, a2] 121, cellsH b1 [arv, rsv] 37] L 15 [[], [], [], [], [], [], [], [], [], [], [9], [9], [], [], [9, 13]] [[], [0], [], [2], [], [4], [], [], [5, 6, 7], [1, 3, 8], [9], [9, 10], [9, 10], [], [9, 11, 13]] [[], [], [], [], [], [], [], [], [], [], [], [], [], [], [13]] (phiG [fun FF us v => v = ptr b1 0, fun FF us v => v = (.agg #[arv] : Value), fun FF us v => v = ptr b2 0, fun FF us v => v = a1, fun FF us v => v = ptr b1 0, fun FF us v => v = (.agg #[arv] : Value), fun FF us v => v = tv, fun FF us v => v = (.int .i64 ((p : Int)) : Value), fun FF us v => ((v) : Value) = v ∧ (IntsF FF (v) (sub ar t p)), fun FF us v => (.tuple #[.agg #[((aggAt (tupAt v 0) 0))], .bool ((matchB ar ((rs.getD r ([], [])).1) ((sub ar t p))).isSome)] : Value) = v ∧ (RowsF FF ((aggAt (tupAt v 0) 0)) (matchP ar ((rs.getD r ([], [])).1) ((sub ar t p)))), fun FF us v => v = (.tuple #[.agg #[((aggAt (tupAt (us.getD 0 undef) 0) 0))], .bool ((matchB ar ((rs.getD r ([], [])).1) ((sub ar t p))).isSome)] : Value), fun FF us v => v = (.agg #[((aggAt (tupAt (us.getD 0 undef) 0) 0))] : Value), fun FF us v => v = (.bool ((matchB ar ((rs.getD r ([], [])).1) ((sub ar t p))).isSome) : Value), fun FF us v => v = ptr (blk v) 0, fun FF us v => True]) (ownL [fun us v => [], fun us v => [], fun us v => [], fun us v => [], fun us v => [], fun us v => [], fun us v => [], fun us v => [], fun us v => [], fun us v => [], fun us v => [], fun us v => [], fun us v => [], fun us v => [cellsH (blk v) [(.slice none 0 0)] 60], fun us v => [cellsH (blk (us.getD 1 undef)) [((aggAt (tupAt (us.getD 0 undef) 0) 0))] 60]]) mixed rfl rfl (by kernel_rfl) (by kernel_rfl) (MonoG.get (MonoG.cons (fun le h => h) (MonoG.cons (fun le h => h) (MonoG.cons (fun le h => h) (MonoG.cons (fun le h => h) (MonoG.cons (fun le h => h) (MonoG.cons (fun le h => h) (MonoG.cons (fun le h => h) (MonoG.cons (fun le h => h) (MonoG.cons (fun le h => ⟨h.1, h.2.mono le⟩) (MonoG.cons (fun le h => ⟨h.1, h.2.mono le⟩) (MonoG.cons (fun le h => h) (MonoG.cons (fun le h => h) (MonoG.cons (fun le h => h) (MonoG.cons (fun le h => h) (MonoG.cons (fun le h => h) MonoG.nil)))))))))))))))) ?_ ?_
 ·refine stepsG.cons (fun vals Fs R leFs hpZ => ?_) ?_
  ·refine XG.op (XOp.fieldP (b := b1) (0) runUnderlying37 rfl sizeOf34 (by decide) rfl rfl ?_)
   exact ⟨rfl, rfl⟩
  refine stepsG.cons (fun vals Fs R leFs hpZ => ?_) ?_
  ·replace har := har.mono leFs
   replace ht := ht.mono leFs
   replace ha1 := ha1.mono leFs
   replace ha2 := ha2.mono leFs
   rw [eS (l := [(0, ptr b1 0)]) ⟨(hpZ 0 (by decide)), trivial⟩]
   refine XG.op (XOp.loadN [arv] isAgg34 sizeOf34 rfl rfl (Rd.ownN [_] rfl rfl) ?_)
   exact ⟨rfl, rfl⟩
  refine stepsG.cons (fun vals Fs R leFs hpZ => ?_) ?_
  ·refine XG.op (XOp.fieldP (b := b2) (0) runUnderlying121 rfl sizeOf22 (by decide) rfl rfl ?_)
   exact ⟨rfl, rfl⟩
  refine stepsG.cons (fun vals Fs R leFs hpZ => ?_) ?_
  ·replace har := har.mono leFs
   replace ht := ht.mono leFs
   replace ha1 := ha1.mono leFs
   replace ha2 := ha2.mono leFs
   rw [eS (l := [(2, ptr b2 0)]) ⟨(hpZ 2 (by decide)), trivial⟩]
   refine XG.op (XOp.load1 (v := a1) isAgg22 rfl (Rd.own [] rfl rfl) ?_)
   exact ⟨rfl, rfl⟩
  refine stepsG.cons (fun vals Fs R leFs hpZ => ?_) ?_
  ·refine XG.op (XOp.fieldP (b := b1) (0) runUnderlying37 rfl sizeOf34 (by decide) rfl rfl ?_)
   exact ⟨rfl, rfl⟩
  refine stepsG.cons (fun vals Fs R leFs hpZ => ?_) ?_
  ·replace har := har.mono leFs
   replace ht := ht.mono leFs
   replace ha1 := ha1.mono leFs
   replace ha2 := ha2.mono leFs
   rw [eS (l := [(4, ptr b1 0)]) ⟨(hpZ 4 (by decide)), trivial⟩]
   refine XG.op (XOp.loadN [arv] isAgg34 sizeOf34 rfl rfl (Rd.ownN [_] rfl rfl) ?_)
   exact ⟨rfl, rfl⟩
  refine stepsG.cons (fun vals Fs R leFs hpZ => ?_) ?_
  ·refine XG.op (XOp.move (tv) rfl ?_)
   exact ⟨rfl, rfl⟩
  refine stepsG.cons (fun vals Fs R leFs hpZ => ?_) ?_
  ·refine XG.op (XOp.move (.int .i64 ((p : Int))) rfl ?_)
   exact ⟨rfl, rfl⟩
  refine stepsG.cons (fun vals Fs R leFs hpZ => ?_) ?_
  ·replace har := har.mono leFs
   replace ht := ht.mono leFs
   replace ha1 := ha1.mono leFs
   replace ha2 := ha2.mono leFs
   rw [eS (l := [(5, (.agg #[arv] : Value)), (6, tv), (7, (.int .i64 ((p : Int)) : Value))]) ⟨(hpZ 5 (by decide)), (hpZ 6 (by decide)), (hpZ 7 (by decide)), trivial⟩]
   refine XG.op (XOp.frzF <| XOp.call (args := [.agg #[arv], tv, .int .i64 (p : Int)]) call173 rfl (l1Sub_spec (p := p) har ht (ho := (by first | assumption | rfl | omega | simp)) (hp := (by first | assumption | rfl | omega | simp))) ?_)
   rintro v2 _ _ _ ⟨rfl, hs2, rfl⟩
   refine ⟨_, _, rfl, fun F2 le2 hz1 => ?_⟩
   replace har := har.mono le2
   replace ht := ht.mono le2
   replace ha1 := ha1.mono le2
   replace ha2 := ha2.mono le2
   have hf1 : IntsF F2 v2 ((sub ar t p)) := intsH.fz (xs := (sub ar t p)) hz1.fz
   exact ⟨⟨rfl, hf1⟩, rfl⟩
  refine stepsG.cons (fun vals Fs R leFs hpZ => ?_) ?_
  ·obtain ⟨e8, f8_1ha⟩ := hpZ 8 (by decide)
   replace har := har.mono leFs
   replace ht := ht.mono leFs
   replace ha1 := ha1.mono leFs
   replace ha2 := ha2.mono leFs
   rw [eS (l := [(1, (.agg #[arv] : Value)), (3, a1), (8, ((vals 8)))]) ⟨(hpZ 1 (by decide)), (hpZ 3 (by decide)), (e8).symm, trivial⟩]
   refine XG.op (XOp.call (args := [.agg #[arv], a1, ((vals 8))]) call172 rfl (l4Match_spec har ha1 f8_1ha (ho := (by first | assumption | rfl | omega | simp)) (hpo := (by first | assumption | rfl | omega | simp))) ?_)
   rintro _ F3 _ le3 ⟨x2, rfl, hr4, rfl⟩
   replace har := har.mono le3
   replace ht := ht.mono le3
   replace ha2 := ha2.mono le3
   replace f8_1ha := f8_1ha.mono le3
   exact ⟨⟨rfl, hr4⟩, rfl⟩
  refine stepsG.cons (fun vals Fs R leFs hpZ => ?_) ?_
  ·obtain ⟨e9, f9_1hr⟩ := hpZ 9 (by decide)
   rw [eS (l := [(9, (.tuple #[.agg #[((aggAt (tupAt (vals 9) 0) 0))], .bool ((matchB ar ((rs.getD r ([], [])).1) ((sub ar t p))).isSome)] : Value))]) ⟨(e9).symm, trivial⟩]
   refine XG.op (XOp.move (.tuple #[.agg #[((aggAt (tupAt (vals 9) 0) 0))], .bool ((matchB ar ((rs.getD r ([], [])).1) ((sub ar t p))).isSome)]) rfl ?_)
   exact ⟨rfl, rfl⟩
  refine stepsG.cons (fun vals Fs R leFs hpZ => ?_) ?_
  ·obtain ⟨e9, f9_1hr⟩ := hpZ 9 (by decide)
   have e10 : vals 10 = (.tuple #[.agg #[((aggAt (tupAt (vals 9) 0) 0))], .bool ((matchB ar ((rs.getD r ([], [])).1) ((sub ar t p))).isSome)] : Value) := hpZ 10 (by decide)
   rw [eS (l := [(9, (.tuple #[.agg #[((aggAt (tupAt (vals 9) 0) 0))], .bool ((matchB ar ((rs.getD r ([], [])).1) ((sub ar t p))).isSome)] : Value)), (10, (.tuple #[.agg #[((aggAt (tupAt (vals 9) 0) 0))], .bool ((matchB ar ((rs.getD r ([], [])).1) ((sub ar t p))).isSome)] : Value))]) ⟨(e9).symm, e10, trivial⟩]
   refine XG.op (XOp.extract (.agg #[((aggAt (tupAt (vals 9) 0) 0))]) rfl rfl ?_)
   exact ⟨rfl, rfl⟩
  refine stepsG.cons (fun vals Fs R leFs hpZ => ?_) ?_
  ·obtain ⟨e9, f9_1hr⟩ := hpZ 9 (by decide)
   have e10 : vals 10 = (.tuple #[.agg #[((aggAt (tupAt (vals 9) 0) 0))], .bool ((matchB ar ((rs.getD r ([], [])).1) ((sub ar t p))).isSome)] : Value) := hpZ 10 (by decide)
   rw [eS (l := [(9, (.tuple #[.agg #[((aggAt (tupAt (vals 9) 0) 0))], .bool ((matchB ar ((rs.getD r ([], [])).1) ((sub ar t p))).isSome)] : Value)), (10, (.tuple #[.agg #[((aggAt (tupAt (vals 9) 0) 0))], .bool ((matchB ar ((rs.getD r ([], [])).1) ((sub ar t p))).isSome)] : Value))]) ⟨(e9).symm, e10, trivial⟩]
   refine XG.op (XOp.extract (.bool ((matchB ar ((rs.getD r ([], [])).1) ((sub ar t p))).isSome)) rfl rfl ?_)
   exact ⟨rfl, rfl⟩
  refine stepsG.cons (fun vals Fs R leFs hpZ => ?_) ?_
  ·replace har := har.mono leFs
   replace ht := ht.mono leFs
   replace ha2 := ha2.mono leFs
   refine XG.op (XOp.alloc [(.slice none 0 0)] zeroValue60 rfl ?_)
   intro b4
   exact ⟨rfl, rfl⟩
  refine stepsG.cons (fun vals Fs R leFs hpZ => ?_) ?_
  ·obtain ⟨e9, f9_1hr⟩ := hpZ 9 (by decide)
   have e11 : vals 11 = (.agg #[((aggAt (tupAt (vals 9) 0) 0))] : Value) := hpZ 11 (by decide)
   have e13 : vals 13 = ptr (blk (vals 13)) 0 := hpZ 13 (by decide)
   replace har := har.mono leFs
   replace ht := ht.mono leFs
   replace ha2 := ha2.mono leFs
   rw [eS (l := [(9, (.tuple #[.agg #[((aggAt (tupAt (vals 9) 0) 0))], .bool ((matchB ar ((rs.getD r ([], [])).1) ((sub ar t p))).isSome)] : Value)), (11, (.agg #[((aggAt (tupAt (vals 9) 0) 0))] : Value)), (13, ptr (blk (vals 13)) 0)]) ⟨(e9).symm, e11, e13, trivial⟩]
   show XG _ _ _ _ _ (cellsH (blk (vals 13)) [(.slice none 0 0)] 60 :: ([cellsH b2 [a1, a2] 121, cellsH b1 [arv, rsv] 37] ++ R)) _
   refine XG.op (XOp.storeN (vs := [((aggAt (tupAt (vals 9) 0) 0))]) [] _ [((aggAt (tupAt (vals 9) 0) 0))] sizeOf60 rfl rfl rfl (ones_cons (one_sl (RowsF.isSl f9_1hr)) ones_nil) rfl rfl rfl ?_)
   exact ⟨trivial, rfl⟩
  exact stepsG.nil
 ·intro vals F4 le4 hphi
  obtain ⟨e8, f8_1ha⟩ := hphi 8 (by decide)
  obtain ⟨e9, f9_1hr⟩ := hphi 9 (by decide)
  have e10 : vals 10 = (.tuple #[.agg #[((aggAt (tupAt (vals 9) 0) 0))], .bool ((matchB ar ((rs.getD r ([], [])).1) ((sub ar t p))).isSome)] : Value) := hphi 10 (by decide)
  have e11 : vals 11 = (.agg #[((aggAt (tupAt (vals 9) 0) 0))] : Value) := hphi 11 (by decide)
  have e13 : vals 13 = ptr (blk (vals 13)) 0 := hphi 13 (by decide)
  generalize hu1 : ((vals 8)) = u1 at e8 f8_1ha e9 f9_1hr e10 e11 e13
  generalize hu2 : ((aggAt (tupAt (vals 9) 0) 0)) = u2 at e8 f8_1ha e9 f9_1hr e10 e11 e13
  generalize hu3 : blk (vals 13) = b5 at e8 f8_1ha e9 f9_1hr e10 e11 e13
  rw [eS (l := [(9, (.tuple #[.agg #[u2], .bool ((matchB ar ((rs.getD r ([], [])).1) ((sub ar t p))).isSome)] : Value)), (12, (.bool ((matchB ar ((rs.getD r ([], [])).1) ((sub ar t p))).isSome) : Value)), (13, ptr b5 0)]) ⟨(e9).symm, (hphi 12 (by decide)), e13, trivial⟩]
  replace har := har.mono le4
  replace ht := ht.mono le4
  replace ha2 := ha2.mono le4
  show XL _ _ _ _ _ _ _ (cellsH b5 [u2] 60 :: cellsH b2 [a1, a2] 121 :: cellsH b1 [arv, rsv] 37 :: L)
  refine XL.as (.bool ((matchB ar ((rs.getD r ([], [])).1) ((sub ar t p))).isSome)) rfl ?_
  refine XL.nil (X.seq (X.seq (X.region ?_)))
  refine XL.mv (.bool ((matchB ar ((rs.getD r ([], [])).1) ((sub ar t p))).isSome)) rfl ?_
  refine cX (XOp.notB (b := (matchB ar ((rs.getD r ([], [])).1) ((sub ar t p))).isSome) rfl ?_)
  refine XL.nil ?_
  refine X.cond (t := !((matchB ar ((rs.getD r ([], [])).1) ((sub ar t p))).isSome)) rfl (fun h1 => ?_) (fun h1 => ?_)
  ·have hms : (matchB ar (rs.getD r ([], [])).1 (sub ar t p)).isSome = false := by simpa using h1
   refine X.seq (X.region ?_)
   refine cX (XOp.buildSlice (s := 1) [] [.int .i64 (0)] [] runUnderlying22 sizeOf2 zeroValue2 rfl (by decide) rfl CellsAre.nil rfl ?_)
   intro v3 hv1
   refine XL.as (v3) rfl ?_
   refine XL.as (.bool (false)) rfl ?_
   refine XL.nil ?_
   show X _ _ _ _ _ _ (intsH 2 v3 ([] : List Int) :: cellsH b5 [u2] 60 :: cellsH b2 [a1, a2] 121 :: cellsH b1 [arv, rsv] 37 :: L)
   refine X.freezeF [] _ _ rfl (fun F5 le5 hz2 => ?_)
   replace har := har.mono le5
   replace ht := ht.mono le5
   replace ha2 := ha2.mono le5
   replace f9_1hr := f9_1hr.mono le5
   have hf2 : IntsF F5 v3 ([]) := intsH.fz (xs := []) hz2.fz
   refine X.ret (thenQ_ret (retEnd (L' := L) [v3, .bool (false)] (.tuple #[v3, .bool (false)]) (.tmp rfl (.tmp rfl .nil)) rfl (FLe.trans le4 le5) rF (Sub.drop (Sub.drop (Sub.drop sR))) ?_))
   have hz := stepL_nomatch hms
   exact ⟨_, by rw [hz]; rfl, by rw [hz]; exact hf2, rfl⟩
  ·have hms : (matchB ar (rs.getD r ([], [])).1 (sub ar t p)).isSome = true := by simpa using h1
   refine X.skip (X.seq (X.region ?_))
   refine cX (XOp.loadN [u2] isAgg60 sizeOf60 rfl rfl (Rd.ownN [] rfl rfl) ?_)
   refine cX (XOp.fieldP (b := b2) (1) runUnderlying121 rfl sizeOf22 (by decide) rfl rfl ?_)
   refine cX (XOp.load1 (v := a2) isAgg22 rfl (Rd.own [_] rfl rfl) ?_)
   refine cX (XOp.call (args := [.agg #[u2], a2]) call174 rfl (l2Filled_spec f9_1hr ha2 (hsl := (by first | assumption | rfl | omega | simp)) (hsb := (fun i => by have := hmp2 i; omega)) (htl := (by first | assumption | rfl | omega | simp)) (htg := (fun k hk => by have := hRg k hk; omega))) ?_)
   rintro _ F6 _ le6 ⟨x3, rfl, hr5, rfl⟩
   replace har := har.mono le6
   replace ht := ht.mono le6
   refine XL.mv (.tuple #[x3, .bool ((fillL (matchP ar ((rs.getD r ([], [])).1) ((sub ar t p))) ((rs.getD r ([], [])).2)).isSome)]) rfl ?_
   refine cX (XOp.extract (x3) rfl rfl ?_)
   refine cX (XOp.extract (.bool ((fillL (matchP ar ((rs.getD r ([], [])).1) ((sub ar t p))) ((rs.getD r ([], [])).2)).isSome)) rfl rfl ?_)
   refine XL.as (x3) rfl ?_
   refine XL.as (.bool ((fillL (matchP ar ((rs.getD r ([], [])).1) ((sub ar t p))) ((rs.getD r ([], [])).2)).isSome)) rfl ?_
   refine XL.nil (X.seq (X.seq (X.region ?_)))
   refine XL.mv (.bool ((fillL (matchP ar ((rs.getD r ([], [])).1) ((sub ar t p))) ((rs.getD r ([], [])).2)).isSome)) rfl ?_
   refine cX (XOp.notB (b := (fillL (matchP ar ((rs.getD r ([], [])).1) ((sub ar t p))) ((rs.getD r ([], [])).2)).isSome) rfl ?_)
   refine XL.nil ?_
   refine X.cond (t := !((fillL (matchP ar ((rs.getD r ([], [])).1) ((sub ar t p))) ((rs.getD r ([], [])).2)).isSome)) rfl (fun h2 => ?_) (fun h2 => ?_)
   ·have hfs : (fillL (matchP ar (rs.getD r ([], [])).1 (sub ar t p)) (rs.getD r ([], [])).2).isSome = false := by simpa using h2
    refine X.seq (X.region ?_)
    refine cX (XOp.buildSlice (s := 1) [] [.int .i64 (0)] [] runUnderlying22 sizeOf2 zeroValue2 rfl (by decide) rfl CellsAre.nil rfl ?_)
    intro v4 hv2
    refine XL.as (v4) rfl ?_
    refine XL.as (.bool (false)) rfl ?_
    refine XL.nil ?_
    show X _ _ _ _ _ _ (intsH 2 v4 ([] : List Int) :: cellsH b5 [u2] 60 :: cellsH b2 [a1, a2] 121 :: cellsH b1 [arv, rsv] 37 :: L)
    refine X.freezeF [] _ _ rfl (fun F7 le7 hz3 => ?_)
    replace har := har.mono le7
    replace ht := ht.mono le7
    replace hr5 := hr5.mono le7
    have hf3 : IntsF F7 v4 ([]) := intsH.fz (xs := []) hz3.fz
    refine X.ret (thenQ_ret (retEnd (L' := L) [v4, .bool (false)] (.tuple #[v4, .bool (false)]) (.tmp rfl (.tmp rfl .nil)) rfl (FLe.trans (FLe.trans le4 le6) le7) rF (Sub.drop (Sub.drop (Sub.drop sR))) ?_))
    have hz := stepL_nofill hms hfs
    exact ⟨_, by rw [hz]; rfl, by rw [hz]; exact hf3, rfl⟩
   ·have hfs : (fillL (matchP ar (rs.getD r ([], [])).1 (sub ar t p)) (rs.getD r ([], [])).2).isSome = true := by simpa using h2
    have hfl := fill_getD_len hfs (by omega)
    refine X.skip (X.seq (X.region ?_))
    refine cX (XOp.fieldP (b := b1) (0) runUnderlying37 rfl sizeOf34 (by decide) rfl rfl ?_)
    refine cX (XOp.loadN [arv] isAgg34 sizeOf34 rfl rfl (Rd.ownN [_, _] rfl rfl) ?_)
    refine XL.mv (tv) rfl ?_
    refine XL.mv (.int .i64 ((p : Int))) rfl ?_
    refine XL.mv (x3) rfl ?_
    refine cX (XOp.call (args := [.agg #[arv], tv, .int .i64 (p : Int), x3]) call175 rfl (l3Put_spec (p := p) har ht hr5 (ho := (by first | assumption | rfl | omega | simp)) (hp := (by first | assumption | rfl | omega | simp)) (hul := (by first | assumption | rfl | omega | simp))) ?_)
    rintro _ F8 _ le8 ⟨x4, rfl, hr6, rfl⟩
    refine cX (XOp.extract (x4) rfl rfl ?_)
    refine cX (XOp.extract (.bool ((putL ar t p ((fillL (matchP ar ((rs.getD r ([], [])).1) ((sub ar t p))) ((rs.getD r ([], [])).2)).getD [])).isSome)) rfl rfl ?_)
    refine XL.as (x4) rfl ?_
    refine XL.as (.bool ((putL ar t p ((fillL (matchP ar ((rs.getD r ([], [])).1) ((sub ar t p))) ((rs.getD r ([], [])).2)).getD [])).isSome)) rfl ?_
    refine XL.nil ?_
    refine X.ret (retEnd (L' := L) [x4, .bool ((putL ar t p ((fillL (matchP ar ((rs.getD r ([], [])).1) ((sub ar t p))) ((rs.getD r ([], [])).2)).getD [])).isSome)] (.tuple #[x4, .bool ((putL ar t p ((fillL (matchP ar ((rs.getD r ([], [])).1) ((sub ar t p))) ((rs.getD r ([], [])).2)).getD [])).isSome)]) (.tmp rfl (.tmp rfl .nil)) rfl (FLe.trans (FLe.trans le4 le6) le8) rF (Sub.drop (Sub.drop (Sub.drop sR))) ?_)
    have hz := stepL_put hms hfs
    exact ⟨_, by rw [hz], by rw [hz]; exact hr6, rfl⟩
end Go.Proofs.YtiaanelimbmniaaGreat
set_option linter.unusedSimpArgs false
set_option linter.unusedVariables false
namespace Go.Proofs.YtiaanelimbmniaaGreat
open Go X M Tryz

/- impl.walkBy -/
theorem walkBy_spec {F : FH} {L : List HP} {arv : Value} {ar : List Int} (har : IntsF F arv ar) {rsv : Value} {rs : List (List Int × List Int)} (hrs : PairsF F rsv rs) {tv : Value} {t : List Int} (ht : IntsF F tv t) {st : Int} {n : Nat} (hsys : sysOk ar rs = true) (ho : termOk ar t = true) (hst : 1 ≤ st ∧ st ≤ 3) (hn : n ≤ 60) :
    Does prog 51 [.agg #[arv, rsv], tv, .int .i64 (st), .int .i64 ((n : Int))] F (L) (fun v F' L' => ∃ (a : Value), ∃ (b : Value), (.tuple #[.agg #[a, b], .bool ((walkGo ar rs st n t).2)] : Value) = v ∧ (IntsF F' a t) ∧ (StepsF F' b (walkGo ar rs st n t).1) ∧ (Fresh F F' (star [intsH 2 a t, stepsD 2 116 b (walkGo ar rs st n t).1])) ∧ L = L') := by
 refine Does.of_X func51 rfl rfl rfl ?_
 have hnn := notNil_of_pos ht (by have := termOk_len ho; omega)
 have htl := termOk_len ho
 have hrl := (sysOk_iff.1 hsys).2.1
 have hsig := (sysOk_iff.1 hsys).1
 have hsl := sigOk_spec hsig
 refine X.seq (X.region ?_)
 refine cX (XOp.box [arv, rsv] rfl rfl ?_)
 intro b1
 refine cX (XOp.alloc [(.slice none 0 0), (.slice none 0 0)] zeroValue57 rfl ?_)
 intro b2
 refine XL.as (.bool (false)) rfl ?_
 refine XL.nil (X.seq (X.region ?_))
 refine XL.mv (tv) rfl ?_
 refine cX (XOp.frzF <| XOp.call (args := [tv]) call111 rfl (Clone_spec ht (hlt := (by first | assumption | rfl | omega | simp))) ?_)
 rintro v1 _ _ _ ⟨rfl, hs1, rfl⟩
 refine ⟨_, _, rfl, fun F1 le1 hz1 => ?_⟩
 replace har := har.mono le1
 replace hrs := hrs.mono le1
 replace ht := ht.mono le1
 have hf1 : IntsF F1 v1 ((t)) := intsH.fz (xs := (t)) hz1.fz
 refine cX (XOp.build [v1, (.slice none 0 0)] [(.slice none 0 0), (.slice none 0 0)] [(0, 1), (1, 1)] [(0, [v1])] runUnderlying57 zeroValue57 rfl (.cons rfl sizeOf22 (.cons rfl sizeOf55 PlacesAre.nil)) rfl (.cons (cells_one (IntsF.isSl hf1)) CellsAre.nil) ?_)
 refine cX (XOp.alloc [(.slice none 0 0), (.slice none 0 0)] zeroValue57 rfl ?_)
 intro b3
 refine cX (XOp.storeN (vs := [v1, (.slice none 0 0)]) [] _ [v1, (.slice none 0 0)] sizeOf57 rfl rfl rfl (ones_cons (one_sl (IntsF.isSl hf1)) (ones_cons rfl ones_nil)) rfl rfl rfl ?_)
 refine XL.nil (X.block ?_)
 refine X.loop (α := Value × List Int × Value × List StepT × List Value × List HP × Nat × FH) (fun xQ => [(1, xQ.1), (2, .int .i64 (st)), (3, .int .i64 ((n : Int))), (4, ptr b1 0), (8, ptr b2 0), (10, ptr b3 0)]) (fun xQ => slH 116 3 xQ.2.2.1 xQ.2.2.2.2.2.2.1 xQ.2.2.2.2.1 :: cellsH b3 [v1, xQ.2.2.1] 57 :: cellsH b2 [(.slice none 0 0), (.slice none 0 0)] 57 :: cellsH b1 [arv, rsv] 37 :: L) (fun xQ F' => xQ.2.2.2.2.2.2.2 = F' ∧ F1 ≤ xQ.2.2.2.2.2.2.2 ∧ (IntsF xQ.2.2.2.2.2.2.2 xQ.1 xQ.2.1) ∧ (termOk ar xQ.2.1 = true) ∧ (IsSl xQ.2.2.1) ∧ (StepsC xQ.2.2.2.2.2.2.2 xQ.2.2.2.2.1 xQ.2.2.2.1) ∧ (xQ.2.2.2.2.2.2.1 = xQ.2.2.2.1.length) ∧ (DeepL 3 (StepO 2) xQ.2.2.2.2.1 xQ.2.2.2.1 xQ.2.2.2.2.2.1) ∧ (Fresh F1 xQ.2.2.2.2.2.2.2 (star xQ.2.2.2.2.2.1)) ∧ (xQ.2.2.2.1.length ≤ n) ∧ ((walkGo ar rs st n t).1 = xQ.2.2.2.1 ++ (walkGo ar rs st (n - xQ.2.2.2.1.length) xQ.2.1).1) ∧ ((walkGo ar rs st n t).2 = (walkGo ar rs st (n - xQ.2.2.2.1.length) xQ.2.1).2)) (fun xQ => n - xQ.2.2.2.2.2.2.1) (tv, t, (.slice none 0 0), [], [], [], 0, F1) ⟨rfl, rfl, rfl, rfl, rfl, rfl, trivial⟩ (Sub.trans (Sub.addNil 116 3 _ _) (Sub.cons (Sub.cons (Sub.cons (Sub.cons sR))))) ⟨rfl, FLe.refl _, (ht), (ho), (⟨_, _, _, rfl⟩), (CO.nil), (rfl), (DeepL.nil), (Fresh.nilL), (by simp), (rfl), (rfl)⟩ ?_
 rintro ⟨cv, cur, sv, ss, cs, Ls, m, G1⟩ rE _ _ ⟨rfl, leG, hcv, hoc, hsv, hC, hm, hD, hZ, hln, hwa, hwb⟩
 show X _ _ _ _ (envs [(1, cv), (2, .int .i64 (st)), (3, .int .i64 ((n : Int))), (4, ptr b1 0), (8, ptr b2 0), (10, ptr b3 0)] rE) _ (slH 116 3 sv m cs :: cellsH b3 [v1, sv] 57 :: cellsH b2 [(.slice none 0 0), (.slice none 0 0)] 57 :: cellsH b1 [arv, rsv] 37 :: L)
 replace leG : F1 ≤ G1 := leG
 dsimp only at hcv hoc hsv hC hm hD hZ hln hwa hwb
 have hcl := termOk_len hoc
 have leG1 := leG
 replace har := har.mono leG1
 replace hrs := hrs.mono leG1
 replace hf1 := hf1.mono leG1
 refine X.block (X.seq (X.region ?_))
 refine cX (XOp.loadN [arv, rsv] isAgg37 sizeOf37 rfl rfl (Rd.ownN [_, _, _] rfl rfl) ?_)
 refine XL.mv (cv) rfl ?_
 refine XL.mv (.int .i64 (st)) rfl ?_
 refine cX (XOp.call (args := [.agg #[arv, rsv], cv, .int .i64 (st)]) call112 rfl (pick_all (st := st) har hrs hcv (by assumption) (by assumption) (by omega)) ?_)
 rintro _ _ _ _ ⟨rfl, rfl, rfl⟩
 refine XL.as (.int .i64 (pickL ar rs cur st)) rfl ?_
 refine XL.nil (X.seq (X.seq (X.region ?_)))
 refine XL.mv (.int .i64 (pickL ar rs cur st)) rfl ?_
 refine cX (XOp.lss (a := pickL ar rs cur st) (b := 0) rfl rfl ?_)
 refine XL.nil ?_
 refine X.condD (p := (pickL ar rs cur st : Int) < 0) rfl (fun h1 => ?_) (fun h1 => ?_)
 ·have he := pick_neg (ar := ar) (rs := rs) (t := cur) (st := st) (by omega)
  refine X.seq (X.region ?_)
  refine cX (XOp.loadN [v1, sv] isAgg57 sizeOf57 rfl rfl (Rd.ownN [_] rfl rfl) ?_)
  refine cX (XOp.storeN (vs := [v1, sv]) [_, _] _ [v1, sv] sizeOf57 rfl rfl rfl (ones_cons (one_sl (IntsF.isSl hf1)) (ones_cons (one_sl hsv) ones_nil)) rfl rfl rfl ?_)
  refine XL.as (.bool (true)) rfl ?_
  refine XL.nil ?_
  refine X.freezeF [] _ _ rfl (fun F2 le2 hz2 => ?_)
  replace har := har.mono le2
  replace hrs := hrs.mono le2
  replace hf1 := hf1.mono le2
  replace hcv := hcv.mono le2
  replace hC := hC.mono le2
  have hf2 : StepsF F2 sv ss := CO.fz hC (by first | rfl | simp | omega) hz2.fz
  refine X.ret (thenQ_ret (blockQ_ret (thenQ_ret (blockQ_ret (retEnd (L' := L) [.agg #[v1, sv], .bool (true)] (.tuple #[.agg #[v1, sv], .bool (true)]) (.cell rfl (loadNV [v1, sv] isAgg57 sizeOf57 rfl (Rd.ownN [_] rfl rfl)) (.tmp rfl .nil)) rfl (FLe.trans (FLe.trans le1 leG1) le2) rF (Sub.drop (Sub.drop (Sub.drop sR))) ?_)))))
  have hw := walk_nil (st := st) (m := n - ss.length) he
  have e1 : (walkGo ar rs st n t).1 = ss := by rw [hwa, hw]; simp
  have e2 : (walkGo ar rs st n t).2 = true := by rw [hwb, hw]
  exact ⟨_, _, by rw [e2], hf1, by rw [e1]; exact hf2, by rw [e1]; exact (Fresh.app (Fresh.one hz1) le1 (Fresh.one (Fresh.deep hD hZ leG1 hz2 (by omega) le2)) (FLe.trans leG1 le2)), rfl⟩
 ·obtain ⟨q, hq1, hq2, hq3, hne⟩ := (pick_spec (ar := ar) (rs := rs) (t := cur) st).resolve_left (fun h => by have := h.1; omega)
  have hpn : (pickL ar rs cur st).toNat = q := by omega
  have hrr : 0 ≤ ruleAtL ar rs cur (pickL ar rs cur st).toNat := by rw [hpn]; simpa [hasR] using hq3
  obtain ⟨k, hk1, hk2, _⟩ := (M.ruleAt_spec (ar := ar) (rs := rs) (t := cur) (p := (pickL ar rs cur st).toNat)).resolve_left (by omega)
  refine X.skip (X.seq (X.seq (X.region ?_)))
  refine cX (XOp.fieldP (b := b3) (1) runUnderlying57 rfl sizeOf55 (by decide) rfl rfl ?_)
  refine cX (XOp.load1 (v := sv) isAgg55 rfl (Rd.own [_] rfl rfl) ?_)
  refine cX (XOp.lenS (v := sv) (n := m) runUnderlying55 rfl (SlV.own [] rfl) ?_)
  refine XL.mv (.int .i64 ((n : Int))) rfl ?_
  refine cX (XOp.eql (a := (m : Int)) (b := (n : Int)) rfl rfl ?_)
  refine XL.nil ?_
  refine X.condD (p := (m : Int) = (n : Int)) rfl (fun h2 => ?_) (fun h2 => ?_)
  ·refine X.seq (X.region ?_)
   refine cX (XOp.loadN [v1, sv] isAgg57 sizeOf57 rfl rfl (Rd.ownN [_] rfl rfl) ?_)
   refine cX (XOp.storeN (vs := [v1, sv]) [_, _] _ [v1, sv] sizeOf57 rfl rfl rfl (ones_cons (one_sl (IntsF.isSl hf1)) (ones_cons (one_sl hsv) ones_nil)) rfl rfl rfl ?_)
   refine XL.as (.bool (false)) rfl ?_
   refine XL.nil ?_
   refine X.freezeF [] _ _ rfl (fun F3 le3 hz3 => ?_)
   replace har := har.mono le3
   replace hrs := hrs.mono le3
   replace hf1 := hf1.mono le3
   replace hcv := hcv.mono le3
   replace hC := hC.mono le3
   have hf3 : StepsF F3 sv ss := CO.fz hC (by first | rfl | simp | omega) hz3.fz
   refine X.ret (thenQ_ret (blockQ_ret (thenQ_ret (blockQ_ret (retEnd (L' := L) [.agg #[v1, sv], .bool (false)] (.tuple #[.agg #[v1, sv], .bool (false)]) (.cell rfl (loadNV [v1, sv] isAgg57 sizeOf57 rfl (Rd.ownN [_] rfl rfl)) (.tmp rfl .nil)) rfl (FLe.trans (FLe.trans le1 leG1) le3) rF (Sub.drop (Sub.drop (Sub.drop sR))) ?_)))))
   have hw := walk_zero (st := st) (m := n - ss.length) (by omega) hne
   have e1 : (walkGo ar rs st n t).1 = ss := by rw [hwa, hw]; simp
   have e2 : (walkGo ar rs st n t).2 = false := by rw [hwb, hw]
   exact ⟨_, _, by rw [e2], hf1, by rw [e1]; exact hf3, by rw [e1]; exact (Fresh.app (Fresh.one hz1) le1 (Fresh.one (Fresh.deep hD hZ leG1 hz3 (by omega) le3)) (FLe.trans leG1 le3)), rfl⟩
  ·refine X.skip (X.seq (X.region ?_))
   refine cX (XOp.loadN [arv, rsv] isAgg37 sizeOf37 rfl rfl (Rd.ownN [_, _, _] rfl rfl) ?_)
   refine XL.mv (cv) rfl ?_
   refine XL.mv (.int .i64 (pickL ar rs cur st)) rfl ?_
   refine cX (XOp.call (args := [.agg #[arv, rsv], cv, .int .i64 (((pickL ar rs cur st).toNat : Nat) : Int)]) call113 (by rw [show (((pickL ar rs cur st).toNat : Nat) : Int) = pickL ar rs cur st from by omega]; rfl) (ruleAt_spec (p := (pickL ar rs cur st).toNat) har hrs hcv (hsys := (by first | assumption | rfl | omega | simp)) (ho := (by first | assumption | rfl | omega | simp)) (hp := (by first | assumption | rfl | omega | simp))) ?_)
   rintro _ _ _ _ ⟨rfl, rfl, rfl⟩
   refine XL.as (.int .i64 (ruleAtL ar rs cur ((pickL ar rs cur st).toNat))) rfl ?_
   refine XL.nil (X.seq (X.region ?_))
   refine cX (XOp.loadN [arv, rsv] isAgg37 sizeOf37 rfl rfl (Rd.ownN [_, _, _] rfl rfl) ?_)
   refine XL.mv (cv) rfl ?_
   refine XL.mv (.int .i64 (pickL ar rs cur st)) rfl ?_
   refine XL.mv (.int .i64 (ruleAtL ar rs cur ((pickL ar rs cur st).toNat))) rfl ?_
   refine cX (XOp.call (args := [.agg #[arv, rsv], cv, .int .i64 (((pickL ar rs cur st).toNat : Nat) : Int), .int .i64 (((ruleAtL ar rs cur ((pickL ar rs cur st).toNat)).toNat : Nat) : Int)]) call114 (by rw [show (((pickL ar rs cur st).toNat : Nat) : Int) = pickL ar rs cur st from by omega, show (((ruleAtL ar rs cur ((pickL ar rs cur st).toNat)).toNat : Nat) : Int) = ruleAtL ar rs cur ((pickL ar rs cur st).toNat) from by omega]; rfl) (step_spec (p := (pickL ar rs cur st).toNat) (r := (ruleAtL ar rs cur ((pickL ar rs cur st).toNat)).toNat) har hrs hcv (hsys := (by first | assumption | rfl | omega | simp)) (ho := (by first | assumption | rfl | omega | simp)) (hp := (by first | assumption | rfl | omega | simp)) (hr := (by first | assumption | rfl | omega | simp))) ?_)
   rintro _ F4 _ le4 ⟨x1, rfl, hr1, hr2, hr3, rfl⟩
   replace hf1 := hf1.mono le4
   replace hC := hC.mono le4
   refine XL.mv (.tuple #[x1, .bool ((stepL ar rs cur ((pickL ar rs cur st).toNat) ((ruleAtL ar rs cur ((pickL ar rs cur st).toNat)).toNat)).isSome)]) rfl ?_
   refine cX (XOp.extract (x1) rfl rfl ?_)
   refine cX (XOp.extract (.bool ((stepL ar rs cur ((pickL ar rs cur st).toNat) ((ruleAtL ar rs cur ((pickL ar rs cur st).toNat)).toNat)).isSome)) rfl rfl ?_)
   refine XL.as (x1) rfl ?_
   refine XL.as (.bool ((stepL ar rs cur ((pickL ar rs cur st).toNat) ((ruleAtL ar rs cur ((pickL ar rs cur st).toNat)).toNat)).isSome)) rfl ?_
   refine XL.nil (X.seq (X.seq (X.region ?_)))
   refine XL.mv (.bool ((stepL ar rs cur ((pickL ar rs cur st).toNat) ((ruleAtL ar rs cur ((pickL ar rs cur st).toNat)).toNat)).isSome)) rfl ?_
   refine cX (XOp.notB (b := (stepL ar rs cur ((pickL ar rs cur st).toNat) ((ruleAtL ar rs cur ((pickL ar rs cur st).toNat)).toNat)).isSome) rfl ?_)
   refine XL.nil ?_
   refine X.cond (t := !((stepL ar rs cur ((pickL ar rs cur st).toNat) ((ruleAtL ar rs cur ((pickL ar rs cur st).toNat)).toNat)).isSome)) rfl (fun h3 => ?_) (fun h3 => ?_)
   ·have hu : (stepL ar rs cur (pickL ar rs cur st).toNat (ruleAtL ar rs cur (pickL ar rs cur st).toNat).toNat).isSome = false := by simpa using h3
    refine X.seq (X.region ?_)
    refine cX (XOp.loadN [v1, sv] isAgg57 sizeOf57 rfl rfl (Rd.ownN [_] rfl rfl) ?_)
    refine cX (XOp.storeN (vs := [v1, sv]) [_, _] _ [v1, sv] sizeOf57 rfl rfl rfl (ones_cons (one_sl (IntsF.isSl hf1)) (ones_cons (one_sl hsv) ones_nil)) rfl rfl rfl ?_)
    refine XL.as (.bool (false)) rfl ?_
    refine XL.nil ?_
    refine X.freezeF [] _ _ rfl (fun F5 le5 hz4 => ?_)
    replace hf1 := hf1.mono le5
    replace hC := hC.mono le5
    replace hr1 := hr1.mono le5
    have hf4 : StepsF F5 sv ss := CO.fz hC (by first | rfl | simp | omega) hz4.fz
    refine X.ret (thenQ_ret (blockQ_ret (thenQ_ret (blockQ_ret (retEnd (L' := L) [.agg #[v1, sv], .bool (false)] (.tuple #[.agg #[v1, sv], .bool (false)]) (.cell rfl (loadNV [v1, sv] isAgg57 sizeOf57 rfl (Rd.ownN [_] rfl rfl)) (.tmp rfl .nil)) rfl (FLe.trans (FLe.trans (FLe.trans le1 leG1) le4) le5) rF (Sub.drop (Sub.drop (Sub.drop sR))) ?_)))))
    have hw := walk_stuck (m := n - ss.length) (by omega) hne hu
    have e1 : (walkGo ar rs st n t).1 = ss := by rw [hwa, hw]; simp
    have e2 : (walkGo ar rs st n t).2 = false := by rw [hwb, hw]
    exact ⟨_, _, by rw [e2], hf1, by rw [e1]; exact hf4, by rw [e1]; exact (Fresh.app (Fresh.one hz1) le1 (Fresh.one (Fresh.deep hD (hZ.mono le4) (FLe.trans leG1 le4) hz4 (by omega) le5)) (FLe.trans (FLe.trans leG1 le4) le5)), rfl⟩
   ·obtain ⟨u, hu⟩ := Option.isSome_iff_exists.1 (show (stepL ar rs cur (pickL ar rs cur st).toNat (ruleAtL ar rs cur (pickL ar rs cur st).toNat).toNat).isSome = true from by simpa using h3)
    refine X.skip (X.seq (X.region ?_))
    refine cX (XOp.fieldP (b := b3) (1) runUnderlying57 rfl sizeOf55 (by decide) rfl rfl ?_)
    refine cX (XOp.load1 (v := sv) isAgg55 rfl (Rd.own [_] rfl rfl) ?_)
    refine XL.mv (.int .i64 (pickL ar rs cur st)) rfl ?_
    refine XL.mv (.int .i64 (ruleAtL ar rs cur ((pickL ar rs cur st).toNat))) rfl ?_
    refine XL.mv (x1) rfl ?_
    refine cX (XOp.build [.int .i64 (pickL ar rs cur st), .int .i64 (ruleAtL ar rs cur ((pickL ar rs cur st).toNat)), x1] [.int .i64 (0), .int .i64 (0), (.slice none 0 0)] [(0, 1), (1, 1), (2, 1)] [(0, [.int .i64 (pickL ar rs cur st)]), (1, [.int .i64 (ruleAtL ar rs cur ((pickL ar rs cur st).toNat))]), (2, [x1])] runUnderlying116 zeroValue116 rfl (.cons rfl sizeOf2 (.cons rfl sizeOf2 (.cons rfl sizeOf22 PlacesAre.nil))) rfl (.cons rfl (.cons rfl (.cons (cells_one (IntsF.isSl hr1)) CellsAre.nil))) ?_)
    refine cX (XOp.buildSlice (s := 3) [.int .i64 (pickL ar rs cur st), .int .i64 (ruleAtL ar rs cur ((pickL ar rs cur st).toNat)), x1] [.int .i64 (0), .int .i64 (0), (.slice none 0 0)] [(0, [.int .i64 (pickL ar rs cur st), .int .i64 (ruleAtL ar rs cur ((pickL ar rs cur st).toNat)), x1])] runUnderlying55 sizeOf116 zeroValue116 rfl (by decide) rfl (.cons rfl CellsAre.nil) rfl ?_)
    intro v2 hv1
    refine cX (XOp.append (m := 1) (bytes := 40) (cs := cs) [_] _ [.int .i64 (pickL ar rs cur st), .int .i64 (ruleAtL ar rs cur ((pickL ar rs cur st).toNat)), x1] runUnderlying55 typeInfo116 rfl rfl rfl rfl rfl rfl rfl (SlV.own [] rfl) rfl (Rd.lit [] rfl) (ones_cons rfl (ones_cons rfl (ones_cons (one_sl (IntsF.isSl hr1)) ones_nil))) (by (try simp only [List.length_append, List.length_nil, List.length_cons, List.length_singleton]); omega) (by (try simp only [List.length_append, List.length_nil, List.length_cons, List.length_singleton]); omega) ?_)
    intro v3 hs2 hn1 hm1
    have hc1 := StepsC.snoc hC (i := pickL ar rs cur st) (j := ruleAtL ar rs cur ((pickL ar rs cur st).toNat)) hr1
    refine cX (XOp.fieldP (b := b3) (1) runUnderlying57 rfl sizeOf55 (by decide) rfl rfl ?_)
    refine cX (XOp.store1 (v := v3) [_, _] _ [v1, v3] sizeOf55 rfl rfl (one_sl hs2) rfl rfl rfl ?_)
    refine XL.nil (X.region ?_)
    refine XL.mv (x1) rfl ?_
    refine XL.as (x1) rfl ?_
    refine XL.nil ?_
    exact ⟨(x1, (stepL ar rs cur ((pickL ar rs cur st).toNat) ((ruleAtL ar rs cur ((pickL ar rs cur st).toNat)).toNat)).getD [], v3, ss ++ [(pickL ar rs cur st, ruleAtL ar rs cur ((pickL ar rs cur st).toNat), (stepL ar rs cur ((pickL ar rs cur st).toNat) ((ruleAtL ar rs cur ((pickL ar rs cur st).toNat)).toNat)).getD [])], cs ++ [.int .i64 (pickL ar rs cur st), .int .i64 (ruleAtL ar rs cur ((pickL ar rs cur st).toNat)), x1], Ls ++ [intsH 2 x1 ((stepL ar rs cur ((pickL ar rs cur st).toNat) ((ruleAtL ar rs cur ((pickL ar rs cur st).toNat)).toNat)).getD [])], (m) + 1, F4), _, (FLe.trans leG1 le4), rF, ⟨rfl, rfl, rfl, rfl, rfl, rfl, trivial⟩, (Sub.drop (Sub.cons (Sub.cons (Sub.cons (Sub.cons sR))))), ⟨rfl, (FLe.trans leG1 le4), (hr1), (by dsimp only; rw [hu]; exact stepL_ok hsys hoc (by omega) (by omega) hu), (hs2), (hc1), (by (try dsimp only); rw [List.length_append]; simp only [List.length_singleton]; omega), (DeepL.snoc hD rfl ⟨_, rfl, rfl⟩), ((Fresh.app hZ leG1 (Fresh.one hr3) le4)), (by dsimp only; rw [List.length_append]; simp only [List.length_singleton]; omega), (by dsimp only; rw [hwa, walk_next (m := n - ss.length) (by omega) hne hu, hu]; simp only [Option.getD_some, List.length_append, List.length_singleton, List.append_assoc, List.singleton_append]; rw [show n - ss.length - 1 = n - (ss.length + 1) from by omega]), (by dsimp only; rw [hwb, walk_next (m := n - ss.length) (by omega) hne hu, hu]; simp only [Option.getD_some, List.length_append, List.length_singleton]; rw [show n - ss.length - 1 = n - (ss.length + 1) from by omega])⟩, (by dsimp only; omega)⟩
end Go.Proofs.YtiaanelimbmniaaGreat
set_option linter.unusedSimpArgs false
set_option linter.unusedVariables false
namespace Go.Proofs.YtiaanelimbmniaaGreat
open Go X M Tryz

/- spec.l7Redexes -/
theorem l7Redexes_spec {F : FH} {L : List HP} {arv : Value} {ar : List Int} (har : IntsF F arv ar) {rsv : Value} {rs : List (List Int × List Int)} (hrs : PairsF F rsv rs) {tv : Value} {t : List Int} (ht : IntsF F tv t) (hsys : sysOk ar rs = true) (ho : termOk ar t = true) :
    Does prog 176 [.agg #[arv, rsv], tv] F (L) (fun v F' L' => (.int .i64 (((cntP ar rs t t.length : Nat) : Int)) : Value) = v ∧ F = F' ∧ L = L') := by
 refine Does.of_X func176 rfl rfl rfl ?_
 have hnn := notNil_of_pos ht (by have := termOk_len ho; omega)
 have htl := termOk_len ho
 have hrl := (sysOk_iff.1 hsys).2.1
 have hsig := (sysOk_iff.1 hsys).1
 have hsl := sigOk_spec hsig
 refine X.seq (X.region ?_)
 refine cX (XOp.box [arv, rsv] rfl rfl ?_)
 intro b1
 refine XL.as (.int .i64 (0)) rfl ?_
 refine XL.nil (X.seq (X.region ?_))
 refine XL.as (.int .i64 (0)) rfl ?_
 refine XL.nil (X.seq (X.seq (X.region ?_)))
 refine XL.as (.int .i64 (0)) rfl ?_
 refine XL.nil (X.block ?_)
 refine X.loop (α := Nat) (fun k => [(1, tv), (2, ptr b1 0), (5, .int .i64 (((cntP ar rs t k : Nat) : Int))), (6, .int .i64 ((k : Int)))]) (fun k => cellsH b1 [arv, rsv] 37 :: L) (fun k F' => F = F' ∧ (k ≤ t.length)) (fun k => t.length - k) 0 ⟨rfl, rfl, rfl, rfl, trivial⟩ (Sub.cons sR) ⟨rfl, (by (try dsimp only) <;> omega)⟩ ?_
 rintro k rE _ _ ⟨rfl, hk⟩
 show X _ _ _ _ (envs [(1, tv), (2, ptr b1 0), (5, .int .i64 (((cntP ar rs t k : Nat) : Int))), (6, .int .i64 ((k : Int)))] rE) _ (cellsH b1 [arv, rsv] 37 :: L)
 have hcp := cntP_le (ar := ar) (rs := rs) (t := t) hrl k
 refine X.seq (X.seq (X.region ?_))
 refine XL.mv (.int .i64 ((k : Int))) rfl ?_
 refine XL.mv (tv) rfl ?_
 refine cX (XOp.lenS (v := tv) (n := (t).length) runUnderlying22 rfl ht.slv ?_)
 refine cX (XOp.lss (a := (k : Int)) (b := (t.length : Int)) rfl rfl ?_)
 refine XL.nil ?_
 refine X.condD (p := (k : Int) < (t.length : Int)) rfl (fun h1 => ?_) (fun h1 => ?_)
 ·refine X.skip (X.seq (X.block (X.seq (X.region ?_))))
  refine XL.as (.int .i64 (0)) rfl ?_
  refine XL.nil (X.block ?_)
  refine X.loop (α := Nat) (fun j => [(1, tv), (2, ptr b1 0), (5, .int .i64 (((cntP ar rs t k + cntR ar rs t k j : Nat) : Int))), (6, .int .i64 ((k : Int))), (7, .int .i64 ((j : Int)))]) (fun j => cellsH b1 [arv, rsv] 37 :: L) (fun j F' => F = F' ∧ (j ≤ rs.length)) (fun j => rs.length - j) 0 ⟨rfl, rfl, rfl, rfl, rfl, trivial⟩ (Sub.cons sR) ⟨rfl, (by (try dsimp only) <;> omega)⟩ ?_
  rintro j rE _ _ ⟨rfl, hj⟩
  show X _ _ _ _ (envs [(1, tv), (2, ptr b1 0), (5, .int .i64 (((cntP ar rs t k + cntR ar rs t k j : Nat) : Int))), (6, .int .i64 ((k : Int))), (7, .int .i64 ((j : Int)))] rE) _ (cellsH b1 [arv, rsv] 37 :: L)
  have hcr := cntR_le (ar := ar) (rs := rs) (t := t) (p := k) (k := j)
  refine X.seq (X.seq (X.region ?_))
  refine XL.mv (.int .i64 ((j : Int))) rfl ?_
  refine cX (XOp.fieldP (b := b1) (1) runUnderlying37 rfl sizeOf35 (by decide) rfl rfl ?_)
  refine cX (XOp.load1 (v := rsv) isAgg35 rfl (Rd.own [] rfl rfl) ?_)
  refine cX (XOp.lenS (v := rsv) (n := (rs).length) runUnderlying35 rfl hrs.slv ?_)
  refine cX (XOp.lss (a := (j : Int)) (b := (rs.length : Int)) rfl rfl ?_)
  refine XL.nil ?_
  refine X.condD (p := (j : Int) < (rs.length : Int)) rfl (fun h2 => ?_) (fun h2 => ?_)
  ·refine X.skip (X.seq (X.block (X.seq ?_)))
   obtain ⟨a1, a2, ha1, ha2, hr1, hr2⟩ := hrs.rd (i := j) (by omega)
   refine X.drawG [cellsH b1 [arv, rsv] 37] L 19 [[], [], [], [], [], [], [], [], [], [], [], [], [], [], [13], [13], [], [], [13, 17]] [[], [0], [], [2], [], [3, 4], [5], [6], [], [8], [], [], [9, 10, 11], [1, 7, 12], [13], [13, 14], [13, 14], [], [13, 15, 17]] [[], [], [], [], [], [], [], [], [], [], [], [], [], [], [], [], [], [], [17]] (phiG [fun FF us v => v = ptr b1 0, fun FF us v => v = (.agg #[arv] : Value), fun FF us v => v = ptr b1 1, fun FF us v => v = rsv, fun FF us v => v = (.int .i64 ((j : Int)) : Value), fun FF us v => v = (.pointer (some (elemA rsv (j * 2))) : Value), fun FF us v => v = (.pointer (some (elemA rsv (j * 2))) : Value), fun FF us v => v = a1, fun FF us v => v = ptr b1 0, fun FF us v => v = (.agg #[arv] : Value), fun FF us v => v = tv, fun FF us v => v = (.int .i64 ((k : Int)) : Value), fun FF us v => ((v) : Value) = v ∧ (IntsF FF (v) (sub ar t k)), fun FF us v => (.tuple #[.agg #[((aggAt (tupAt v 0) 0))], .bool ((matchB ar ((rs.getD j ([], [])).1) ((sub ar t k))).isSome)] : Value) = v ∧ (RowsF FF ((aggAt (tupAt v 0) 0)) (matchP ar ((rs.getD j ([], [])).1) ((sub ar t k)))), fun FF us v => v = (.tuple #[.agg #[((aggAt (tupAt (us.getD 0 undef) 0) 0))], .bool ((matchB ar ((rs.getD j ([], [])).1) ((sub ar t k))).isSome)] : Value), fun FF us v => v = (.agg #[((aggAt (tupAt (us.getD 0 undef) 0) 0))] : Value), fun FF us v => v = (.bool ((matchB ar ((rs.getD j ([], [])).1) ((sub ar t k))).isSome) : Value), fun FF us v => v = ptr (blk v) 0, fun FF us v => True]) (ownL [fun us v => [], fun us v => [], fun us v => [], fun us v => [], fun us v => [], fun us v => [], fun us v => [], fun us v => [], fun us v => [], fun us v => [], fun us v => [], fun us v => [], fun us v => [], fun us v => [], fun us v => [], fun us v => [], fun us v => [], fun us v => [cellsH (blk v) [(.slice none 0 0)] 60], fun us v => [cellsH (blk (us.getD 1 undef)) [((aggAt (tupAt (us.getD 0 undef) 0) 0))] 60]]) mixed rfl rfl (by kernel_rfl) (by kernel_rfl) (MonoG.get (MonoG.cons (fun le h => h) (MonoG.cons (fun le h => h) (MonoG.cons (fun le h => h) (MonoG.cons (fun le h => h) (MonoG.cons (fun le h => h) (MonoG.cons (fun le h => h) (MonoG.cons (fun le h => h) (MonoG.cons (fun le h => h) (MonoG.cons (fun le h => h) (MonoG.cons (fun le h => h) (MonoG.cons (fun le h => h) (MonoG.cons (fun le h => h) (MonoG.cons (fun le h => ⟨h.1, h.2.mono le⟩) (MonoG.cons (fun le h => ⟨h.1, h.2.mono le⟩) (MonoG.cons (fun le h => h) (MonoG.cons (fun le h => h) (MonoG.cons (fun le h => h) (MonoG.cons (fun le h => h) (MonoG.cons (fun le h => h) MonoG.nil)))))))))))))))))))) ?_ ?_
   ·refine stepsG.cons (fun vals Fs R leFs hpZ => ?_) ?_
    ·refine XG.op (XOp.fieldP (b := b1) (0) runUnderlying37 rfl sizeOf34 (by decide) rfl rfl ?_)
     exact ⟨rfl, rfl⟩
    refine stepsG.cons (fun vals Fs R leFs hpZ => ?_) ?_
    ·replace har := har.mono leFs
     replace hrs := hrs.mono leFs
     replace ht := ht.mono leFs
     replace ha1 := ha1.mono leFs
     replace hr1 := Rd.monoA hr1 leFs
     rw [eS (l := [(0, ptr b1 0)]) ⟨(hpZ 0 (by decide)), trivial⟩]
     refine XG.op (XOp.loadN [arv] isAgg34 sizeOf34 rfl rfl (Rd.ownN [] rfl rfl) ?_)
     exact ⟨rfl, rfl⟩
    refine stepsG.cons (fun vals Fs R leFs hpZ => ?_) ?_
    ·refine XG.op (XOp.fieldP (b := b1) (1) runUnderlying37 rfl sizeOf35 (by decide) rfl rfl ?_)
     exact ⟨rfl, rfl⟩
    refine stepsG.cons (fun vals Fs R leFs hpZ => ?_) ?_
    ·replace har := har.mono leFs
     replace hrs := hrs.mono leFs
     replace ht := ht.mono leFs
     replace ha1 := ha1.mono leFs
     replace hr1 := Rd.monoA hr1 leFs
     rw [eS (l := [(2, ptr b1 1)]) ⟨(hpZ 2 (by decide)), trivial⟩]
     refine XG.op (XOp.load1 (v := rsv) isAgg35 rfl (Rd.own [] rfl rfl) ?_)
     exact ⟨rfl, rfl⟩
    refine stepsG.cons (fun vals Fs R leFs hpZ => ?_) ?_
    ·refine XG.op (XOp.move (.int .i64 ((j : Int))) rfl ?_)
     exact ⟨rfl, rfl⟩
    refine stepsG.cons (fun vals Fs R leFs hpZ => ?_) ?_
    ·replace har := har.mono leFs
     replace hrs := hrs.mono leFs
     replace ht := ht.mono leFs
     replace ha1 := ha1.mono leFs
     replace hr1 := Rd.monoA hr1 leFs
     rw [eS (l := [(3, rsv), (4, (.int .i64 ((j : Int)) : Value))]) ⟨(hpZ 3 (by decide)), (hpZ 4 (by decide)), trivial⟩]
     refine XG.op (XOp.indexS (v := rsv) (i := (j : Int)) (n := (rs).length) j runUnderlying35 sizeOf121 rfl rfl rfl hrs.slv (by omega) rfl ?_)
     exact ⟨rfl, rfl⟩
    refine stepsG.cons (fun vals Fs R leFs hpZ => ?_) ?_
    ·rw [eS (l := [(5, (.pointer (some (elemA rsv (j * 2))) : Value))]) ⟨(hpZ 5 (by decide)), trivial⟩]
     refine XG.op (XOp.fieldE (v := rsv) (j * 2) runUnderlying121 rfl sizeOf22 (by decide) rfl rfl ?_)
     exact ⟨rfl, rfl⟩
    refine stepsG.cons (fun vals Fs R leFs hpZ => ?_) ?_
    ·replace har := har.mono leFs
     replace ht := ht.mono leFs
     replace ha1 := ha1.mono leFs
     replace hr1 := Rd.monoA hr1 leFs
     rw [eS (l := [(6, (.pointer (some (elemA rsv (j * 2))) : Value))]) ⟨(hpZ 6 (by decide)), trivial⟩]
     refine XG.op (XOp.load1 (v := a1) isAgg22 rfl (hr1 _) ?_)
     exact ⟨rfl, rfl⟩
    refine stepsG.cons (fun vals Fs R leFs hpZ => ?_) ?_
    ·refine XG.op (XOp.fieldP (b := b1) (0) runUnderlying37 rfl sizeOf34 (by decide) rfl rfl ?_)
     exact ⟨rfl, rfl⟩
    refine stepsG.cons (fun vals Fs R leFs hpZ => ?_) ?_
    ·replace har := har.mono leFs
     replace ht := ht.mono leFs
     replace ha1 := ha1.mono leFs
     rw [eS (l := [(8, ptr b1 0)]) ⟨(hpZ 8 (by decide)), trivial⟩]
     refine XG.op (XOp.loadN [arv] isAgg34 sizeOf34 rfl rfl (Rd.ownN [] rfl rfl) ?_)
     exact ⟨rfl, rfl⟩
    refine stepsG.cons (fun vals Fs R leFs hpZ => ?_) ?_
    ·refine XG.op (XOp.move (tv) rfl ?_)
     exact ⟨rfl, rfl⟩
    refine stepsG.cons (fun vals Fs R leFs hpZ => ?_) ?_
    ·refine XG.op (XOp.move (.int .i64 ((k : Int))) rfl ?_)
     exact ⟨rfl, rfl⟩
    refine stepsG.cons (fun vals Fs R leFs hpZ => ?_) ?_
    ·replace har := har.mono leFs
     replace ht := ht.mono leFs
     replace ha1 := ha1.mono leFs
     rw [eS (l := [(9, (.agg #[arv] : Value)), (10, tv), (11, (.int .i64 ((k : Int)) : Value))]) ⟨(hpZ 9 (by decide)), (hpZ 10 (by decide)), (hpZ 11 (by decide)), trivial⟩]
     refine XG.op (XOp.frzF <| XOp.call (args := [.agg #[arv], tv, .int .i64 (k : Int)]) call173 rfl (l1Sub_spec (p := k) har ht (ho := (by first | assumption | rfl | omega | simp)) (hp := (by first | assumption | rfl | omega | simp))) ?_)
     rintro v2 _ _ _ ⟨rfl, hs2, rfl⟩
     refine ⟨_, _, rfl, fun F2 le2 hz1 => ?_⟩
     replace har := har.mono le2
     replace ha1 := ha1.mono le2
     have hf1 : IntsF F2 v2 ((sub ar t k)) := intsH.fz (xs := (sub ar t k)) hz1.fz
     exact ⟨⟨rfl, hf1⟩, rfl⟩
    refine stepsG.cons (fun vals Fs R leFs hpZ => ?_) ?_
    ·obtain ⟨e12, f12_1ha⟩ := hpZ 12 (by decide)
     replace har := har.mono leFs
     replace ha1 := ha1.mono leFs
     rw [eS (l := [(1, (.agg #[arv] : Value)), (7, a1), (12, ((vals 12)))]) ⟨(hpZ 1 (by decide)), (hpZ 7 (by decide)), (e12).symm, trivial⟩]
     refine XG.op (XOp.call (args := [.agg #[arv], a1, ((vals 12))]) call172 rfl (l4Match_spec har ha1 f12_1ha (ho := (sub_ok ho (by omega))) (hpo := ((ruleOk_iff.1 ((sysOk_iff.1 hsys).2.2 j (by omega))).left))) ?_)
     rintro _ F3 _ le3 ⟨x2, rfl, hr4, rfl⟩
     replace har := har.mono le3
     replace f12_1ha := f12_1ha.mono le3
     exact ⟨⟨rfl, hr4⟩, rfl⟩
    refine stepsG.cons (fun vals Fs R leFs hpZ => ?_) ?_
    ·obtain ⟨e13, f13_1hr⟩ := hpZ 13 (by decide)
     rw [eS (l := [(13, (.tuple #[.agg #[((aggAt (tupAt (vals 13) 0) 0))], .bool ((matchB ar ((rs.getD j ([], [])).1) ((sub ar t k))).isSome)] : Value))]) ⟨(e13).symm, trivial⟩]
     refine XG.op (XOp.move (.tuple #[.agg #[((aggAt (tupAt (vals 13) 0) 0))], .bool ((matchB ar ((rs.getD j ([], [])).1) ((sub ar t k))).isSome)]) rfl ?_)
     exact ⟨rfl, rfl⟩
    refine stepsG.cons (fun vals Fs R leFs hpZ => ?_) ?_
    ·obtain ⟨e13, f13_1hr⟩ := hpZ 13 (by decide)
     have e14 : vals 14 = (.tuple #[.agg #[((aggAt (tupAt (vals 13) 0) 0))], .bool ((matchB ar ((rs.getD j ([], [])).1) ((sub ar t k))).isSome)] : Value) := hpZ 14 (by decide)
     rw [eS (l := [(13, (.tuple #[.agg #[((aggAt (tupAt (vals 13) 0) 0))], .bool ((matchB ar ((rs.getD j ([], [])).1) ((sub ar t k))).isSome)] : Value)), (14, (.tuple #[.agg #[((aggAt (tupAt (vals 13) 0) 0))], .bool ((matchB ar ((rs.getD j ([], [])).1) ((sub ar t k))).isSome)] : Value))]) ⟨(e13).symm, e14, trivial⟩]
     refine XG.op (XOp.extract (.agg #[((aggAt (tupAt (vals 13) 0) 0))]) rfl rfl ?_)
     exact ⟨rfl, rfl⟩
    refine stepsG.cons (fun vals Fs R leFs hpZ => ?_) ?_
    ·obtain ⟨e13, f13_1hr⟩ := hpZ 13 (by decide)
     have e14 : vals 14 = (.tuple #[.agg #[((aggAt (tupAt (vals 13) 0) 0))], .bool ((matchB ar ((rs.getD j ([], [])).1) ((sub ar t k))).isSome)] : Value) := hpZ 14 (by decide)
     rw [eS (l := [(13, (.tuple #[.agg #[((aggAt (tupAt (vals 13) 0) 0))], .bool ((matchB ar ((rs.getD j ([], [])).1) ((sub ar t k))).isSome)] : Value)), (14, (.tuple #[.agg #[((aggAt (tupAt (vals 13) 0) 0))], .bool ((matchB ar ((rs.getD j ([], [])).1) ((sub ar t k))).isSome)] : Value))]) ⟨(e13).symm, e14, trivial⟩]
     refine XG.op (XOp.extract (.bool ((matchB ar ((rs.getD j ([], [])).1) ((sub ar t k))).isSome)) rfl rfl ?_)
     exact ⟨rfl, rfl⟩
    refine stepsG.cons (fun vals Fs R leFs hpZ => ?_) ?_
    ·replace har := har.mono leFs
     refine XG.op (XOp.alloc [(.slice none 0 0)] zeroValue60 rfl ?_)
     intro b3
     exact ⟨rfl, rfl⟩
    refine stepsG.cons (fun vals Fs R leFs hpZ => ?_) ?_
    ·obtain ⟨e13, f13_1hr⟩ := hpZ 13 (by decide)
     have e15 : vals 15 = (.agg #[((aggAt (tupAt (vals 13) 0) 0))] : Value) := hpZ 15 (by decide)
     have e17 : vals 17 = ptr (blk (vals 17)) 0 := hpZ 17 (by decide)
     rw [eS (l := [(13, (.tuple #[.agg #[((aggAt (tupAt (vals 13) 0) 0))], .bool ((matchB ar ((rs.getD j ([], [])).1) ((sub ar t k))).isSome)] : Value)), (15, (.agg #[((aggAt (tupAt (vals 13) 0) 0))] : Value)), (17, ptr (blk (vals 17)) 0)]) ⟨(e13).symm, e15, e17, trivial⟩]
     show XG _ _ _ _ _ (cellsH (blk (vals 17)) [(.slice none 0 0)] 60 :: ([cellsH b1 [arv, rsv] 37] ++ R)) _
     refine XG.op (XOp.storeN (vs := [((aggAt (tupAt (vals 13) 0) 0))]) [] _ [((aggAt (tupAt (vals 13) 0) 0))] sizeOf60 rfl rfl rfl (ones_cons (one_sl (RowsF.isSl f13_1hr)) ones_nil) rfl rfl rfl ?_)
     exact ⟨trivial, rfl⟩
    exact stepsG.nil
   ·intro vals F4 le4 hphi
    obtain ⟨e12, f12_1ha⟩ := hphi 12 (by decide)
    obtain ⟨e13, f13_1hr⟩ := hphi 13 (by decide)
    have e14 : vals 14 = (.tuple #[.agg #[((aggAt (tupAt (vals 13) 0) 0))], .bool ((matchB ar ((rs.getD j ([], [])).1) ((sub ar t k))).isSome)] : Value) := hphi 14 (by decide)
    have e15 : vals 15 = (.agg #[((aggAt (tupAt (vals 13) 0) 0))] : Value) := hphi 15 (by decide)
    have e17 : vals 17 = ptr (blk (vals 17)) 0 := hphi 17 (by decide)
    generalize hu1 : ((vals 12)) = u1 at e12 f12_1ha e13 f13_1hr e14 e15 e17
    generalize hu2 : ((aggAt (tupAt (vals 13) 0) 0)) = u2 at e12 f12_1ha e13 f13_1hr e14 e15 e17
    generalize hu3 : blk (vals 17) = b4 at e12 f12_1ha e13 f13_1hr e14 e15 e17
    rw [eS (l := [(13, (.tuple #[.agg #[u2], .bool ((matchB ar ((rs.getD j ([], [])).1) ((sub ar t k))).isSome)] : Value)), (16, (.bool ((matchB ar ((rs.getD j ([], [])).1) ((sub ar t k))).isSome) : Value)), (17, ptr b4 0)]) ⟨(e13).symm, (hphi 16 (by decide)), e17, trivial⟩]
    show XL _ _ _ _ _ _ _ (cellsH b4 [u2] 60 :: cellsH b1 [arv, rsv] 37 :: L)
    refine XL.as (.bool ((matchB ar ((rs.getD j ([], [])).1) ((sub ar t k))).isSome)) rfl ?_
    refine XL.nil (X.seq (X.region ?_))
    refine XL.mv (.bool ((matchB ar ((rs.getD j ([], [])).1) ((sub ar t k))).isSome)) rfl ?_
    refine XL.nil ?_
    refine X.cond (t := (matchB ar ((rs.getD j ([], [])).1) ((sub ar t k))).isSome) rfl (fun h3 => ?_) (fun h3 => ?_)
    ·refine X.region ?_
     refine XL.mv (.int .i64 (((cntP ar rs t k + cntR ar rs t k j : Nat) : Int))) rfl ?_
     refine cX (XOp.addR (a := ((cntP ar rs t k + cntR ar rs t k j : Nat) : Int)) (b := 1) ((((cntP ar rs t k + cntR ar rs t k j) + 1 : Nat) : Int)) rfl rfl (by omega) (by omega) ?_)
     refine XL.as (.int .i64 ((((cntP ar rs t k + cntR ar rs t k j) + 1 : Nat) : Int))) rfl ?_
     refine XL.nil (X.region ?_)
     refine XL.mv (.int .i64 ((j : Int))) rfl ?_
     refine cX (XOp.addR (a := (j : Int)) (b := 1) (((j + 1 : Nat) : Int)) rfl rfl (by omega) (by omega) ?_)
     refine XL.as (.int .i64 (((j + 1 : Nat) : Int))) rfl ?_
     refine XL.nil ?_
     exact ⟨j + 1, _, FLe.refl _, le4, ⟨rfl, rfl, (congrArg (fun z : Nat => Value.int .i64 (z : Int)) (by first | exact cntR_yes (by unfold isRedex; assumption) | exact cntR_no (by unfold isRedex; assumption))), rfl, rfl, trivial⟩, (Sub.drop (Sub.cons sR)), ⟨rfl, (by omega)⟩, (by omega)⟩
    ·refine X.skip (X.region ?_)
     refine XL.mv (.int .i64 ((j : Int))) rfl ?_
     refine cX (XOp.addR (a := (j : Int)) (b := 1) (((j + 1 : Nat) : Int)) rfl rfl (by omega) (by omega) ?_)
     refine XL.as (.int .i64 (((j + 1 : Nat) : Int))) rfl ?_
     refine XL.nil ?_
     exact ⟨j + 1, _, FLe.refl _, le4, ⟨rfl, rfl, (congrArg (fun z : Nat => Value.int .i64 (z : Int)) (by first | exact cntR_yes (by unfold isRedex; assumption) | exact cntR_no (by unfold isRedex; assumption))), rfl, rfl, trivial⟩, (Sub.drop (Sub.cons sR)), ⟨rfl, (by omega)⟩, (by omega)⟩
  ·refine X.exit (thenQ_exit (thenQ_exit (blockQ_exit ?_)))
   refine X.region ?_
   refine XL.mv (.int .i64 ((k : Int))) rfl ?_
   refine cX (XOp.addR (a := (k : Int)) (b := 1) (((k + 1 : Nat) : Int)) rfl rfl (by omega) (by omega) ?_)
   refine XL.as (.int .i64 (((k + 1 : Nat) : Int))) rfl ?_
   refine XL.nil ?_
   exact ⟨k + 1, _, FLe.refl _, rF, ⟨rfl, rfl, (congrArg (fun z : Nat => Value.int .i64 (z : Int)) (cntP_succ (by omega))), rfl, trivial⟩, (Sub.cons sR), ⟨rfl, (by omega)⟩, (by omega)⟩
 ·refine X.exit (thenQ_exit (thenQ_exit (blockQ_exit ?_)))
  refine X.seq (X.region ?_)
  refine XL.mv (.int .i64 (((cntP ar rs t k : Nat) : Int))) rfl ?_
  refine XL.as (.int .i64 (((cntP ar rs t k : Nat) : Int))) rfl ?_
  refine XL.nil ?_
  refine X.ret (retEnd (L' := L) [.int .i64 (((cntP ar rs t k : Nat) : Int))] (.int .i64 (((cntP ar rs t k : Nat) : Int))) (.tmp rfl .nil) rfl rF rF (Sub.drop sR) ?_)
  exact ⟨(vI (by rw [show k = t.length from by omega])), rfl, rfl⟩

/- spec.NormalIn -/
theorem sNormalIn_spec {F : FH} {L : List HP} {arv : Value} {ar : List Int} (har : IntsF F arv ar) {rsv : Value} {rs : List (List Int × List Int)} (hrs : PairsF F rsv rs) {tv : Value} {t : List Int} (ht : IntsF F tv t) (hla : ar.length ≤ 4000000) (hlr : rs.length ≤ 4000000) (hrb : ∀ i, i < rs.length → (rs.getD i ([], [])).1.length ≤ 4000000 ∧ (rs.getD i ([], [])).2.length ≤ 4000000) (hlt : t.length ≤ 4000000) :
    Does prog 102 [.agg #[arv, rsv], tv] F (L) (fun v F' L' => (.bool ((rightB ar rs t && normalL ar rs t)) : Value) = v ∧ F = F' ∧ L = L') := by
 refine Does.of_X func102 rfl rfl rfl ?_
 refine X.seq (X.region ?_)
 refine cX (XOp.box [arv, rsv] rfl rfl ?_)
 intro b1
 refine XL.as (.bool (false)) rfl ?_
 refine XL.nil (X.seq (X.region ?_))
 refine cX (XOp.loadN [arv, rsv] isAgg37 sizeOf37 rfl rfl (Rd.ownN [] rfl rfl) ?_)
 refine XL.mv (tv) rfl ?_
 refine cX (XOp.call (args := [.agg #[arv, rsv], tv]) call143 rfl (l7Right_spec har hrs ht (hla := (by first | assumption | rfl | omega | simp)) (hlr := (by first | assumption | rfl | omega | simp)) (hrb := (by first | assumption | rfl | omega | simp)) (hlt := (by first | assumption | rfl | omega | simp))) ?_)
 rintro _ _ _ _ ⟨rfl, rfl, rfl⟩
 refine XL.mv (.bool (rightB ar rs t)) rfl ?_
 by_cases h1 : (rightB ar rs t) = true
 ·have hsys := (right_iff.1 h1).1
  have ho := (right_iff.1 h1).2
  refine XL.yes (t := 8) rfl (vB h1) (XOp.loadN [arv, rsv] isAgg37 sizeOf37 rfl rfl (Rd.ownN [] rfl rfl) ?_)
  refine XL.yes (t := 8) rfl (vB h1) (XOp.move (tv) rfl ?_)
  refine XL.yes (t := 8) rfl (vB h1) (XOp.call (args := [.agg #[arv, rsv], tv]) call176 rfl (l7Redexes_spec har hrs ht (hsys := (by first | assumption | rfl | omega | simp)) (ho := (by first | assumption | rfl | omega | simp))) ?_)
  rintro _ _ _ _ ⟨rfl, rfl, rfl⟩
  refine XL.yes (t := 8) rfl (vB h1) (XOp.eql (a := ((cntP ar rs t t.length : Nat) : Int)) (b := 0) rfl rfl ?_)
  refine cX (XOp.pickT (.bool (decide ((((cntP ar rs t t.length : Nat) : Int) : Int) = 0))) (vB h1) rfl ?_)
  refine XL.as (.bool (decide ((((cntP ar rs t t.length : Nat) : Int) : Int) = 0))) rfl ?_
  refine XL.nil ?_
  refine X.ret (retEnd (L' := L) [.bool (decide ((((cntP ar rs t t.length : Nat) : Int) : Int) = 0))] (.bool (decide ((((cntP ar rs t t.length : Nat) : Int) : Int) = 0))) (.tmp rfl .nil) rfl rF rF (Sub.drop sR) ?_)
  exact ⟨(vB (by rw [normal_cnt]; simp_all)), rfl, rfl⟩
 ·rw [Bool.not_eq_true] at h1
  refine XL.no (t := 8) rfl (vB h1) ?_
  refine XL.no (t := 8) rfl (vB h1) ?_
  refine XL.no (t := 8) rfl (vB h1) ?_
  refine XL.no (t := 8) rfl (vB h1) ?_
  refine cX (XOp.pickF (.bool (false)) (vB h1) rfl ?_)
  refine XL.as (.bool (false)) rfl ?_
  refine XL.nil ?_
  refine X.ret (retEnd (L' := L) [.bool (false)] (.bool (false)) (.tmp rfl .nil) rfl rF rF (Sub.drop sR) ?_)
  exact ⟨(vB (by simp_all)), rfl, rfl⟩

/- spec.WalkBy -/
theorem sWalkBy_spec {F : FH} {L : List HP} {arv : Value} {ar : List Int} (har : IntsF F arv ar) {rsv : Value} {rs : List (List Int × List Int)} (hrs : PairsF F rsv rs) {tv : Value} {t : List Int} (ht : IntsF F tv t) {st : Int} {n : Int} (hla : ar.length ≤ 4000000) (hlr : rs.length ≤ 4000000) (hrb : ∀ i, i < rs.length → (rs.getD i ([], [])).1.length ≤ 4000000 ∧ (rs.getD i ([], [])).2.length ≤ 4000000) (hlt : t.length ≤ 4000000) :
    Does prog 44 [.agg #[arv, rsv], tv, .int .i64 (st), .int .i64 (n)] F (L) (fun v F' L' => ∃ (a : Value), ∃ (b : Value), (.tuple #[.agg #[a, b], .bool ((walkB ar rs t st n).2.2)] : Value) = v ∧ (IntsF F' a (walkB ar rs t st n).1) ∧ (StepsF F' b (walkB ar rs t st n).2.1) ∧ L = L') := by
 refine Does.of_X func44 rfl rfl rfl ?_
 refine X.seq (X.region ?_)
 refine cX (XOp.box [arv, rsv] rfl rfl ?_)
 intro b1
 refine cX (XOp.alloc [(.slice none 0 0), (.slice none 0 0)] zeroValue57 rfl ?_)
 intro b2
 refine XL.as (.bool (false)) rfl ?_
 refine XL.nil (X.seq (X.seq (X.region ?_)))
 refine cX (XOp.loadN [arv, rsv] isAgg37 sizeOf37 rfl rfl (Rd.ownN [_] rfl rfl) ?_)
 refine XL.mv (tv) rfl ?_
 refine XL.mv (.int .i64 (st)) rfl ?_
 refine cX (XOp.call (args := [.agg #[arv, rsv], tv, .int .i64 (st)]) call97 rfl (l8Right_spec (st := st) har hrs ht (hla := (by first | assumption | rfl | omega | simp)) (hlr := (by first | assumption | rfl | omega | simp)) (hrb := (by first | assumption | rfl | omega | simp)) (hlt := (by first | assumption | rfl | omega | simp))) ?_)
 rintro _ _ _ _ ⟨rfl, rfl, rfl⟩
 refine cX (XOp.notB (b := (rightB ar rs t && decide (1 ≤ st ∧ st ≤ 3))) rfl ?_)
 refine XL.mv (.bool (!((rightB ar rs t && decide (1 ≤ st ∧ st ≤ 3))))) rfl ?_
 by_cases h1 : (!((rightB ar rs t && decide (1 ≤ st ∧ st ≤ 3)))) = true
 ·refine XL.no (t := 22) rfl (vB h1) ?_
  refine XL.no (t := 22) rfl (vB h1) ?_
  refine XL.no (t := 22) rfl (vB h1) ?_
  refine cX (XOp.pickT (.bool (true)) (vB h1) rfl ?_)
  refine XL.nil ?_
  refine X.condT rfl ?_
  refine X.seq (X.region ?_)
  refine cX (XOp.build [(.slice none 0 0), (.slice none 0 0)] [(.slice none 0 0), (.slice none 0 0)] [(0, 1), (1, 1)] [] runUnderlying57 zeroValue57 rfl (.cons rfl sizeOf22 (.cons rfl sizeOf55 PlacesAre.nil)) rfl CellsAre.nil ?_)
  refine cX (XOp.storeN (vs := [(.slice none 0 0), (.slice none 0 0)]) [] _ [(.slice none 0 0), (.slice none 0 0)] sizeOf57 rfl rfl rfl (ones_cons rfl (ones_cons rfl ones_nil)) rfl rfl rfl ?_)
  refine XL.as (.bool (false)) rfl ?_
  refine XL.nil ?_
  refine X.ret (thenQ_ret (retEnd (L' := L) [.agg #[(.slice none 0 0), (.slice none 0 0)], .bool (false)] (.tuple #[.agg #[(.slice none 0 0), (.slice none 0 0)], .bool (false)]) (.cell rfl (loadNV [(.slice none 0 0), (.slice none 0 0)] isAgg57 sizeOf57 rfl (Rd.ownN [] rfl rfl)) (.tmp rfl .nil)) rfl rF rF (Sub.drop (Sub.drop sR)) ?_))
  have hw : walkB ar rs t st n = ([], [], false) := walkB_no (by rw [wOk]; cases hx : (rightB ar rs t && decide (1 ≤ st ∧ st ≤ 3)) <;> simp_all <;> (intros; omega))
  exact ⟨_, _, by rw [hw], by rw [hw]; exact IntsF.nilV, by rw [hw]; exact SlOf.nilV, rfl⟩
 ·rw [Bool.not_eq_true] at h1
  have hri : rightB ar rs t = true ∧ (1 ≤ st ∧ st ≤ 3) := by simpa using h1
  have hsys := (right_iff.1 hri.1).1
  have ho := (right_iff.1 hri.1).2
  have htl := termOk_len ho
  refine XL.yes (t := 22) rfl (vB h1) (XOp.move (.int .i64 (n)) rfl ?_)
  refine XL.yes (t := 22) rfl (vB h1) (XOp.call (args := [.int .i64 (n), .int .i64 (0), .int .i64 (60)]) call98 rfl (l1In_spec (n := n) (a := 0) (b := 60)) ?_)
  rintro _ _ _ _ ⟨rfl, rfl, rfl⟩
  refine XL.yes (t := 22) rfl (vB h1) (XOp.notD (p := 0 ≤ n ∧ n ≤ 60) rfl ?_)
  refine cX (XOp.pickF (.bool (decide (¬(0 ≤ n ∧ n ≤ 60)))) (vB h1) rfl ?_)
  refine XL.nil ?_
  refine X.condD (p := ¬(0 ≤ n ∧ n ≤ 60)) rfl (fun h2 => ?_) (fun h2 => ?_)
  ·refine X.seq (X.region ?_)
   refine cX (XOp.build [(.slice none 0 0), (.slice none 0 0)] [(.slice none 0 0), (.slice none 0 0)] [(0, 1), (1, 1)] [] runUnderlying57 zeroValue57 rfl (.cons rfl sizeOf22 (.cons rfl sizeOf55 PlacesAre.nil)) rfl CellsAre.nil ?_)
   refine cX (XOp.storeN (vs := [(.slice none 0 0), (.slice none 0 0)]) [] _ [(.slice none 0 0), (.slice none 0 0)] sizeOf57 rfl rfl rfl (ones_cons rfl (ones_cons rfl ones_nil)) rfl rfl rfl ?_)
   refine XL.as (.bool (false)) rfl ?_
   refine XL.nil ?_
   refine X.ret (thenQ_ret (retEnd (L' := L) [.agg #[(.slice none 0 0), (.slice none 0 0)], .bool (false)] (.tuple #[.agg #[(.slice none 0 0), (.slice none 0 0)], .bool (false)]) (.cell rfl (loadNV [(.slice none 0 0), (.slice none 0 0)] isAgg57 sizeOf57 rfl (Rd.ownN [] rfl rfl)) (.tmp rfl .nil)) rfl rF rF (Sub.drop (Sub.drop sR)) ?_))
   have hw : walkB ar rs t st n = ([], [], false) := walkB_no (by rw [wOk]; cases hx : (rightB ar rs t && decide (1 ≤ st ∧ st ≤ 3)) <;> simp_all <;> (intros; omega))
   exact ⟨_, _, by rw [hw], by rw [hw]; exact IntsF.nilV, by rw [hw]; exact SlOf.nilV, rfl⟩
  ·refine X.skip (X.seq (X.region ?_))
   refine XL.mv (tv) rfl ?_
   refine cX (XOp.frzF <| XOp.call (args := [tv]) call99 rfl (l1Copy_spec ht (hlt := (by first | omega | (rw [hu2]; have := termOk_len (stepL_ok hsys hoc (by omega) (by omega) hu); simp only [Option.getD_some]; omega)))) ?_)
   rintro v1 _ _ _ ⟨rfl, hs1, rfl⟩
   refine ⟨_, _, rfl, fun F1 le1 hz1 => ?_⟩
   replace har := har.mono le1
   replace hrs := hrs.mono le1
   replace ht := ht.mono le1
   have hf1 : IntsF F1 v1 ((t)) := intsH.fz (xs := (t)) hz1.fz
   refine cX (XOp.build [v1, (.slice none 0 0)] [(.slice none 0 0), (.slice none 0 0)] [(0, 1), (1, 1)] [(0, [v1])] runUnderlying57 zeroValue57 rfl (.cons rfl sizeOf22 (.cons rfl sizeOf55 PlacesAre.nil)) rfl (.cons (cells_one (IntsF.isSl hf1)) CellsAre.nil) ?_)
   refine cX (XOp.alloc [(.slice none 0 0), (.slice none 0 0)] zeroValue57 rfl ?_)
   intro b3
   refine cX (XOp.storeN (vs := [v1, (.slice none 0 0)]) [] _ [v1, (.slice none 0 0)] sizeOf57 rfl rfl rfl (ones_cons (one_sl (IntsF.isSl hf1)) (ones_cons rfl ones_nil)) rfl rfl rfl ?_)
   refine XL.nil (X.seq (X.region ?_))
   refine XL.mv (tv) rfl ?_
   refine cX (XOp.frzF <| XOp.call (args := [tv]) call99 rfl (l1Copy_spec ht (hlt := (by first | omega | (rw [hu2]; have := termOk_len (stepL_ok hsys hoc (by omega) (by omega) hu); simp only [Option.getD_some]; omega)))) ?_)
   rintro v2 _ _ _ ⟨rfl, hs2, rfl⟩
   refine ⟨_, _, rfl, fun F2 le2 hz2 => ?_⟩
   replace har := har.mono le2
   replace hrs := hrs.mono le2
   replace hf1 := hf1.mono le2
   have hf2 : IntsF F2 v2 ((t)) := intsH.fz (xs := (t)) hz2.fz
   refine XL.as (v2) rfl ?_
   refine XL.nil (X.seq (X.block ?_))
   refine X.loop (α := Value × List Int × Value × List StepT × FH) (fun xQ => [(2, .int .i64 (st)), (3, .int .i64 (n)), (4, ptr b1 0), (8, ptr b2 0), (10, ptr b3 0), (11, xQ.1)]) (fun xQ => stepsH 116 xQ.2.2.2.2 xQ.2.2.1 xQ.2.2.2.1 :: cellsH b3 [v1, xQ.2.2.1] 57 :: cellsH b2 [(.slice none 0 0), (.slice none 0 0)] 57 :: cellsH b1 [arv, rsv] 37 :: L) (fun xQ F' => xQ.2.2.2.2 = F' ∧ F2 ≤ xQ.2.2.2.2 ∧ (IntsF xQ.2.2.2.2 xQ.1 xQ.2.1) ∧ (termOk ar xQ.2.1 = true) ∧ (IsSl xQ.2.2.1) ∧ (xQ.2.2.2.1.length ≤ n.toNat) ∧ ((walkGo ar rs st n.toNat t).1 = xQ.2.2.2.1 ++ (walkGo ar rs st (n.toNat - xQ.2.2.2.1.length) xQ.2.1).1) ∧ ((walkGo ar rs st n.toNat t).2 = (walkGo ar rs st (n.toNat - xQ.2.2.2.1.length) xQ.2.1).2)) (fun xQ => n.toNat - xQ.2.2.2.1.length) (v2, t, (.slice none 0 0), [], F2) ⟨rfl, rfl, rfl, rfl, rfl, rfl, trivial⟩ (coH.addNil none (Sub.cons (Sub.cons (Sub.cons sR)))) ⟨rfl, FLe.refl _, (hf2), (ho), (⟨_, _, _, rfl⟩), (by simp), (rfl), (rfl)⟩ ?_
   rintro ⟨cv, cur, sv, ss, G1⟩ rE _ _ ⟨rfl, leG, hcv, hoc, hsv, hln, hwa, hwb⟩
   show X _ _ _ _ (envs [(2, .int .i64 (st)), (3, .int .i64 (n)), (4, ptr b1 0), (8, ptr b2 0), (10, ptr b3 0), (11, cv)] rE) _ (stepsH 116 G1 sv ss :: cellsH b3 [v1, sv] 57 :: cellsH b2 [(.slice none 0 0), (.slice none 0 0)] 57 :: cellsH b1 [arv, rsv] 37 :: L)
   replace leG : F2 ≤ G1 := leG
   dsimp only at hcv hoc hsv hln hwa hwb
   have hcl := termOk_len hoc
   have leG1 := leG
   replace har := har.mono leG1
   replace hrs := hrs.mono leG1
   replace hf1 := hf1.mono leG1
   refine X.open [] rfl (fun cs1 hc1 => ?_)
   replace hc1 : StepsC G1 cs1 ss := hc1
   refine X.seq (X.seq (X.region ?_))
   refine cX (XOp.fieldP (b := b3) (1) runUnderlying57 rfl sizeOf55 (by decide) rfl rfl ?_)
   refine cX (XOp.load1 (v := sv) isAgg55 rfl (Rd.own [_] rfl rfl) ?_)
   refine cX (XOp.lenS (v := sv) (n := ss.length) runUnderlying55 rfl (SlV.own [] rfl) ?_)
   refine XL.mv (.int .i64 (n)) rfl ?_
   refine cX (XOp.lss (a := (ss.length : Int)) (b := n) rfl rfl ?_)
   refine XL.nil ?_
   refine X.condD (p := ((ss.length : Int) : Int) < n) rfl (fun h3 => ?_) (fun h3 => ?_)
   ·refine X.skip (X.block (X.seq (X.region ?_)))
    refine cX (XOp.loadN [arv, rsv] isAgg37 sizeOf37 rfl rfl (Rd.ownN [_, _, _] rfl rfl) ?_)
    refine XL.mv (cv) rfl ?_
    refine XL.mv (.int .i64 (st)) rfl ?_
    refine cX (XOp.call (args := [.agg #[arv, rsv], cv, .int .i64 (st)]) call100 rfl (sPickBy_spec (st := st) har hrs hcv (hla := (by first | assumption | rfl | omega | simp)) (hlr := (by first | assumption | rfl | omega | simp)) (hrb := (by first | assumption | rfl | omega | simp)) (hlt := (by first | assumption | rfl | omega | simp))) ?_)
    rintro _ _ _ _ ⟨rfl, rfl, rfl⟩
    refine XL.mv (.tuple #[.int .i64 (pickAt ar rs cur st), .int .i64 (pickRule ar rs cur st), .bool (pickB ar rs cur st)]) rfl ?_
    refine cX (XOp.extract (.int .i64 (pickAt ar rs cur st)) rfl rfl ?_)
    refine cX (XOp.extract (.int .i64 (pickRule ar rs cur st)) rfl rfl ?_)
    refine cX (XOp.extract (.bool (pickB ar rs cur st)) rfl rfl ?_)
    refine XL.as (.int .i64 (pickAt ar rs cur st)) rfl ?_
    refine XL.as (.int .i64 (pickRule ar rs cur st)) rfl ?_
    refine XL.as (.bool (pickB ar rs cur st)) rfl ?_
    refine XL.nil (X.seq (X.seq (X.region ?_)))
    refine XL.mv (.bool (pickB ar rs cur st)) rfl ?_
    refine cX (XOp.notB (b := pickB ar rs cur st) rfl ?_)
    refine XL.nil ?_
    refine X.cond (t := !(pickB ar rs cur st)) rfl (fun h4 => ?_) (fun h4 => ?_)
    ·have hpb : pickB ar rs cur st = false := by simpa using h4
     have he : redL ar rs cur = [] := Classical.byContradiction (fun hne => by rw [pickB_iff.2 ⟨right_iff.2 ⟨hsys, hoc⟩, hri.2, hne⟩] at hpb; cases hpb)
     have hend : walkGo ar rs st (n.toNat - ss.length) cur = ([], normalL ar rs cur) := by rw [walk_nil he, normalL, decide_eq_true he]
     refine X.exit (thenQ_exit (blockQ_other (by decide) (thenQ_exit (blockQ_exit ?_))))
     refine X.seq ?_
     refine X.draw [slH 116 3 sv ((ss).length) cs1, cellsH b3 [v1, sv] 57, cellsH b2 [(.slice none 0 0), (.slice none 0 0)] 57, cellsH b1 [arv, rsv] 37] L 4 [[], [], [], []] [[], [], [], [1, 2]] (phiL [fun us v => v = (.agg #[v1, sv] : Value), fun us v => v = (.agg #[arv, rsv] : Value), fun us v => v = cv, fun us v => v = (.bool ((rightB ar rs cur && normalL ar rs cur)) : Value)]) (ownL [fun us v => [], fun us v => [], fun us v => [], fun us v => []]) mixed rfl rfl (by kernel_rfl) ?_ ?_
     ·refine stepsP.cons (fun vals R hpZ => ?_) ?_
      ·refine XG.op (XOp.loadN [v1, sv] isAgg57 sizeOf57 rfl rfl (Rd.ownN [_] rfl rfl) ?_)
       exact ⟨rfl, rfl, rfl⟩
      refine stepsP.cons (fun vals R hpZ => ?_) ?_
      ·refine XG.op (XOp.loadN [arv, rsv] isAgg37 sizeOf37 rfl rfl (Rd.ownN [_, _, _] rfl rfl) ?_)
       exact ⟨rfl, rfl, rfl⟩
      refine stepsP.cons (fun vals R hpZ => ?_) ?_
      ·refine XG.op (XOp.move (cv) rfl ?_)
       exact ⟨rfl, rfl, rfl⟩
      refine stepsP.cons (fun vals R hpZ => ?_) ?_
      ·rw [eS (l := [(1, (.agg #[arv, rsv] : Value)), (2, cv)]) ⟨hpZ 1 (by decide), hpZ 2 (by decide), trivial⟩]
       refine XG.op (XOp.call (args := [.agg #[arv, rsv], cv]) call102 rfl (sNormalIn_spec har hrs hcv (hla := (by first | assumption | rfl | omega | simp)) (hlr := (by first | assumption | rfl | omega | simp)) (hrb := (by first | assumption | rfl | omega | simp)) (hlt := (by first | assumption | rfl | omega | simp))) ?_)
       rintro _ _ _ _ ⟨rfl, rfl, rfl⟩
       exact ⟨rfl, rfl, rfl⟩
      exact stepsP.nil
     ·intro vals hphi
      rw [eS (l := [(0, (.agg #[v1, sv] : Value)), (3, (.bool ((rightB ar rs cur && normalL ar rs cur)) : Value))]) ⟨(hphi 0 (by decide)), (hphi 3 (by decide)), trivial⟩]
      show XL _ _ _ _ _ _ _ (slH 116 3 sv ((ss).length) cs1 :: cellsH b3 [v1, sv] 57 :: cellsH b2 [(.slice none 0 0), (.slice none 0 0)] 57 :: cellsH b1 [arv, rsv] 37 :: L)
      refine cX (XOp.storeN (vs := [v1, sv]) [_, _] _ [v1, sv] sizeOf57 rfl rfl rfl (ones_cons (one_sl (IntsF.isSl hf1)) (ones_cons (one_sl hsv) ones_nil)) rfl rfl rfl ?_)
      refine XL.as (.bool ((rightB ar rs cur && normalL ar rs cur))) rfl ?_
      refine XL.nil ?_
      refine X.freezeF [] _ _ rfl (fun F3 le3 hz3 => ?_)
      replace har := har.mono le3
      replace hrs := hrs.mono le3
      replace hf1 := hf1.mono le3
      replace hcv := hcv.mono le3
      replace hc1 := hc1.mono le3
      have hf3 : StepsF F3 sv ss := CO.fz hc1 (by first | rfl | simp | omega) hz3.fz
      refine X.ret (retEnd (L' := L) [.agg #[v1, sv], .bool ((rightB ar rs cur && normalL ar rs cur))] (.tuple #[.agg #[v1, sv], .bool ((rightB ar rs cur && normalL ar rs cur))]) (.cell rfl (loadNV [v1, sv] isAgg57 sizeOf57 rfl (Rd.ownN [_] rfl rfl)) (.tmp rfl .nil)) rfl (FLe.trans (FLe.trans (FLe.trans le1 le2) leG1) le3) rF (Sub.drop (Sub.drop (Sub.drop sR))) ?_)
      have hw := walkB_yes (ar := ar) (rs := rs) (t := t) (st := st) (n := n) (by rw [wOk]; simp [hri, hri.2]; omega)
      have e : walkGo ar rs st n.toNat t = (ss, normalL ar rs cur) := Prod.ext (by rw [hwa, hend]; simp) (by rw [hwb, hend])
      have hrc : rightB ar rs cur = true := right_iff.2 ⟨hsys, hoc⟩
      exact ⟨_, _, by rw [hw, e, hrc, Bool.true_and], by rw [hw]; exact hf1, by rw [hw, e]; exact hf3, rfl⟩
    ·have hpb : pickB ar rs cur st = true := by simpa using h4
     have hne := (pickB_iff.1 hpb).2.2
     have hpa : pickAt ar rs cur st = pickL ar rs cur st := by rw [pickAt, if_pos hpb]
     have hpr : pickRule ar rs cur st = ruleAtL ar rs cur (pickL ar rs cur st).toNat := by rw [pickRule, if_pos hpb]
     obtain ⟨q, hq1, hq2, hq3, _⟩ := (pick_spec (ar := ar) (rs := rs) (t := cur) st).resolve_left (fun h => hne h.2)
     have hpn : (pickL ar rs cur st).toNat = q := by omega
     have hrr : 0 ≤ ruleAtL ar rs cur (pickL ar rs cur st).toNat := by rw [hpn]; simpa [hasR] using hq3
     obtain ⟨k, hk1, hk2, _⟩ := (M.ruleAt_spec (ar := ar) (rs := rs) (t := cur) (p := (pickL ar rs cur st).toNat)).resolve_left (by omega)
     refine X.skip (X.seq (X.region ?_))
     refine cX (XOp.loadN [arv, rsv] isAgg37 sizeOf37 rfl rfl (Rd.ownN [_, _, _] rfl rfl) ?_)
     refine XL.mv (cv) rfl ?_
     refine XL.mv (.int .i64 (pickAt ar rs cur st)) rfl ?_
     refine XL.mv (.int .i64 (pickRule ar rs cur st)) rfl ?_
     refine cX (XOp.call (args := [.agg #[arv, rsv], cv, .int .i64 (((pickAt ar rs cur st).toNat : Nat) : Int), .int .i64 (((pickRule ar rs cur st).toNat : Nat) : Int)]) call101 (by rw [show (((pickAt ar rs cur st).toNat : Nat) : Int) = pickAt ar rs cur st from by omega, show (((pickRule ar rs cur st).toNat : Nat) : Int) = pickRule ar rs cur st from by omega]; rfl) (l7Step_spec (p := (pickAt ar rs cur st).toNat) (r := (pickRule ar rs cur st).toNat) har hrs hcv (hsys := (by first | assumption | rfl | omega | simp)) (ho := (by first | assumption | rfl | omega | simp)) (hp := (by first | assumption | rfl | omega | simp)) (hr := (by first | assumption | rfl | omega | simp))) ?_)
     rintro _ F4 _ le4 ⟨x1, rfl, hr1, rfl⟩
     replace har := har.mono le4
     replace hrs := hrs.mono le4
     replace hf1 := hf1.mono le4
     replace hcv := hcv.mono le4
     replace hc1 := hc1.mono le4
     refine XL.mv (.tuple #[x1, .bool ((stepL ar rs cur ((pickAt ar rs cur st).toNat) ((pickRule ar rs cur st).toNat)).isSome)]) rfl ?_
     refine cX (XOp.extract (x1) rfl rfl ?_)
     refine cX (XOp.extract (.bool ((stepL ar rs cur ((pickAt ar rs cur st).toNat) ((pickRule ar rs cur st).toNat)).isSome)) rfl rfl ?_)
     refine XL.as (x1) rfl ?_
     refine XL.as (.bool ((stepL ar rs cur ((pickAt ar rs cur st).toNat) ((pickRule ar rs cur st).toNat)).isSome)) rfl ?_
     refine XL.nil (X.seq (X.seq (X.region ?_)))
     refine XL.mv (.bool ((stepL ar rs cur ((pickAt ar rs cur st).toNat) ((pickRule ar rs cur st).toNat)).isSome)) rfl ?_
     refine cX (XOp.notB (b := (stepL ar rs cur ((pickAt ar rs cur st).toNat) ((pickRule ar rs cur st).toNat)).isSome) rfl ?_)
     refine XL.nil ?_
     refine X.cond (t := !((stepL ar rs cur ((pickAt ar rs cur st).toNat) ((pickRule ar rs cur st).toNat)).isSome)) rfl (fun h5 => ?_) (fun h5 => ?_)
     ·have hu : (stepL ar rs cur (pickL ar rs cur st).toNat (ruleAtL ar rs cur (pickL ar rs cur st).toNat).toNat).isSome = false := by rw [← hpr, ← hpa]; simpa using h5
      have hend : walkGo ar rs st (n.toNat - ss.length) cur = ([], normalL ar rs cur) := by rw [walk_stuck (by omega) hne hu, normalL, decide_eq_false hne]
      refine X.exit (thenQ_exit (blockQ_other (by decide) (thenQ_exit (blockQ_exit ?_))))
      refine X.seq ?_
      refine X.draw [slH 116 3 sv ((ss).length) cs1, cellsH b3 [v1, sv] 57, cellsH b2 [(.slice none 0 0), (.slice none 0 0)] 57, cellsH b1 [arv, rsv] 37] L 4 [[], [], [], []] [[], [], [], [1, 2]] (phiL [fun us v => v = (.agg #[v1, sv] : Value), fun us v => v = (.agg #[arv, rsv] : Value), fun us v => v = cv, fun us v => v = (.bool ((rightB ar rs cur && normalL ar rs cur)) : Value)]) (ownL [fun us v => [], fun us v => [], fun us v => [], fun us v => []]) mixed rfl rfl (by kernel_rfl) ?_ ?_
      ·refine stepsP.cons (fun vals R hpZ => ?_) ?_
       ·refine XG.op (XOp.loadN [v1, sv] isAgg57 sizeOf57 rfl rfl (Rd.ownN [_] rfl rfl) ?_)
        exact ⟨rfl, rfl, rfl⟩
       refine stepsP.cons (fun vals R hpZ => ?_) ?_
       ·refine XG.op (XOp.loadN [arv, rsv] isAgg37 sizeOf37 rfl rfl (Rd.ownN [_, _, _] rfl rfl) ?_)
        exact ⟨rfl, rfl, rfl⟩
       refine stepsP.cons (fun vals R hpZ => ?_) ?_
       ·refine XG.op (XOp.move (cv) rfl ?_)
        exact ⟨rfl, rfl, rfl⟩
       refine stepsP.cons (fun vals R hpZ => ?_) ?_
       ·rw [eS (l := [(1, (.agg #[arv, rsv] : Value)), (2, cv)]) ⟨hpZ 1 (by decide), hpZ 2 (by decide), trivial⟩]
        refine XG.op (XOp.call (args := [.agg #[arv, rsv], cv]) call102 rfl (sNormalIn_spec har hrs hcv (hla := (by first | assumption | rfl | omega | simp)) (hlr := (by first | assumption | rfl | omega | simp)) (hrb := (by first | assumption | rfl | omega | simp)) (hlt := (by first | assumption | rfl | omega | simp))) ?_)
        rintro _ _ _ _ ⟨rfl, rfl, rfl⟩
        exact ⟨rfl, rfl, rfl⟩
       exact stepsP.nil
      ·intro vals hphi
       rw [eS (l := [(0, (.agg #[v1, sv] : Value)), (3, (.bool ((rightB ar rs cur && normalL ar rs cur)) : Value))]) ⟨(hphi 0 (by decide)), (hphi 3 (by decide)), trivial⟩]
       show XL _ _ _ _ _ _ _ (slH 116 3 sv ((ss).length) cs1 :: cellsH b3 [v1, sv] 57 :: cellsH b2 [(.slice none 0 0), (.slice none 0 0)] 57 :: cellsH b1 [arv, rsv] 37 :: L)
       refine cX (XOp.storeN (vs := [v1, sv]) [_, _] _ [v1, sv] sizeOf57 rfl rfl rfl (ones_cons (one_sl (IntsF.isSl hf1)) (ones_cons (one_sl hsv) ones_nil)) rfl rfl rfl ?_)
       refine XL.as (.bool ((rightB ar rs cur && normalL ar rs cur))) rfl ?_
       refine XL.nil ?_
       refine X.freezeF [] _ _ rfl (fun F5 le5 hz4 => ?_)
       replace har := har.mono le5
       replace hrs := hrs.mono le5
       replace hf1 := hf1.mono le5
       replace hcv := hcv.mono le5
       replace hc1 := hc1.mono le5
       replace hr1 := hr1.mono le5
       have hf4 : StepsF F5 sv ss := CO.fz hc1 (by first | rfl | simp | omega) hz4.fz
       refine X.ret (retEnd (L' := L) [.agg #[v1, sv], .bool ((rightB ar rs cur && normalL ar rs cur))] (.tuple #[.agg #[v1, sv], .bool ((rightB ar rs cur && normalL ar rs cur))]) (.cell rfl (loadNV [v1, sv] isAgg57 sizeOf57 rfl (Rd.ownN [_] rfl rfl)) (.tmp rfl .nil)) rfl (FLe.trans (FLe.trans (FLe.trans (FLe.trans le1 le2) leG1) le4) le5) rF (Sub.drop (Sub.drop (Sub.drop sR))) ?_)
       have hw := walkB_yes (ar := ar) (rs := rs) (t := t) (st := st) (n := n) (by rw [wOk]; simp [hri, hri.2]; omega)
       have e : walkGo ar rs st n.toNat t = (ss, normalL ar rs cur) := Prod.ext (by rw [hwa, hend]; simp) (by rw [hwb, hend])
       have hrc : rightB ar rs cur = true := right_iff.2 ⟨hsys, hoc⟩
       exact ⟨_, _, by rw [hw, e, hrc, Bool.true_and], by rw [hw]; exact hf1, by rw [hw, e]; exact hf4, rfl⟩
     ·obtain ⟨u, hu⟩ := Option.isSome_iff_exists.1 (show (stepL ar rs cur (pickL ar rs cur st).toNat (ruleAtL ar rs cur (pickL ar rs cur st).toNat).toNat).isSome = true from by rw [← hpr, ← hpa]; simpa using h5)
      have hu2 : stepL ar rs cur (pickAt ar rs cur st).toNat (pickRule ar rs cur st).toNat = some u := by rw [hpa, hpr]; exact hu
      refine X.skip (X.seq (X.region ?_))
      refine cX (XOp.fieldP (b := b3) (1) runUnderlying57 rfl sizeOf55 (by decide) rfl rfl ?_)
      refine cX (XOp.load1 (v := sv) isAgg55 rfl (Rd.own [_] rfl rfl) ?_)
      refine XL.mv (.int .i64 (pickAt ar rs cur st)) rfl ?_
      refine XL.mv (.int .i64 (pickRule ar rs cur st)) rfl ?_
      refine XL.mv (x1) rfl ?_
      refine cX (XOp.build [.int .i64 (pickAt ar rs cur st), .int .i64 (pickRule ar rs cur st), x1] [.int .i64 (0), .int .i64 (0), (.slice none 0 0)] [(0, 1), (1, 1), (2, 1)] [(0, [.int .i64 (pickAt ar rs cur st)]), (1, [.int .i64 (pickRule ar rs cur st)]), (2, [x1])] runUnderlying116 zeroValue116 rfl (.cons rfl sizeOf2 (.cons rfl sizeOf2 (.cons rfl sizeOf22 PlacesAre.nil))) rfl (.cons rfl (.cons rfl (.cons (cells_one (IntsF.isSl hr1)) CellsAre.nil))) ?_)
      refine cX (XOp.buildSlice (s := 3) [.int .i64 (pickAt ar rs cur st), .int .i64 (pickRule ar rs cur st), x1] [.int .i64 (0), .int .i64 (0), (.slice none 0 0)] [(0, [.int .i64 (pickAt ar rs cur st), .int .i64 (pickRule ar rs cur st), x1])] runUnderlying55 sizeOf116 zeroValue116 rfl (by decide) rfl (.cons rfl CellsAre.nil) rfl ?_)
      intro v3 hv1
      refine cX (XOp.append (m := 1) (bytes := 40) (cs := cs1) [_] _ [.int .i64 (pickAt ar rs cur st), .int .i64 (pickRule ar rs cur st), x1] runUnderlying55 typeInfo116 rfl rfl rfl rfl rfl rfl rfl (SlV.own [] rfl) rfl (Rd.lit [] rfl) (ones_cons rfl (ones_cons rfl (ones_cons (one_sl (IntsF.isSl hr1)) ones_nil))) (by (try simp only [List.length_append, List.length_nil, List.length_cons, List.length_singleton]); omega) (by (try simp only [List.length_append, List.length_nil, List.length_cons, List.length_singleton]); omega) ?_)
      intro v4 hs3 hn1 hm1
      have hc2 := StepsC.snoc hc1 (i := pickAt ar rs cur st) (j := pickRule ar rs cur st) hr1
      refine cX (XOp.fieldP (b := b3) (1) runUnderlying57 rfl sizeOf55 (by decide) rfl rfl ?_)
      refine cX (XOp.store1 (v := v4) [_, _] _ [v1, v4] sizeOf55 rfl rfl (one_sl hs3) rfl rfl rfl ?_)
      refine XL.nil (X.region ?_)
      refine XL.mv (x1) rfl ?_
      refine cX (XOp.frzF <| XOp.call (args := [x1]) call99 rfl (l1Copy_spec hr1 (hlt := (by first | omega | (rw [hu2]; have := termOk_len (stepL_ok hsys hoc (by omega) (by omega) hu); simp only [Option.getD_some]; omega)))) ?_)
      rintro v5 _ _ _ ⟨rfl, hs4, rfl⟩
      refine ⟨_, _, rfl, fun F6 le6 hz5 => ?_⟩
      replace har := har.mono le6
      replace hrs := hrs.mono le6
      replace hf1 := hf1.mono le6
      replace hcv := hcv.mono le6
      replace hc1 := hc1.mono le6
      replace hc2 := hc2.mono le6
      have hf5 : IntsF F6 v5 ((((stepL ar rs cur ((pickAt ar rs cur st).toNat) ((pickRule ar rs cur st).toNat)).getD []))) := intsH.fz (xs := (((stepL ar rs cur ((pickAt ar rs cur st).toNat) ((pickRule ar rs cur st).toNat)).getD []))) hz5.fz
      refine XL.as (v5) rfl ?_
      refine XL.nil ?_
      exact ⟨(v5, (((stepL ar rs cur ((pickAt ar rs cur st).toNat) ((pickRule ar rs cur st).toNat)).getD [])), v4, ss ++ [(pickAt ar rs cur st, pickRule ar rs cur st, (stepL ar rs cur ((pickAt ar rs cur st).toNat) ((pickRule ar rs cur st).toNat)).getD [])], F6), _, (FLe.trans (FLe.trans leG1 le4) le6), rF, ⟨rfl, rfl, rfl, rfl, rfl, rfl, trivial⟩, (Sub.drop (coH.close hc2 (by first | rfl | simp) (Sub.cons (Sub.cons (Sub.cons sR))))), ⟨rfl, (FLe.trans (FLe.trans leG1 le4) le6), (hf5), (by dsimp only; rw [hu2]; exact stepL_ok hsys hoc (by omega) (by omega) hu), (hs3), (by dsimp only; rw [List.length_append]; simp only [List.length_singleton]; omega), (by dsimp only; rw [hwa, walk_next (m := n.toNat - ss.length) (by omega) hne hu, hu2, hpa, hpr]; simp only [Option.getD_some, List.length_append, List.length_singleton, List.append_assoc, List.singleton_append]; rw [show n.toNat - ss.length - 1 = n.toNat - (ss.length + 1) from by omega]), (by dsimp only; rw [hwb, walk_next (m := n.toNat - ss.length) (by omega) hne hu, hu2]; simp only [Option.getD_some, List.length_append, List.length_singleton]; rw [show n.toNat - ss.length - 1 = n.toNat - (ss.length + 1) from by omega])⟩, (by dsimp only; rw [List.length_append]; simp only [List.length_singleton]; omega)⟩
   ·have hend : walkGo ar rs st (n.toNat - ss.length) cur = ([], normalL ar rs cur) := by rw [show n.toNat - ss.length = 0 from by omega]; rfl
    refine X.exit (thenQ_exit (thenQ_exit (blockQ_exit ?_)))
    refine X.seq ?_
    refine X.draw [slH 116 3 sv ((ss).length) cs1, cellsH b3 [v1, sv] 57, cellsH b2 [(.slice none 0 0), (.slice none 0 0)] 57, cellsH b1 [arv, rsv] 37] L 4 [[], [], [], []] [[], [], [], [1, 2]] (phiL [fun us v => v = (.agg #[v1, sv] : Value), fun us v => v = (.agg #[arv, rsv] : Value), fun us v => v = cv, fun us v => v = (.bool ((rightB ar rs cur && normalL ar rs cur)) : Value)]) (ownL [fun us v => [], fun us v => [], fun us v => [], fun us v => []]) mixed rfl rfl (by kernel_rfl) ?_ ?_
    ·refine stepsP.cons (fun vals R hpZ => ?_) ?_
     ·refine XG.op (XOp.loadN [v1, sv] isAgg57 sizeOf57 rfl rfl (Rd.ownN [_] rfl rfl) ?_)
      exact ⟨rfl, rfl, rfl⟩
     refine stepsP.cons (fun vals R hpZ => ?_) ?_
     ·refine XG.op (XOp.loadN [arv, rsv] isAgg37 sizeOf37 rfl rfl (Rd.ownN [_, _, _] rfl rfl) ?_)
      exact ⟨rfl, rfl, rfl⟩
     refine stepsP.cons (fun vals R hpZ => ?_) ?_
     ·refine XG.op (XOp.move (cv) rfl ?_)
      exact ⟨rfl, rfl, rfl⟩
     refine stepsP.cons (fun vals R hpZ => ?_) ?_
     ·rw [eS (l := [(1, (.agg #[arv, rsv] : Value)), (2, cv)]) ⟨hpZ 1 (by decide), hpZ 2 (by decide), trivial⟩]
      refine XG.op (XOp.call (args := [.agg #[arv, rsv], cv]) call102 rfl (sNormalIn_spec har hrs hcv (hla := (by first | assumption | rfl | omega | simp)) (hlr := (by first | assumption | rfl | omega | simp)) (hrb := (by first | assumption | rfl | omega | simp)) (hlt := (by first | assumption | rfl | omega | simp))) ?_)
      rintro _ _ _ _ ⟨rfl, rfl, rfl⟩
      exact ⟨rfl, rfl, rfl⟩
     exact stepsP.nil
    ·intro vals hphi
     rw [eS (l := [(0, (.agg #[v1, sv] : Value)), (3, (.bool ((rightB ar rs cur && normalL ar rs cur)) : Value))]) ⟨(hphi 0 (by decide)), (hphi 3 (by decide)), trivial⟩]
     show XL _ _ _ _ _ _ _ (slH 116 3 sv ((ss).length) cs1 :: cellsH b3 [v1, sv] 57 :: cellsH b2 [(.slice none 0 0), (.slice none 0 0)] 57 :: cellsH b1 [arv, rsv] 37 :: L)
     refine cX (XOp.storeN (vs := [v1, sv]) [_, _] _ [v1, sv] sizeOf57 rfl rfl rfl (ones_cons (one_sl (IntsF.isSl hf1)) (ones_cons (one_sl hsv) ones_nil)) rfl rfl rfl ?_)
     refine XL.as (.bool ((rightB ar rs cur && normalL ar rs cur))) rfl ?_
     refine XL.nil ?_
     refine X.freezeF [] _ _ rfl (fun F7 le7 hz6 => ?_)
     replace hf1 := hf1.mono le7
     replace hc1 := hc1.mono le7
     have hf6 : StepsF F7 sv ss := CO.fz hc1 (by first | rfl | simp | omega) hz6.fz
     refine X.ret (retEnd (L' := L) [.agg #[v1, sv], .bool ((rightB ar rs cur && normalL ar rs cur))] (.tuple #[.agg #[v1, sv], .bool ((rightB ar rs cur && normalL ar rs cur))]) (.cell rfl (loadNV [v1, sv] isAgg57 sizeOf57 rfl (Rd.ownN [_] rfl rfl)) (.tmp rfl .nil)) rfl (FLe.trans (FLe.trans (FLe.trans le1 le2) leG1) le7) rF (Sub.drop (Sub.drop (Sub.drop sR))) ?_)
     have hw := walkB_yes (ar := ar) (rs := rs) (t := t) (st := st) (n := n) (by rw [wOk]; simp [hri, hri.2]; omega)
     have e : walkGo ar rs st n.toNat t = (ss, normalL ar rs cur) := Prod.ext (by rw [hwa, hend]; simp) (by rw [hwb, hend])
     have hrc : rightB ar rs cur = true := right_iff.2 ⟨hsys, hoc⟩
     exact ⟨_, _, by rw [hw, e, hrc, Bool.true_and], by rw [hw]; exact hf1, by rw [hw, e]; exact hf6, rfl⟩
end Go.Proofs.YtiaanelimbmniaaGreat
set_option linter.unusedSimpArgs false
set_option linter.unusedVariables false
namespace Go.Proofs.YtiaanelimbmniaaGreat
open Go X M Tryz

/- laws.szInt64S -/
theorem szInt64S_spec {F : FH} {L : List HP} {xsv : Value} {xs : List Int} (hxs : IntsF F xsv xs) {z : Int} (hz : 0 ≤ z ∧ z ≤ 4000000) (hlx : xs.length ≤ 9223372036854775807) :
    Does prog 83 [xsv, .int .i64 (z)] F (L) (fun v F' L' => (.int .i64 (dec z xs.length) : Value) = v ∧ F = F' ∧ L = L') := by
 refine Does.of_X func83 rfl rfl rfl ?_
 refine X.seq (X.region ?_)
 refine XL.as (.int .i64 (0)) rfl ?_
 refine XL.nil (X.seq (X.region ?_))
 refine XL.mv (.int .i64 (z)) rfl ?_
 refine XL.mv (xsv) rfl ?_
 refine cX (XOp.lenS (v := xsv) (n := (xs).length) runUnderlying22 rfl hxs.slv ?_)
 refine cX (XOp.subR (a := z) (b := (xs.length : Int)) (z - ((xs.length : Int))) rfl rfl (by omega) (by omega) ?_)
 refine XL.as (.int .i64 (z - ((xs.length : Int)))) rfl ?_
 refine XL.nil (X.seq (X.seq (X.region ?_)))
 refine XL.mv (.int .i64 (z - ((xs.length : Int)))) rfl ?_
 refine cX (XOp.lss (a := z - ((xs.length : Int))) (b := 0) rfl rfl ?_)
 refine XL.nil ?_
 refine X.condD (p := (z - ((xs.length : Int)) : Int) < 0) rfl (fun h1 => ?_) (fun h1 => ?_)
 ·refine X.seq (X.region ?_)
  refine XL.as (.int .i64 (-1)) rfl ?_
  refine XL.nil ?_
  refine X.ret (thenQ_ret (retEnd (L' := L) [.int .i64 (-1)] (.int .i64 (-1)) (.tmp rfl .nil) rfl rF rF sR ?_))
  exact ⟨(vI (dec_neg (by omega))), rfl, rfl⟩
 ·refine X.skip (X.seq (X.region ?_))
  refine XL.mv (.int .i64 (z - ((xs.length : Int)))) rfl ?_
  refine XL.as (.int .i64 (z - ((xs.length : Int)))) rfl ?_
  refine XL.nil ?_
  refine X.ret (retEnd (L' := L) [.int .i64 (z - ((xs.length : Int)))] (.int .i64 (z - ((xs.length : Int)))) (.tmp rfl .nil) rfl rF rF sR ?_)
  exact ⟨(vI (dec_pos (by omega))), rfl, rfl⟩

/- laws.szSig -/
theorem szSig_spec {F : FH} {L : List HP} {xsv : Value} {xs : List Int} (hxs : IntsF F xsv xs) {z : Int} (hz : 0 ≤ z ∧ z ≤ 4000000) (hlx : xs.length ≤ 9223372036854775807) :
    Does prog 41 [.agg #[xsv], .int .i64 (z)] F (L) (fun v F' L' => (.int .i64 (dec z xs.length) : Value) = v ∧ F = F' ∧ L = L') := by
 refine Does.of_X func41 rfl rfl rfl ?_
 have hdr := dec_range z xs.length
 refine X.seq (X.region ?_)
 refine cX (XOp.box [xsv] rfl rfl ?_)
 intro b1
 refine XL.as (.int .i64 (0)) rfl ?_
 refine XL.nil (X.seq (X.region ?_))
 refine cX (XOp.fieldP (b := b1) (0) runUnderlying24 rfl sizeOf22 (by decide) rfl rfl ?_)
 refine cX (XOp.load1 (v := xsv) isAgg22 rfl (Rd.own [] rfl rfl) ?_)
 refine XL.mv (.int .i64 (z)) rfl ?_
 refine cX (XOp.call (args := [xsv, .int .i64 (z)]) call83 rfl (szInt64S_spec (z := z) hxs (hz := (by first | assumption | rfl | omega | simp)) (hlx := (by first | assumption | rfl | omega | simp))) ?_)
 rintro _ _ _ _ ⟨rfl, rfl, rfl⟩
 refine XL.as (.int .i64 (dec z xs.length)) rfl ?_
 refine XL.nil (X.seq (X.seq (X.region ?_)))
 refine XL.mv (.int .i64 (dec z xs.length)) rfl ?_
 refine cX (XOp.lss (a := dec z xs.length) (b := 0) rfl rfl ?_)
 refine XL.nil ?_
 refine X.condD (p := (dec z xs.length : Int) < 0) rfl (fun h1 => ?_) (fun h1 => ?_)
 ·refine X.seq (X.region ?_)
  refine XL.as (.int .i64 (-1)) rfl ?_
  refine XL.nil ?_
  refine X.ret (thenQ_ret (retEnd (L' := L) [.int .i64 (-1)] (.int .i64 (-1)) (.tmp rfl .nil) rfl rF rF (Sub.drop sR) ?_))
  exact ⟨(vI (by omega)), rfl, rfl⟩
 ·refine X.skip (X.seq (X.region ?_))
  refine XL.mv (.int .i64 (dec z xs.length)) rfl ?_
  refine XL.as (.int .i64 (dec z xs.length)) rfl ?_
  refine XL.nil ?_
  refine X.ret (retEnd (L' := L) [.int .i64 (dec z xs.length)] (.int .i64 (dec z xs.length)) (.tmp rfl .nil) rfl rF rF (Sub.drop sR) ?_)
  exact ⟨rfl, rfl, rfl⟩

/- laws.szRule -/
theorem szRule_spec {F : FH} {L : List HP} {lv : Value} {l : List Int} (hl : IntsF F lv l) {rv : Value} {r : List Int} (hr : IntsF F rv r) {z : Int} (hz : 0 ≤ z ∧ z ≤ 4000000) (hll : l.length ≤ 9223372036854775807) (hlr : r.length ≤ 9223372036854775807) :
    Does prog 92 [.agg #[lv, rv], .int .i64 (z)] F (L) (fun v F' L' => (.int .i64 (dec z (l.length + r.length)) : Value) = v ∧ F = F' ∧ L = L') := by
 refine Does.of_X func92 rfl rfl rfl ?_
 have hdr := dec_range z l.length
 refine X.seq (X.region ?_)
 refine cX (XOp.box [lv, rv] rfl rfl ?_)
 intro b1
 refine XL.as (.int .i64 (0)) rfl ?_
 refine XL.nil (X.seq (X.region ?_))
 refine cX (XOp.fieldP (b := b1) (0) runUnderlying127 rfl sizeOf22 (by decide) rfl rfl ?_)
 refine cX (XOp.load1 (v := lv) isAgg22 rfl (Rd.own [] rfl rfl) ?_)
 refine XL.mv (.int .i64 (z)) rfl ?_
 refine cX (XOp.call (args := [lv, .int .i64 (z)]) call83 rfl (szInt64S_spec (z := z) hl (hz := (by first | assumption | rfl | omega | simp)) (hlx := (by first | assumption | rfl | omega | simp))) ?_)
 rintro _ _ _ _ ⟨rfl, rfl, rfl⟩
 refine XL.as (.int .i64 (dec z l.length)) rfl ?_
 refine XL.nil (X.seq (X.seq (X.region ?_)))
 refine XL.mv (.int .i64 (dec z l.length)) rfl ?_
 refine cX (XOp.lss (a := dec z l.length) (b := 0) rfl rfl ?_)
 refine XL.nil ?_
 refine X.condD (p := (dec z l.length : Int) < 0) rfl (fun h1 => ?_) (fun h1 => ?_)
 ·refine X.seq (X.region ?_)
  refine XL.as (.int .i64 (-1)) rfl ?_
  refine XL.nil ?_
  refine X.ret (thenQ_ret (retEnd (L' := L) [.int .i64 (-1)] (.int .i64 (-1)) (.tmp rfl .nil) rfl rF rF (Sub.drop sR) ?_))
  exact ⟨(vI (dec_out (by omega))), rfl, rfl⟩
 ·refine X.skip (X.seq (X.region ?_))
  refine cX (XOp.fieldP (b := b1) (1) runUnderlying127 rfl sizeOf22 (by decide) rfl rfl ?_)
  refine cX (XOp.load1 (v := rv) isAgg22 rfl (Rd.own [] rfl rfl) ?_)
  refine XL.mv (.int .i64 (dec z l.length)) rfl ?_
  refine cX (XOp.call (args := [rv, .int .i64 (dec z l.length)]) call83 rfl (szInt64S_spec (z := dec z l.length) hr (hz := (by first | assumption | rfl | omega | simp)) (hlx := (by first | assumption | rfl | omega | simp))) ?_)
  rintro _ _ _ _ ⟨rfl, rfl, rfl⟩
  refine XL.as (.int .i64 (dec (dec z l.length) r.length)) rfl ?_
  refine XL.nil (X.seq (X.seq (X.region ?_)))
  refine XL.mv (.int .i64 (dec (dec z l.length) r.length)) rfl ?_
  refine cX (XOp.lss (a := dec (dec z l.length) r.length) (b := 0) rfl rfl ?_)
  refine XL.nil ?_
  refine X.condD (p := (dec (dec z l.length) r.length : Int) < 0) rfl (fun h2 => ?_) (fun h2 => ?_)
  ·refine X.seq (X.region ?_)
   refine XL.as (.int .i64 (-1)) rfl ?_
   refine XL.nil ?_
   refine X.ret (thenQ_ret (retEnd (L' := L) [.int .i64 (-1)] (.int .i64 (-1)) (.tmp rfl .nil) rfl rF rF (Sub.drop sR) ?_))
   exact ⟨(vI (by rw [← dec_dec (by omega)]; have := (dec_range (dec z l.length) r.length).1; omega)), rfl, rfl⟩
  ·refine X.skip (X.seq (X.region ?_))
   refine XL.mv (.int .i64 (dec (dec z l.length) r.length)) rfl ?_
   refine XL.as (.int .i64 (dec (dec z l.length) r.length)) rfl ?_
   refine XL.nil ?_
   refine X.ret (retEnd (L' := L) [.int .i64 (dec (dec z l.length) r.length)] (.int .i64 (dec (dec z l.length) r.length)) (.tmp rfl .nil) rfl rF rF (Sub.drop sR) ?_)
   exact ⟨(vI ((dec_dec (by omega)).symm)), rfl, rfl⟩

/- laws.eqSig -/
theorem eqSig_spec {F : FH} {L : List HP} {av : Value} {a : List Int} (ha : IntsF F av a) {bv : Value} {b : List Int} (hb : IntsF F bv b) (hbd : a.length ≤ 9223372036854775807 ∨ b.length ≤ 9223372036854775807) :
    Does prog 56 [.agg #[av], .agg #[bv]] F (L) (fun v F' L' => (.bool (decide (a = b)) : Value) = v ∧ F = F' ∧ L = L') := by
 refine Does.of_X func56 rfl rfl rfl ?_
 refine X.seq (X.region ?_)
 refine cX (XOp.box [av] rfl rfl ?_)
 intro b1
 refine cX (XOp.box [bv] rfl rfl ?_)
 intro b2
 refine XL.as (.bool (false)) rfl ?_
 refine XL.nil (X.seq (X.seq (X.region ?_)))
 refine cX (XOp.fieldP (b := b1) (0) runUnderlying34 rfl sizeOf22 (by decide) rfl rfl ?_)
 refine cX (XOp.load1 (v := av) isAgg22 rfl (Rd.own [_] rfl rfl) ?_)
 refine cX (XOp.fieldP (b := b2) (0) runUnderlying34 rfl sizeOf22 (by decide) rfl rfl ?_)
 refine cX (XOp.load1 (v := bv) isAgg22 rfl (Rd.own [] rfl rfl) ?_)
 refine cX (XOp.call (args := [av, bv]) call15 rfl (eqInt64S_spec ha hb (hbd := (by first | assumption | rfl | omega | (left; simp; done) | (right; simp; done)))) ?_)
 rintro _ _ _ _ ⟨rfl, rfl, rfl⟩
 refine cX (XOp.notD (p := a = b) rfl ?_)
 refine XL.nil ?_
 refine X.condD (p := ¬(a = b)) rfl (fun h1 => ?_) (fun h1 => ?_)
 ·refine X.seq (X.region ?_)
  refine XL.as (.bool (false)) rfl ?_
  refine XL.nil ?_
  refine X.ret (thenQ_ret (retEnd (L' := L) [.bool (false)] (.bool (false)) (.tmp rfl .nil) rfl rF rF (Sub.drop (Sub.drop sR)) ?_))
  exact ⟨(vB (decide_eq_false (by assumption))), rfl, rfl⟩
 ·refine X.skip (X.seq (X.region ?_))
  refine XL.as (.bool (true)) rfl ?_
  refine XL.nil ?_
  refine X.ret (retEnd (L' := L) [.bool (true)] (.bool (true)) (.tmp rfl .nil) rfl rF rF (Sub.drop (Sub.drop sR)) ?_)
  exact ⟨(vB (decide_eq_true (by first | assumption | exact Classical.not_not.1 (by assumption)))), rfl, rfl⟩

/- laws.eqRule -/
theorem eqRule_spec {F : FH} {L : List HP} {av : Value} {a : List Int} (ha : IntsF F av a) {bv : Value} {b : List Int} (hb : IntsF F bv b) {cv : Value} {c : List Int} (hc : IntsF F cv c) {dv : Value} {d : List Int} (hd : IntsF F dv d) (hbd : a.length ≤ 9223372036854775807 ∨ c.length ≤ 9223372036854775807) (hbe : b.length ≤ 9223372036854775807 ∨ d.length ≤ 9223372036854775807) :
    Does prog 120 [.agg #[av, bv], .agg #[cv, dv]] F (L) (fun v F' L' => (.bool (decide ((a, b) = (c, d))) : Value) = v ∧ F = F' ∧ L = L') := by
 refine Does.of_X func120 rfl rfl rfl ?_
 refine X.seq (X.region ?_)
 refine cX (XOp.box [av, bv] rfl rfl ?_)
 intro b1
 refine cX (XOp.box [cv, dv] rfl rfl ?_)
 intro b2
 refine XL.as (.bool (false)) rfl ?_
 refine XL.nil (X.seq (X.seq (X.region ?_)))
 refine cX (XOp.fieldP (b := b1) (0) runUnderlying121 rfl sizeOf22 (by decide) rfl rfl ?_)
 refine cX (XOp.load1 (v := av) isAgg22 rfl (Rd.own [_] rfl rfl) ?_)
 refine cX (XOp.fieldP (b := b2) (0) runUnderlying121 rfl sizeOf22 (by decide) rfl rfl ?_)
 refine cX (XOp.load1 (v := cv) isAgg22 rfl (Rd.own [] rfl rfl) ?_)
 refine cX (XOp.call (args := [av, cv]) call15 rfl (eqInt64S_spec ha hc (hbd := (by first | assumption | rfl | omega | (left; simp; done) | (right; simp; done)))) ?_)
 rintro _ _ _ _ ⟨rfl, rfl, rfl⟩
 refine cX (XOp.notD (p := a = c) rfl ?_)
 refine XL.nil ?_
 refine X.condD (p := ¬(a = c)) rfl (fun h1 => ?_) (fun h1 => ?_)
 ·refine X.seq (X.region ?_)
  refine XL.as (.bool (false)) rfl ?_
  refine XL.nil ?_
  refine X.ret (thenQ_ret (retEnd (L' := L) [.bool (false)] (.bool (false)) (.tmp rfl .nil) rfl rF rF (Sub.drop (Sub.drop sR)) ?_))
  exact ⟨(vB (decide_eq_false (by intro e; simp_all))), rfl, rfl⟩
 ·refine X.skip (X.seq (X.seq (X.region ?_)))
  refine cX (XOp.fieldP (b := b1) (1) runUnderlying121 rfl sizeOf22 (by decide) rfl rfl ?_)
  refine cX (XOp.load1 (v := bv) isAgg22 rfl (Rd.own [_] rfl rfl) ?_)
  refine cX (XOp.fieldP (b := b2) (1) runUnderlying121 rfl sizeOf22 (by decide) rfl rfl ?_)
  refine cX (XOp.load1 (v := dv) isAgg22 rfl (Rd.own [] rfl rfl) ?_)
  refine cX (XOp.call (args := [bv, dv]) call15 rfl (eqInt64S_spec hb hd (hbd := (by first | assumption | rfl | omega | (left; simp; done) | (right; simp; done)))) ?_)
  rintro _ _ _ _ ⟨rfl, rfl, rfl⟩
  refine cX (XOp.notD (p := b = d) rfl ?_)
  refine XL.nil ?_
  refine X.condD (p := ¬(b = d)) rfl (fun h2 => ?_) (fun h2 => ?_)
  ·refine X.seq (X.region ?_)
   refine XL.as (.bool (false)) rfl ?_
   refine XL.nil ?_
   refine X.ret (thenQ_ret (retEnd (L' := L) [.bool (false)] (.bool (false)) (.tmp rfl .nil) rfl rF rF (Sub.drop (Sub.drop sR)) ?_))
   exact ⟨(vB (decide_eq_false (by intro e; simp_all))), rfl, rfl⟩
  ·refine X.skip (X.seq (X.region ?_))
   refine XL.as (.bool (true)) rfl ?_
   refine XL.nil ?_
   refine X.ret (retEnd (L' := L) [.bool (true)] (.bool (true)) (.tmp rfl .nil) rfl rF rF (Sub.drop (Sub.drop sR)) ?_)
   exact ⟨(vB (decide_eq_true (by simp_all))), rfl, rfl⟩

/- laws.szRuleS -/
theorem szRuleS_spec {F : FH} {L : List HP} {rsv : Value} {rs : List (List Int × List Int)} (hrs : PairsF F rsv rs) {z : Int} (hz : 0 ≤ z ∧ z ≤ 4000000) (hrl : rs.length ≤ 9223372036854775807) (hrb : ∀ i, i < rs.length → (rs.getD i ([], [])).1.length ≤ 9223372036854775807 ∧ (rs.getD i ([], [])).2.length ≤ 9223372036854775807) :
    Does prog 42 [rsv, .int .i64 (z)] F (L) (fun v F' L' => (.int .i64 (dec z (szR rs)) : Value) = v ∧ F = F' ∧ L = L') := by
 refine Does.of_X func42 rfl rfl rfl ?_
 refine X.seq (X.region ?_)
 refine XL.as (.int .i64 (0)) rfl ?_
 refine XL.nil (X.seq (X.region ?_))
 refine XL.mv (.int .i64 (z)) rfl ?_
 refine XL.mv (rsv) rfl ?_
 refine cX (XOp.lenS (v := rsv) (n := (rs).length) runUnderlying25 rfl hrs.slv ?_)
 refine cX (XOp.subR (a := z) (b := (rs.length : Int)) (z - ((rs.length : Int))) rfl rfl (by omega) (by omega) ?_)
 refine XL.as (.int .i64 (z - ((rs.length : Int)))) rfl ?_
 refine XL.nil (X.seq (X.seq (X.region ?_)))
 refine XL.mv (.int .i64 (z - ((rs.length : Int)))) rfl ?_
 refine cX (XOp.lss (a := z - ((rs.length : Int))) (b := 0) rfl rfl ?_)
 refine XL.nil ?_
 refine X.condD (p := (z - ((rs.length : Int)) : Int) < 0) rfl (fun h1 => ?_) (fun h1 => ?_)
 ·refine X.seq (X.region ?_)
  refine XL.as (.int .i64 (-1)) rfl ?_
  refine XL.nil ?_
  refine X.ret (thenQ_ret (retEnd (L' := L) [.int .i64 (-1)] (.int .i64 (-1)) (.tmp rfl .nil) rfl rF rF sR ?_))
  exact ⟨(vI (dec_mono (n := rs.length) (by rw [dec_neg (by omega)]; omega) (by unfold szR; omega))), rfl, rfl⟩
 ·refine X.skip (X.seq (X.seq (X.region ?_)))
  refine XL.as (.int .i64 (0)) rfl ?_
  refine XL.nil (X.block ?_)
  refine X.loop (α := Nat) (fun k => [(0, rsv), (1, .int .i64 (dec z (rs.length + szTo rs k))), (5, .int .i64 ((k : Int)))]) (fun k => L) (fun k F' => F = F' ∧ (k ≤ rs.length) ∧ (0 ≤ dec z (rs.length + szTo rs k))) (fun k => rs.length - k) 0 ⟨rfl, (vI (by show z - rs.length = dec z (rs.length + 0); rw [Nat.add_zero, dec_pos (by omega)])), rfl, trivial⟩ sR ⟨rfl, (by (try dsimp only) <;> omega), (by show 0 ≤ dec z (rs.length + 0); rw [Nat.add_zero, dec_pos (by omega)]; omega)⟩ ?_
  rintro k rE _ _ ⟨rfl, hk, hnn⟩
  show X _ _ _ _ (envs [(0, rsv), (1, .int .i64 (dec z (rs.length + szTo rs k))), (5, .int .i64 ((k : Int)))] rE) _ (L)
  have hdr := dec_range z (rs.length + szTo rs k)
  have hrk := hrb k
  refine X.seq (X.seq (X.region ?_))
  refine XL.mv (.int .i64 ((k : Int))) rfl ?_
  refine XL.mv (rsv) rfl ?_
  refine cX (XOp.lenS (v := rsv) (n := (rs).length) runUnderlying25 rfl hrs.slv ?_)
  refine cX (XOp.lss (a := (k : Int)) (b := (rs.length : Int)) rfl rfl ?_)
  refine XL.nil ?_
  refine X.condD (p := (k : Int) < (rs.length : Int)) rfl (fun h2 => ?_) (fun h2 => ?_)
  ·refine X.skip (X.seq (X.block (X.seq (X.region ?_))))
   refine XL.mv (rsv) rfl ?_
   refine XL.mv (.int .i64 ((k : Int))) rfl ?_
   refine cX (XOp.indexS (v := rsv) (i := (k : Int)) (n := (rs).length) k runUnderlying25 sizeOf127 rfl rfl rfl hrs.slv (by omega) rfl ?_)
   obtain ⟨a1, a2, ha1, ha2, hr1, hr2⟩ := hrs.rd (i := k) (by omega)
   refine cX (XOp.loadN [a1, a2] isAgg127 sizeOf127 rfl rfl (Rd.two (hr1 _) (hr2 _)) ?_)
   refine XL.mv (.int .i64 (dec z (rs.length + szTo rs k))) rfl ?_
   refine cX (XOp.call (args := [.agg #[a1, a2], .int .i64 (dec z (rs.length + szTo rs k))]) call92 rfl (szRule_spec (z := dec z (rs.length + szTo rs k)) ha1 ha2 (hz := (by first | assumption | rfl | omega | simp)) (hll := (by first | assumption | rfl | omega | simp)) (hlr := (by first | assumption | rfl | omega | simp))) ?_)
   rintro _ _ _ _ ⟨rfl, rfl, rfl⟩
   refine XL.as (.int .i64 (dec (dec z (rs.length + szTo rs k)) (((rs.getD k ([], [])).1).length + ((rs.getD k ([], [])).2).length))) rfl ?_
   refine XL.nil (X.seq (X.region ?_))
   refine XL.mv (.int .i64 (dec (dec z (rs.length + szTo rs k)) (((rs.getD k ([], [])).1).length + ((rs.getD k ([], [])).2).length))) rfl ?_
   refine cX (XOp.lss (a := dec (dec z (rs.length + szTo rs k)) (((rs.getD k ([], [])).1).length + ((rs.getD k ([], [])).2).length)) (b := 0) rfl rfl ?_)
   refine XL.nil ?_
   refine X.condD (p := (dec (dec z (rs.length + szTo rs k)) (((rs.getD k ([], [])).1).length + ((rs.getD k ([], [])).2).length) : Int) < 0) rfl (fun h3 => ?_) (fun h3 => ?_)
   ·refine X.seq (X.region ?_)
    refine XL.as (.int .i64 (-1)) rfl ?_
    refine XL.nil ?_
    refine X.ret (blockQ_ret (thenQ_ret (thenQ_ret (blockQ_ret (thenQ_ret (retEnd (L' := L) [.int .i64 (-1)] (.int .i64 (-1)) (.tmp rfl .nil) rfl rF rF sR ?_))))))
    exact ⟨(vI (by have h9 := szTo_le (rs := rs) (k + 1) rs.length (by omega) (Nat.le_refl _); refine dec_mono (n := rs.length + szTo rs (k + 1)) ?_ (by unfold szR; omega); rw [← szTo_succ (by omega), ← Nat.add_assoc, ← dec_dec (by omega)]; omega)), rfl, rfl⟩
   ·refine X.skip (X.region ?_)
    refine XL.mv (.int .i64 ((k : Int))) rfl ?_
    refine cX (XOp.addR (a := (k : Int)) (b := 1) (((k + 1 : Nat) : Int)) rfl rfl (by omega) (by omega) ?_)
    refine XL.as (.int .i64 (((k + 1 : Nat) : Int))) rfl ?_
    refine XL.nil ?_
    exact ⟨k + 1, _, FLe.refl _, rF, ⟨rfl, (vI (by rw [dec_dec (by omega), Nat.add_assoc, szTo_succ (by omega)])), rfl, trivial⟩, sR, ⟨rfl, (by (try dsimp only) <;> omega), (by (try dsimp only); rw [← szTo_succ (by omega), ← Nat.add_assoc, ← dec_dec (by omega)]; omega)⟩, (by omega)⟩
  ·refine X.exit (thenQ_exit (thenQ_exit (blockQ_exit ?_)))
   refine X.seq (X.region ?_)
   refine XL.mv (.int .i64 (dec z (rs.length + szTo rs k))) rfl ?_
   refine XL.as (.int .i64 (dec z (rs.length + szTo rs k))) rfl ?_
   refine XL.nil ?_
   refine X.ret (retEnd (L' := L) [.int .i64 (dec z (rs.length + szTo rs k))] (.int .i64 (dec z (rs.length + szTo rs k))) (.tmp rfl .nil) rfl rF rF sR ?_)
   exact ⟨(vI (by rw [szR, show k = rs.length from by omega])), rfl, rfl⟩

/- laws.szSystem -/
theorem szSystem_spec {F : FH} {L : List HP} {arv : Value} {ar : List Int} (har : IntsF F arv ar) {rsv : Value} {rs : List (List Int × List Int)} (hrs : PairsF F rsv rs) {z : Int} (hz : 0 ≤ z ∧ z ≤ 4000000) (hal : ar.length ≤ 9223372036854775807) (hrl : rs.length ≤ 9223372036854775807) (hrb : ∀ i, i < rs.length → (rs.getD i ([], [])).1.length ≤ 9223372036854775807 ∧ (rs.getD i ([], [])).2.length ≤ 9223372036854775807) :
    Does prog 8 [.agg #[arv, rsv], .int .i64 (z)] F (L) (fun v F' L' => (.int .i64 (dec z (ar.length + szR rs)) : Value) = v ∧ F = F' ∧ L = L') := by
 refine Does.of_X func8 rfl rfl rfl ?_
 have hdr := dec_range z ar.length
 refine X.seq (X.region ?_)
 refine cX (XOp.box [arv, rsv] rfl rfl ?_)
 intro b1
 refine XL.as (.int .i64 (0)) rfl ?_
 refine XL.nil (X.seq (X.region ?_))
 refine cX (XOp.fieldP (b := b1) (0) runUnderlying27 rfl sizeOf24 (by decide) rfl rfl ?_)
 refine cX (XOp.loadN [arv] isAgg24 sizeOf24 rfl rfl (Rd.ownN [] rfl rfl) ?_)
 refine XL.mv (.int .i64 (z)) rfl ?_
 refine cX (XOp.call (args := [.agg #[arv], .int .i64 (z)]) call41 rfl (szSig_spec (z := z) har (hz := (by first | assumption | rfl | omega | simp)) (hlx := (by first | assumption | rfl | omega | simp))) ?_)
 rintro _ _ _ _ ⟨rfl, rfl, rfl⟩
 refine XL.as (.int .i64 (dec z ar.length)) rfl ?_
 refine XL.nil (X.seq (X.seq (X.region ?_)))
 refine XL.mv (.int .i64 (dec z ar.length)) rfl ?_
 refine cX (XOp.lss (a := dec z ar.length) (b := 0) rfl rfl ?_)
 refine XL.nil ?_
 refine X.condD (p := (dec z ar.length : Int) < 0) rfl (fun h1 => ?_) (fun h1 => ?_)
 ·refine X.seq (X.region ?_)
  refine XL.as (.int .i64 (-1)) rfl ?_
  refine XL.nil ?_
  refine X.ret (thenQ_ret (retEnd (L' := L) [.int .i64 (-1)] (.int .i64 (-1)) (.tmp rfl .nil) rfl rF rF (Sub.drop sR) ?_))
  exact ⟨(vI (dec_out (by omega))), rfl, rfl⟩
 ·refine X.skip (X.seq (X.region ?_))
  refine cX (XOp.fieldP (b := b1) (1) runUnderlying27 rfl sizeOf25 (by decide) rfl rfl ?_)
  refine cX (XOp.load1 (v := rsv) isAgg25 rfl (Rd.own [] rfl rfl) ?_)
  refine XL.mv (.int .i64 (dec z ar.length)) rfl ?_
  refine cX (XOp.call (args := [rsv, .int .i64 (dec z ar.length)]) call42 rfl (szRuleS_spec (z := dec z ar.length) hrs (hz := (by first | assumption | rfl | omega | simp)) (hrl := (by first | assumption | rfl | omega | simp)) (hrb := (by first | assumption | rfl | omega | simp))) ?_)
  rintro _ _ _ _ ⟨rfl, rfl, rfl⟩
  refine XL.as (.int .i64 (dec (dec z ar.length) (szR rs))) rfl ?_
  refine XL.nil (X.seq (X.seq (X.region ?_)))
  refine XL.mv (.int .i64 (dec (dec z ar.length) (szR rs))) rfl ?_
  refine cX (XOp.lss (a := dec (dec z ar.length) (szR rs)) (b := 0) rfl rfl ?_)
  refine XL.nil ?_
  refine X.condD (p := (dec (dec z ar.length) (szR rs) : Int) < 0) rfl (fun h2 => ?_) (fun h2 => ?_)
  ·refine X.seq (X.region ?_)
   refine XL.as (.int .i64 (-1)) rfl ?_
   refine XL.nil ?_
   refine X.ret (thenQ_ret (retEnd (L' := L) [.int .i64 (-1)] (.int .i64 (-1)) (.tmp rfl .nil) rfl rF rF (Sub.drop sR) ?_))
   exact ⟨(vI (by rw [← dec_dec (by omega)]; have := (dec_range (dec z ar.length) (szR rs)).1; omega)), rfl, rfl⟩
  ·refine X.skip (X.seq (X.region ?_))
   refine XL.mv (.int .i64 (dec (dec z ar.length) (szR rs))) rfl ?_
   refine XL.as (.int .i64 (dec (dec z ar.length) (szR rs))) rfl ?_
   refine XL.nil ?_
   refine X.ret (retEnd (L' := L) [.int .i64 (dec (dec z ar.length) (szR rs))] (.int .i64 (dec (dec z ar.length) (szR rs))) (.tmp rfl .nil) rfl rF rF (Sub.drop sR) ?_)
   exact ⟨(vI ((dec_dec (by omega)).symm)), rfl, rfl⟩

/- laws.eqRuleS -/
theorem eqRuleS_spec {F : FH} {L : List HP} {av : Value} {a : List (List Int × List Int)} (ha : PairsF F av a) {bv : Value} {b : List (List Int × List Int)} (hb : PairsF F bv b) (hal : a.length ≤ 9223372036854775807) (hbd : ∀ i, i < a.length → (a.getD i ([], [])).1.length ≤ 9223372036854775807 ∧ (a.getD i ([], [])).2.length ≤ 9223372036854775807) :
    Does prog 57 [av, bv] F (L) (fun v F' L' => (.bool (decide (a = b)) : Value) = v ∧ F = F' ∧ L = L') := by
 refine Does.of_X func57 rfl rfl rfl ?_
 refine X.seq (X.region ?_)
 refine XL.as (.bool (false)) rfl ?_
 refine XL.nil (X.seq (X.seq (X.region ?_)))
 refine XL.mv (av) rfl ?_
 refine cX (XOp.lenS (v := av) (n := (a).length) runUnderlying35 rfl ha.slv ?_)
 refine XL.mv (bv) rfl ?_
 refine cX (XOp.lenS (v := bv) (n := (b).length) runUnderlying35 rfl hb.slv ?_)
 refine cX (XOp.neq (a := (a.length : Int)) (b := (b.length : Int)) rfl rfl ?_)
 refine XL.nil ?_
 refine X.condD (p := ((a.length : Int) : Int) ≠ (b.length : Int)) rfl (fun h1 => ?_) (fun h1 => ?_)
 ·refine X.seq (X.region ?_)
  refine XL.as (.bool (false)) rfl ?_
  refine XL.nil ?_
  refine X.ret (thenQ_ret (retEnd (L' := L) [.bool (false)] (.bool (false)) (.tmp rfl .nil) rfl rF rF sR ?_))
  exact ⟨(vB (decide_eq_false (fun e => by rw [e] at h1; omega))), rfl, rfl⟩
 ·refine X.skip (X.seq (X.seq (X.region ?_)))
  refine XL.as (.int .i64 (0)) rfl ?_
  refine XL.nil (X.block ?_)
  refine X.loop (α := Nat) (fun k => [(0, av), (1, bv), (5, .int .i64 ((k : Int)))]) (fun k => L) (fun k F' => F = F' ∧ (k ≤ a.length) ∧ (∀ i, i < k → a.getD i ([], []) = b.getD i ([], []))) (fun k => a.length - k) 0 ⟨rfl, rfl, rfl, trivial⟩ sR ⟨rfl, (by (try dsimp only) <;> omega), (fun i hi => absurd hi (by omega))⟩ ?_
  rintro k rE _ _ ⟨rfl, hk, hall⟩
  show X _ _ _ _ (envs [(0, av), (1, bv), (5, .int .i64 ((k : Int)))] rE) _ (L)
  have hbk := hbd k
  refine X.seq (X.seq (X.region ?_))
  refine XL.mv (.int .i64 ((k : Int))) rfl ?_
  refine XL.mv (av) rfl ?_
  refine cX (XOp.lenS (v := av) (n := (a).length) runUnderlying35 rfl ha.slv ?_)
  refine cX (XOp.lss (a := (k : Int)) (b := (a.length : Int)) rfl rfl ?_)
  refine XL.nil ?_
  refine X.condD (p := (k : Int) < (a.length : Int)) rfl (fun h2 => ?_) (fun h2 => ?_)
  ·refine X.skip (X.seq (X.block (X.seq ?_)))
   obtain ⟨a1, a2, ha1, ha2, hr1, hr2⟩ := ha.rd (i := k) (by omega)
   obtain ⟨a3, a4, ha3, ha4, hr3, hr4⟩ := hb.rd (i := k) (by omega)
   refine X.draw [] L 8 [[], [], [], [], [], [], [], []] [[], [], [0, 1], [2], [], [], [4, 5], [6]] (phiL [fun us v => v = av, fun us v => v = (.int .i64 ((k : Int)) : Value), fun us v => v = (.pointer (some (elemA av (k * 2))) : Value), fun us v => v = (.agg #[a1, a2] : Value), fun us v => v = bv, fun us v => v = (.int .i64 ((k : Int)) : Value), fun us v => v = (.pointer (some (elemA bv (k * 2))) : Value), fun us v => v = (.agg #[a3, a4] : Value)]) (ownL [fun us v => [], fun us v => [], fun us v => [], fun us v => [], fun us v => [], fun us v => [], fun us v => [], fun us v => []]) mixed rfl rfl (by kernel_rfl) ?_ ?_
   ·refine stepsP.cons (fun vals R hpZ => ?_) ?_
    ·refine XG.op (XOp.move (av) rfl ?_)
     exact ⟨rfl, rfl, rfl⟩
    refine stepsP.cons (fun vals R hpZ => ?_) ?_
    ·refine XG.op (XOp.move (.int .i64 ((k : Int))) rfl ?_)
     exact ⟨rfl, rfl, rfl⟩
    refine stepsP.cons (fun vals R hpZ => ?_) ?_
    ·rw [eS (l := [(0, av), (1, (.int .i64 ((k : Int)) : Value))]) ⟨hpZ 0 (by decide), hpZ 1 (by decide), trivial⟩]
     refine XG.op (XOp.indexS (v := av) (i := (k : Int)) (n := (a).length) k runUnderlying35 sizeOf121 rfl rfl rfl ha.slv (by omega) rfl ?_)
     exact ⟨rfl, rfl, rfl⟩
    refine stepsP.cons (fun vals R hpZ => ?_) ?_
    ·rw [eS (l := [(2, (.pointer (some (elemA av (k * 2))) : Value))]) ⟨hpZ 2 (by decide), trivial⟩]
     refine XG.op (XOp.loadN [a1, a2] isAgg121 sizeOf121 rfl rfl (Rd.two (hr1 _) (hr2 _)) ?_)
     exact ⟨rfl, rfl, rfl⟩
    refine stepsP.cons (fun vals R hpZ => ?_) ?_
    ·refine XG.op (XOp.move (bv) rfl ?_)
     exact ⟨rfl, rfl, rfl⟩
    refine stepsP.cons (fun vals R hpZ => ?_) ?_
    ·refine XG.op (XOp.move (.int .i64 ((k : Int))) rfl ?_)
     exact ⟨rfl, rfl, rfl⟩
    refine stepsP.cons (fun vals R hpZ => ?_) ?_
    ·rw [eS (l := [(4, bv), (5, (.int .i64 ((k : Int)) : Value))]) ⟨hpZ 4 (by decide), hpZ 5 (by decide), trivial⟩]
     refine XG.op (XOp.indexS (v := bv) (i := (k : Int)) (n := (b).length) k runUnderlying35 sizeOf121 rfl rfl rfl hb.slv (by omega) rfl ?_)
     exact ⟨rfl, rfl, rfl⟩
    refine stepsP.cons (fun vals R hpZ => ?_) ?_
    ·rw [eS (l := [(6, (.pointer (some (elemA bv (k * 2))) : Value))]) ⟨hpZ 6 (by decide), trivial⟩]
     refine XG.op (XOp.loadN [a3, a4] isAgg121 sizeOf121 rfl rfl (Rd.two (hr3 _) (hr4 _)) ?_)
     exact ⟨rfl, rfl, rfl⟩
    exact stepsP.nil
   ·intro vals hphi
    rw [eS (l := [(3, (.agg #[a1, a2] : Value)), (7, (.agg #[a3, a4] : Value))]) ⟨(hphi 3 (by decide)), (hphi 7 (by decide)), trivial⟩]
    show XL _ _ _ _ _ _ _ (L)
    refine cX (XOp.call (args := [.agg #[a1, a2], .agg #[a3, a4]]) call120 rfl (eqRule_spec ha1 ha2 ha3 ha4 (hbd := (.inl (hbk (by omega)).1)) (hbe := (.inl (hbk (by omega)).2))) ?_)
    rintro _ _ _ _ ⟨rfl, rfl, rfl⟩
    refine cX (XOp.notD (p := (((a.getD k ([], [])).1), ((a.getD k ([], [])).2)) = (((b.getD k ([], [])).1), ((b.getD k ([], [])).2))) rfl ?_)
    refine XL.nil ?_
    refine X.condD (p := ¬((((a.getD k ([], [])).1), ((a.getD k ([], [])).2)) = (((b.getD k ([], [])).1), ((b.getD k ([], [])).2)))) rfl (fun h3 => ?_) (fun h3 => ?_)
    ·refine X.seq (X.region ?_)
     refine XL.as (.bool (false)) rfl ?_
     refine XL.nil ?_
     refine X.ret (blockQ_ret (thenQ_ret (thenQ_ret (blockQ_ret (thenQ_ret (retEnd (L' := L) [.bool (false)] (.bool (false)) (.tmp rfl .nil) rfl rF rF sR ?_))))))
     exact ⟨(vB (decide_eq_false (fun e => by subst e; simp at *))), rfl, rfl⟩
    ·refine X.skip (X.region ?_)
     refine XL.mv (.int .i64 ((k : Int))) rfl ?_
     refine cX (XOp.addR (a := (k : Int)) (b := 1) (((k + 1 : Nat) : Int)) rfl rfl (by omega) (by omega) ?_)
     refine XL.as (.int .i64 (((k + 1 : Nat) : Int))) rfl ?_
     refine XL.nil ?_
     exact ⟨k + 1, _, FLe.refl _, rF, ⟨rfl, rfl, rfl, trivial⟩, sR, ⟨rfl, (by (try dsimp only) <;> omega), (fun i hi => (Nat.lt_or_ge i k).elim (fun h => hall i h) (fun h => by obtain rfl : i = k := (by omega); first | assumption | exact Classical.not_not.1 (by assumption)))⟩, (by omega)⟩
  ·refine X.exit (thenQ_exit (thenQ_exit (blockQ_exit ?_)))
   refine X.seq (X.region ?_)
   refine XL.as (.bool (true)) rfl ?_
   refine XL.nil ?_
   refine X.ret (retEnd (L' := L) [.bool (true)] (.bool (true)) (.tmp rfl .nil) rfl rF rF sR ?_)
   exact ⟨(vB (decide_eq_true (ext_pair (by omega) (fun i hi => hall i (by omega))))), rfl, rfl⟩

/- laws.eqSystem -/
theorem eqSystem_spec {F : FH} {L : List HP} {cv : Value} {c : List Int} (hc : IntsF F cv c) {av : Value} {a : List (List Int × List Int)} (ha : PairsF F av a) {dv : Value} {d : List Int} (hd : IntsF F dv d) {bv : Value} {b : List (List Int × List Int)} (hb : PairsF F bv b) (hcl : c.length ≤ 9223372036854775807) (hal : a.length ≤ 9223372036854775807) (hbd : ∀ i, i < a.length → (a.getD i ([], [])).1.length ≤ 9223372036854775807 ∧ (a.getD i ([], [])).2.length ≤ 9223372036854775807) :
    Does prog 14 [.agg #[cv, av], .agg #[dv, bv]] F (L) (fun v F' L' => (.bool (decide (c = d ∧ a = b)) : Value) = v ∧ F = F' ∧ L = L') := by
 refine Does.of_X func14 rfl rfl rfl ?_
 refine X.seq (X.region ?_)
 refine cX (XOp.box [cv, av] rfl rfl ?_)
 intro b1
 refine cX (XOp.box [dv, bv] rfl rfl ?_)
 intro b2
 refine XL.as (.bool (false)) rfl ?_
 refine XL.nil (X.seq (X.seq (X.region ?_)))
 refine cX (XOp.fieldP (b := b1) (0) runUnderlying37 rfl sizeOf34 (by decide) rfl rfl ?_)
 refine cX (XOp.loadN [cv] isAgg34 sizeOf34 rfl rfl (Rd.ownN [_] rfl rfl) ?_)
 refine cX (XOp.fieldP (b := b2) (0) runUnderlying37 rfl sizeOf34 (by decide) rfl rfl ?_)
 refine cX (XOp.loadN [dv] isAgg34 sizeOf34 rfl rfl (Rd.ownN [] rfl rfl) ?_)
 refine cX (XOp.call (args := [.agg #[cv], .agg #[dv]]) call56 rfl (eqSig_spec hc hd (hbd := (.inl hcl))) ?_)
 rintro _ _ _ _ ⟨rfl, rfl, rfl⟩
 refine cX (XOp.notD (p := c = d) rfl ?_)
 refine XL.nil ?_
 refine X.condD (p := ¬(c = d)) rfl (fun h1 => ?_) (fun h1 => ?_)
 ·refine X.seq (X.region ?_)
  refine XL.as (.bool (false)) rfl ?_
  refine XL.nil ?_
  refine X.ret (thenQ_ret (retEnd (L' := L) [.bool (false)] (.bool (false)) (.tmp rfl .nil) rfl rF rF (Sub.drop (Sub.drop sR)) ?_))
  exact ⟨(vB (decide_eq_false (by intro e; simp_all))), rfl, rfl⟩
 ·refine X.skip (X.seq (X.seq (X.region ?_)))
  refine cX (XOp.fieldP (b := b1) (1) runUnderlying37 rfl sizeOf35 (by decide) rfl rfl ?_)
  refine cX (XOp.load1 (v := av) isAgg35 rfl (Rd.own [_] rfl rfl) ?_)
  refine cX (XOp.fieldP (b := b2) (1) runUnderlying37 rfl sizeOf35 (by decide) rfl rfl ?_)
  refine cX (XOp.load1 (v := bv) isAgg35 rfl (Rd.own [] rfl rfl) ?_)
  refine cX (XOp.call (args := [av, bv]) call57 rfl (eqRuleS_spec ha hb (hal := (by first | assumption | rfl | omega | simp)) (hbd := (by first | assumption | rfl | omega | simp))) ?_)
  rintro _ _ _ _ ⟨rfl, rfl, rfl⟩
  refine cX (XOp.notD (p := a = b) rfl ?_)
  refine XL.nil ?_
  refine X.condD (p := ¬(a = b)) rfl (fun h2 => ?_) (fun h2 => ?_)
  ·refine X.seq (X.region ?_)
   refine XL.as (.bool (false)) rfl ?_
   refine XL.nil ?_
   refine X.ret (thenQ_ret (retEnd (L' := L) [.bool (false)] (.bool (false)) (.tmp rfl .nil) rfl rF rF (Sub.drop (Sub.drop sR)) ?_))
   exact ⟨(vB (decide_eq_false (by intro e; simp_all))), rfl, rfl⟩
  ·refine X.skip (X.seq (X.region ?_))
   refine XL.as (.bool (true)) rfl ?_
   refine XL.nil ?_
   refine X.ret (retEnd (L' := L) [.bool (true)] (.bool (true)) (.tmp rfl .nil) rfl rF rF (Sub.drop (Sub.drop sR)) ?_)
   exact ⟨(vB (decide_eq_true (by simp_all))), rfl, rfl⟩

/- laws.toInt64S -/
theorem toInt64S_spec {F : FH} {L : List HP} {xsv : Value} {xs : List Int} (hxs : IntsF F xsv xs) (hlx : xs.length ≤ 4000000) :
    Does prog 11 [xsv] F (L) (fun v F' L' => F = F' ∧ IsSl v ∧ intsH 2 v xs :: L = L') := by
 refine Does.of_X func11 rfl rfl rfl ?_
 refine X.seq (X.region ?_)
 refine XL.as ((.slice none 0 0)) rfl ?_
 refine XL.nil (X.seq (X.region ?_))
 refine XL.mv (xsv) rfl ?_
 refine cX (XOp.lenS (v := xsv) (n := (xs).length) runUnderlying22 rfl hxs.slv ?_)
 refine cX (XOp.makeSlice (n := (xs).length) (bytes := 8) [.int .i64 (0)] runUnderlying22 sizeOf2 typeInfo2 rfl zeroValue2 rfl rfl rfl rfl (by omega) (by omega) ?_)
 intro v1 hv1
 rw [intsH_zeros]
 refine XL.as (v1) rfl ?_
 refine XL.nil (X.seq (X.seq (X.region ?_)))
 refine XL.as (.int .i64 (0)) rfl ?_
 refine XL.nil (X.block ?_)
 refine X.loop (α := Nat × List Int) (fun xQ => [(0, xsv), (3, v1), (4, .int .i64 (((xQ.1 : Nat) : Int)))]) (fun xQ => intsH 2 v1 xQ.2 :: L) (fun xQ F' => F = F' ∧ (xQ.1 ≤ xs.length) ∧ (xQ.2.length = xs.length) ∧ (xQ.2.take xQ.1 = xs.take xQ.1)) (fun xQ => xs.length - xQ.1) (0, (List.replicate xs.length 0)) ⟨rfl, rfl, rfl, trivial⟩ (Sub.cons sR) ⟨rfl, (by (try dsimp only) <;> omega), (by simp), (rfl)⟩ ?_
 rintro ⟨k, os⟩ rE _ _ ⟨rfl, hk, hol, hos⟩
 show X _ _ _ _ (envs [(0, xsv), (3, v1), (4, .int .i64 ((k : Int)))] rE) _ (intsH 2 v1 os :: L)
 dsimp only at hk hol hos
 refine X.seq (X.seq (X.region ?_))
 refine XL.mv (.int .i64 ((k : Int))) rfl ?_
 refine XL.mv (xsv) rfl ?_
 refine cX (XOp.lenS (v := xsv) (n := (xs).length) runUnderlying22 rfl hxs.slv ?_)
 refine cX (XOp.lss (a := (k : Int)) (b := (xs.length : Int)) rfl rfl ?_)
 refine XL.nil ?_
 refine X.condD (p := (k : Int) < (xs.length : Int)) rfl (fun h1 => ?_) (fun h1 => ?_)
 ·refine X.skip (X.seq (X.block (X.region ?_)))
  refine XL.mv (v1) rfl ?_
  refine XL.mv (.int .i64 ((k : Int))) rfl ?_
  refine XL.mv (xsv) rfl ?_
  refine XL.mv (.int .i64 ((k : Int))) rfl ?_
  refine cX (XOp.indexS (v := xsv) (i := (k : Int)) (n := (xs).length) k runUnderlying22 sizeOf2 rfl rfl rfl hxs.slv (by omega) (Nat.mul_one _) ?_)
  refine cX (XOp.load1 (v := .int .i64 (xs.getD k 0)) isAgg2 rfl (hxs.rd (by omega)) ?_)
  refine cX (XOp.indexS (v := v1) (i := (k : Int)) (n := os.length) k runUnderlying22 sizeOf2 rfl rfl rfl (intsH.slv [] rfl) (by omega) (Nat.mul_one _) ?_)
  refine cX (intsH.storeX (i := k) (v := v1) [] _ (os.set k (xs.getD k 0)) sizeOf2 rfl rfl rfl (by omega) rfl ?_)
  refine XL.nil (X.region ?_)
  refine XL.mv (.int .i64 ((k : Int))) rfl ?_
  refine cX (XOp.addR (a := (k : Int)) (b := 1) (((k + 1 : Nat) : Int)) rfl rfl (by omega) (by omega) ?_)
  refine XL.as (.int .i64 (((k + 1 : Nat) : Int))) rfl ?_
  refine XL.nil ?_
  exact ⟨(k + 1, (os.set k (xs.getD k 0))), _, FLe.refl _, rF, ⟨rfl, rfl, rfl, trivial⟩, (Sub.cons sR), ⟨rfl, (by (try dsimp only) <;> omega), (by dsimp only; rw [List.length_set]; exact hol), (by dsimp only; rw [take_set_next (by omega) (by omega), hos, take_succ_getD 0 (by omega)])⟩, (by omega)⟩
 ·refine X.exit (thenQ_exit (thenQ_exit (blockQ_exit ?_)))
  refine X.seq (X.region ?_)
  refine XL.mv (v1) rfl ?_
  refine XL.as (v1) rfl ?_
  refine XL.nil ?_
  refine X.ret (retEnd (L' := intsH 2 v1 os :: L) [v1] (v1) (.tmp rfl .nil) rfl rF rF (Sub.cons sR) ?_)
  refine ⟨rfl, (isSl_lit hv1), ?_⟩
  have hxs : (xs : List Int) = os := by rw [← List.take_of_length_le (l := xs) (i := k) (by omega), ← hos, List.take_of_length_le (by omega)]
  exact congrArg (fun z => intsH 2 _ z :: L) hxs
end Go.Proofs.YtiaanelimbmniaaGreat
set_option linter.unusedSimpArgs false
set_option linter.unusedVariables false
namespace Go.Proofs.YtiaanelimbmniaaGreat
open Go X M Tryz

/- laws.toSig -/
theorem toSig_spec {F : FH} {L : List HP} {xsv : Value} {xs : List Int} (hxs : IntsF F xsv xs) (hlx : xs.length ≤ 4000000) :
    Does prog 46 [.agg #[xsv]] F (L) (fun v F' L' => ∃ (a : Value), (.agg #[a] : Value) = v ∧ (IntsF F' a xs) ∧ (Fresh F F' (star [intsH 2 a xs])) ∧ L = L') := by
 refine Does.of_X func46 rfl rfl rfl ?_
 refine X.seq (X.region ?_)
 refine cX (XOp.box [xsv] rfl rfl ?_)
 intro b1
 refine cX (XOp.alloc [(.slice none 0 0)] zeroValue34 rfl ?_)
 intro b2
 refine XL.nil (X.seq (X.region ?_))
 refine cX (XOp.alloc [(.slice none 0 0)] zeroValue34 rfl ?_)
 intro b3
 refine XL.nil (X.seq (X.region ?_))
 refine cX (XOp.fieldP (b := b1) (0) runUnderlying24 rfl sizeOf22 (by decide) rfl rfl ?_)
 refine cX (XOp.load1 (v := xsv) isAgg22 rfl (Rd.own [_, _] rfl rfl) ?_)
 refine cX (XOp.frzF <| XOp.call (args := [xsv]) call11 rfl (toInt64S_spec hxs (hlx := (by first | assumption | rfl | omega | simp))) ?_)
 rintro v1 _ _ _ ⟨rfl, hs1, rfl⟩
 refine ⟨_, _, rfl, fun F1 le1 hz1 => ?_⟩
 have hf1 : IntsF F1 v1 ((xs)) := intsH.fz (xs := (xs)) hz1.fz
 refine cX (XOp.fieldP (b := b3) (0) runUnderlying34 rfl sizeOf22 (by decide) rfl rfl ?_)
 refine cX (XOp.store1 (v := v1) [] _ [v1] sizeOf22 rfl rfl (one_sl (IntsF.isSl hf1)) rfl rfl rfl ?_)
 refine XL.nil (X.seq (X.region ?_))
 refine cX (XOp.loadN [v1] isAgg34 sizeOf34 rfl rfl (Rd.ownN [] rfl rfl) ?_)
 refine cX (XOp.storeN (vs := [v1]) [_] _ [v1] sizeOf34 rfl rfl rfl (ones_cons (one_sl (IntsF.isSl hf1)) ones_nil) rfl rfl rfl ?_)
 refine XL.nil ?_
 refine X.ret (retEnd (L' := L) [.agg #[v1]] (.agg #[v1]) (.cell rfl (loadNV [v1] isAgg34 sizeOf34 rfl (Rd.ownN [_] rfl rfl)) .nil) rfl le1 rF (Sub.drop (Sub.drop (Sub.drop sR))) ?_)
 exact ⟨_, rfl, hf1, (Fresh.one hz1), rfl⟩

/- laws.toRule -/
theorem toRule_spec {F : FH} {L : List HP} {lv : Value} {l : List Int} (hl : IntsF F lv l) {rv : Value} {r : List Int} (hr : IntsF F rv r) (hll : l.length ≤ 4000000) (hlr : r.length ≤ 4000000) :
    Does prog 108 [.agg #[lv, rv]] F (L) (fun v F' L' => ∃ (a : Value), ∃ (b : Value), (.agg #[a, b] : Value) = v ∧ (IntsF F' a l) ∧ (IntsF F' b r) ∧ (Fresh F F' (star [intsH 2 a l, intsH 2 b r])) ∧ L = L') := by
 refine Does.of_X func108 rfl rfl rfl ?_
 refine X.seq (X.region ?_)
 refine cX (XOp.box [lv, rv] rfl rfl ?_)
 intro b1
 refine cX (XOp.alloc [(.slice none 0 0), (.slice none 0 0)] zeroValue121 rfl ?_)
 intro b2
 refine XL.nil (X.seq (X.region ?_))
 refine cX (XOp.alloc [(.slice none 0 0), (.slice none 0 0)] zeroValue121 rfl ?_)
 intro b3
 refine XL.nil (X.seq (X.region ?_))
 refine cX (XOp.fieldP (b := b1) (0) runUnderlying127 rfl sizeOf22 (by decide) rfl rfl ?_)
 refine cX (XOp.load1 (v := lv) isAgg22 rfl (Rd.own [_, _] rfl rfl) ?_)
 refine cX (XOp.frzF <| XOp.call (args := [lv]) call11 rfl (toInt64S_spec hl (hlx := (by first | assumption | rfl | omega | simp))) ?_)
 rintro v1 _ _ _ ⟨rfl, hs1, rfl⟩
 refine ⟨_, _, rfl, fun F1 le1 hz1 => ?_⟩
 replace hr := hr.mono le1
 have hf1 : IntsF F1 v1 ((l)) := intsH.fz (xs := (l)) hz1.fz
 refine cX (XOp.fieldP (b := b3) (0) runUnderlying121 rfl sizeOf22 (by decide) rfl rfl ?_)
 refine cX (XOp.store1 (v := v1) [] _ [v1, (.slice none 0 0)] sizeOf22 rfl rfl (one_sl (IntsF.isSl hf1)) rfl rfl rfl ?_)
 refine XL.nil (X.seq (X.region ?_))
 refine cX (XOp.fieldP (b := b1) (1) runUnderlying127 rfl sizeOf22 (by decide) rfl rfl ?_)
 refine cX (XOp.load1 (v := rv) isAgg22 rfl (Rd.own [_, _] rfl rfl) ?_)
 refine cX (XOp.frzF <| XOp.call (args := [rv]) call11 rfl (toInt64S_spec hr (hlx := (by first | assumption | rfl | omega | simp))) ?_)
 rintro v2 _ _ _ ⟨rfl, hs2, rfl⟩
 refine ⟨_, _, rfl, fun F2 le2 hz2 => ?_⟩
 replace hf1 := hf1.mono le2
 have hf2 : IntsF F2 v2 ((r)) := intsH.fz (xs := (r)) hz2.fz
 refine cX (XOp.fieldP (b := b3) (1) runUnderlying121 rfl sizeOf22 (by decide) rfl rfl ?_)
 refine cX (XOp.store1 (v := v2) [] _ [v1, v2] sizeOf22 rfl rfl (one_sl (IntsF.isSl hf2)) rfl rfl rfl ?_)
 refine XL.nil (X.seq (X.region ?_))
 refine cX (XOp.loadN [v1, v2] isAgg121 sizeOf121 rfl rfl (Rd.ownN [] rfl rfl) ?_)
 refine cX (XOp.storeN (vs := [v1, v2]) [_] _ [v1, v2] sizeOf121 rfl rfl rfl (ones_cons (one_sl (IntsF.isSl hf1)) (ones_cons (one_sl (IntsF.isSl hf2)) ones_nil)) rfl rfl rfl ?_)
 refine XL.nil ?_
 refine X.ret (retEnd (L' := L) [.agg #[v1, v2]] (.agg #[v1, v2]) (.cell rfl (loadNV [v1, v2] isAgg121 sizeOf121 rfl (Rd.ownN [_] rfl rfl)) .nil) rfl (FLe.trans le1 le2) rF (Sub.drop (Sub.drop (Sub.drop sR))) ?_)
 exact ⟨_, _, rfl, hf1, hf2, (Fresh.app (Fresh.one hz1) le1 (Fresh.one hz2) le2), rfl⟩

/- laws.toRuleS -/
theorem toRuleS_spec {F : FH} {L : List HP} {xv : Value} {x : List (List Int × List Int)} (hx : PairsF F xv x) (hlx : x.length ≤ 4000000) (hrb : ∀ i, i < x.length → (x.getD i ([], [])).1.length ≤ 4000000 ∧ (x.getD i ([], [])).2.length ≤ 4000000) :
    Does prog 47 [xv] F (L) (fun v F' L' => ∃ (a : Value), (a : Value) = v ∧ (PairsF F' a x) ∧ (Fresh F F' (star [pairsD 2 121 a x])) ∧ L = L') := by
 refine Does.of_X func47 rfl rfl rfl ?_
 refine X.seq (X.region ?_)
 refine XL.as ((.slice none 0 0)) rfl ?_
 refine XL.nil (X.seq (X.region ?_))
 refine XL.mv (xv) rfl ?_
 refine cX (XOp.lenS (v := xv) (n := (x).length) runUnderlying25 rfl hx.slv ?_)
 refine cX (XOp.makeSlice (n := (x).length) (bytes := 48) [(.slice none 0 0), (.slice none 0 0)] runUnderlying35 sizeOf121 typeInfo121 rfl zeroValue121 rfl rfl rfl rfl (by omega) (by omega) ?_)
 intro v1 hv1
 obtain ⟨cs1, hq1, hc1⟩ : ∃ cs, ((List.range (((x).length) * 2)).map fun i => [Value.slice none 0 0, Value.slice none 0 0].toArray[i % [Value.slice none 0 0, Value.slice none 0 0].toArray.size]!) = cs ∧ PairsC F cs (List.replicate ((x).length) ([], []) : List (List Int × List Int)) := ⟨_, rfl, PairsC.nils _⟩
 rw [hq1]
 refine XL.as (v1) rfl ?_
 refine XL.nil (X.seq (X.seq (X.region ?_)))
 refine XL.as (.int .i64 (0)) rfl ?_
 refine XL.nil (X.block ?_)
 obtain ⟨L0, hD0, hS0⟩ := deepNils2 2 x.length
 rw [hq1] at hD0
 refine X.loop (α := Nat × List (List Int × List Int) × List Value × List HP × FH) (fun xQ => [(0, xv), (3, v1), (4, .int .i64 (((xQ.1 : Nat) : Int)))]) (fun xQ => slH 121 2 v1 x.length xQ.2.2.1 :: L) (fun xQ F' => xQ.2.2.2.2 = F' ∧ F ≤ xQ.2.2.2.2 ∧ (PairsC xQ.2.2.2.2 xQ.2.2.1 xQ.2.1) ∧ (xQ.1 ≤ x.length) ∧ (xQ.2.1.length = x.length) ∧ (xQ.2.1.take xQ.1 = x.take xQ.1) ∧ (DeepL 2 (PairO 2) xQ.2.2.1 xQ.2.1 xQ.2.2.2.1) ∧ (Fresh F xQ.2.2.2.2 (star xQ.2.2.2.1))) (fun xQ => x.length - xQ.1) (0, (List.replicate ((x).length) ([], []) : List (List Int × List Int)), cs1, L0, F) ⟨rfl, rfl, rfl, trivial⟩ (Sub.cons sR) ⟨rfl, FLe.refl _, (hc1), (by (try dsimp only) <;> omega), (by simp), (rfl), (hD0), (Fresh.empty hS0)⟩ ?_
 rintro ⟨k, os, cs, Ls, G1⟩ rE _ _ ⟨rfl, leG, hC, hk, hol, hos, hD, hZ⟩
 show X _ _ _ _ (envs [(0, xv), (3, v1), (4, .int .i64 ((k : Int)))] rE) _ (slH 121 2 v1 x.length cs :: L)
 replace leG : F ≤ G1 := leG
 dsimp only at hC hk hol hos hD hZ
 have hrk := hrb k
 have leG1 := leG
 replace hx := hx.mono leG1
 refine X.seq (X.seq (X.region ?_))
 refine XL.mv (.int .i64 ((k : Int))) rfl ?_
 refine XL.mv (xv) rfl ?_
 refine cX (XOp.lenS (v := xv) (n := (x).length) runUnderlying25 rfl hx.slv ?_)
 refine cX (XOp.lss (a := (k : Int)) (b := (x.length : Int)) rfl rfl ?_)
 refine XL.nil ?_
 refine X.condD (p := (k : Int) < (x.length : Int)) rfl (fun h1 => ?_) (fun h1 => ?_)
 ·refine X.skip (X.seq (X.block (X.region ?_)))
  refine XL.mv (v1) rfl ?_
  refine XL.mv (.int .i64 ((k : Int))) rfl ?_
  refine XL.mv (xv) rfl ?_
  refine XL.mv (.int .i64 ((k : Int))) rfl ?_
  refine cX (XOp.indexS (v := xv) (i := (k : Int)) (n := (x).length) k runUnderlying25 sizeOf127 rfl rfl rfl hx.slv (by omega) rfl ?_)
  obtain ⟨a1, a2, ha1, ha2, hr1, hr2⟩ := hx.rd (i := k) (by omega)
  refine cX (XOp.loadN [a1, a2] isAgg127 sizeOf127 rfl rfl (Rd.two (hr1 _) (hr2 _)) ?_)
  refine cX (XOp.call (args := [.agg #[a1, a2]]) call108 rfl (toRule_spec ha1 ha2 (hll := (by first | assumption | rfl | omega | simp)) (hlr := (by first | assumption | rfl | omega | simp))) ?_)
  rintro _ F1 _ le1 ⟨x1, x2, rfl, hr3, hr4, hr5, rfl⟩
  replace hC := hC.mono le1
  refine cX (XOp.indexS (v := v1) (i := (k : Int)) (n := x.length) k runUnderlying35 sizeOf121 rfl rfl rfl (SlV.own [] rfl) (by omega) rfl ?_)
  refine cX (XOp.storeSN (i := k * 2) (m := 2) (vs := [x1, x2]) (cs := cs) [] _ sizeOf121 rfl rfl rfl (ones_cons (one_sl (IntsF.isSl hr3)) (ones_cons (one_sl (IntsF.isSl hr4)) ones_nil)) rfl (show k * 2 + 2 ≤ _ from by have h9 := CO.len hC; (try simp only [List.length_set, List.length_replicate] at h9); omega) (Nat.succ_pos _) ?_)
  have hc2 := hC.set (j := k) (by (try simp only [List.length_set, List.length_replicate]); omega) hr3 hr4
  refine XL.nil (X.region ?_)
  refine XL.mv (.int .i64 ((k : Int))) rfl ?_
  refine cX (XOp.addR (a := (k : Int)) (b := 1) (((k + 1 : Nat) : Int)) rfl rfl (by omega) (by omega) ?_)
  refine XL.as (.int .i64 (((k + 1 : Nat) : Int))) rfl ?_
  refine XL.nil ?_
  obtain ⟨A, K, B, es, hLs, hel, hR, hg, hput⟩ := hD.at (d := ([], [])) (k := k) (by omega)
  rw [hLs] at hZ
  have hDn := hput _ (((x.getD k ([], [])).1), ((x.getD k ([], [])).2)) [intsH 2 x1 (((x.getD k ([], [])).1)), intsH 2 x2 (((x.getD k ([], [])).2))] rfl ⟨_, _,  rfl, rfl⟩
  exact ⟨(k + 1, (os.set k (((x.getD k ([], [])).1), ((x.getD k ([], [])).2))), (cs.take (k * 2) ++ [x1, x2] ++ cs.drop (k * 2 + 2)), A ++ ([intsH 2 x1 (((x.getD k ([], [])).1)), intsH 2 x2 (((x.getD k ([], [])).2))] ++ B), F1), _, (FLe.trans leG1 le1), rF, ⟨rfl, rfl, rfl, trivial⟩, (Sub.cons sR), ⟨rfl, (FLe.trans leG1 le1), (hc2), (by (try dsimp only) <;> omega), (by dsimp only; rw [List.length_set]; exact hol), (by dsimp only; rw [take_set_any (by omega), hos, take_succ_getD ([], []) (by omega)]), (hDn), ((Fresh.swap hZ leG1 hr5 le1))⟩, (by omega)⟩
 ·refine X.exit (thenQ_exit (thenQ_exit (blockQ_exit ?_)))
  refine X.seq (X.region ?_)
  refine XL.mv (v1) rfl ?_
  refine XL.as (v1) rfl ?_
  refine XL.nil ?_
  refine X.freezeF [] _ _ rfl (fun F2 le2 hz1 => ?_)
  replace hC := hC.mono le2
  have hf1 : PairsF F2 v1 os := CO.fz hC (by first | rfl | simp | omega) hz1.fz
  refine X.ret (retEnd (L' := L) [v1] (v1) (.tmp rfl .nil) rfl (FLe.trans leG1 le2) rF sR ?_)
  have e : os = x := by rw [← List.take_of_length_le (l := x) (i := k) (by omega), ← hos, List.take_of_length_le (by omega)]
  subst e
  exact ⟨_, rfl, hf1, Fresh.one (Fresh.deep hD hZ leG1 hz1 rfl le2), rfl⟩

/- laws.toSystem -/
theorem toSystem_spec {F : FH} {L : List HP} {arv : Value} {ar : List Int} (har : IntsF F arv ar) {rsv : Value} {rs : List (List Int × List Int)} (hrs : PairsF F rsv rs) (hla : ar.length ≤ 4000000) (hrl : rs.length ≤ 4000000) (hrb : ∀ i, i < rs.length → (rs.getD i ([], [])).1.length ≤ 4000000 ∧ (rs.getD i ([], [])).2.length ≤ 4000000) :
    Does prog 10 [.agg #[arv, rsv]] F (L) (fun v F' L' => ∃ (a : Value), ∃ (b : Value), (.agg #[a, b] : Value) = v ∧ (IntsF F' a ar) ∧ (PairsF F' b rs) ∧ (Fresh F F' (star [intsH 2 a ar, pairsD 2 121 b rs])) ∧ L = L') := by
 refine Does.of_X func10 rfl rfl rfl ?_
 refine X.seq (X.region ?_)
 refine cX (XOp.box [arv, rsv] rfl rfl ?_)
 intro b1
 refine cX (XOp.alloc [(.slice none 0 0), (.slice none 0 0)] zeroValue37 rfl ?_)
 intro b2
 refine XL.nil (X.seq (X.region ?_))
 refine cX (XOp.alloc [(.slice none 0 0), (.slice none 0 0)] zeroValue37 rfl ?_)
 intro b3
 refine XL.nil (X.seq (X.region ?_))
 refine cX (XOp.fieldP (b := b1) (0) runUnderlying27 rfl sizeOf24 (by decide) rfl rfl ?_)
 refine cX (XOp.loadN [arv] isAgg24 sizeOf24 rfl rfl (Rd.ownN [_, _] rfl rfl) ?_)
 refine cX (XOp.call (args := [.agg #[arv]]) call46 rfl (toSig_spec har (hlx := (by first | assumption | rfl | omega | simp))) ?_)
 rintro _ F1 _ le1 ⟨x1, rfl, hr1, hr2, rfl⟩
 replace hrs := hrs.mono le1
 refine cX (XOp.fieldP (b := b3) (0) runUnderlying37 rfl sizeOf34 (by decide) rfl rfl ?_)
 refine cX (XOp.storeN (vs := [x1]) [] _ [x1, (.slice none 0 0)] sizeOf34 rfl rfl rfl (ones_cons (one_sl (IntsF.isSl hr1)) ones_nil) rfl rfl rfl ?_)
 refine XL.nil (X.seq (X.region ?_))
 refine cX (XOp.fieldP (b := b1) (1) runUnderlying27 rfl sizeOf25 (by decide) rfl rfl ?_)
 refine cX (XOp.load1 (v := rsv) isAgg25 rfl (Rd.own [_, _] rfl rfl) ?_)
 refine cX (XOp.call (args := [rsv]) call47 rfl (toRuleS_spec hrs (hlx := (by first | assumption | rfl | omega | simp)) (hrb := (by first | assumption | rfl | omega | simp))) ?_)
 rintro _ F2 _ le2 ⟨x2, rfl, hr3, hr4, rfl⟩
 replace hr1 := hr1.mono le2
 refine cX (XOp.fieldP (b := b3) (1) runUnderlying37 rfl sizeOf35 (by decide) rfl rfl ?_)
 refine cX (XOp.store1 (v := x2) [] _ [x1, x2] sizeOf35 rfl rfl (one_sl (PairsF.isSl hr3)) rfl rfl rfl ?_)
 refine XL.nil (X.seq (X.region ?_))
 refine cX (XOp.loadN [x1, x2] isAgg37 sizeOf37 rfl rfl (Rd.ownN [] rfl rfl) ?_)
 refine cX (XOp.storeN (vs := [x1, x2]) [_] _ [x1, x2] sizeOf37 rfl rfl rfl (ones_cons (one_sl (IntsF.isSl hr1)) (ones_cons (one_sl (PairsF.isSl hr3)) ones_nil)) rfl rfl rfl ?_)
 refine XL.nil ?_
 refine X.ret (retEnd (L' := L) [.agg #[x1, x2]] (.agg #[x1, x2]) (.cell rfl (loadNV [x1, x2] isAgg37 sizeOf37 rfl (Rd.ownN [_] rfl rfl)) .nil) rfl (FLe.trans le1 le2) rF (Sub.drop (Sub.drop (Sub.drop sR))) ?_)
 exact ⟨_, _, rfl, hr1, hr3, (Fresh.app hr2 le1 hr4 le2), rfl⟩
end Go.Proofs.YtiaanelimbmniaaGreat
set_option linter.unusedSimpArgs false
set_option linter.unusedVariables false
namespace Go.Proofs.YtiaanelimbmniaaGreat
open Go X M Tryz

/- laws.markInt64S -/
theorem markInt64S_spec {F : FH} {L : List HP} {xv : Value} {x : List Int} {z : Int} (hz : 0 ≤ z ∧ z + (((x)).length : Int) ≤ 9000000000) :
    Does prog 17 [xv, .int .i64 (z)] F (intsH 2 xv x :: L) (fun v F' L' => ∃ x' : List Int, ((x')) = iota z ((x)).length ∧ (.int .i64 (z + (((x)).length : Int)) : Value) = v ∧ F = F' ∧ intsH 2 xv x' :: L = L') := by
 refine Does.of_X func17 rfl rfl rfl ?_
 refine X.seq (X.region ?_)
 refine XL.as (.int .i64 (0)) rfl ?_
 refine XL.nil (X.seq (X.seq (X.region ?_)))
 refine XL.as (.int .i64 (0)) rfl ?_
 refine XL.nil (X.block ?_)
 refine X.loop (α := Nat × List Int) (fun xQ => [(0, xv), (1, .int .i64 (z + ((xQ.1 : Nat) : Int))), (5, .int .i64 (((xQ.1 : Nat) : Int)))]) (fun xQ => intsH 2 xv xQ.2 :: L) (fun xQ F' => F = F' ∧ (xQ.1 ≤ x.length) ∧ (xQ.2 = iota z xQ.1 ++ x.drop xQ.1) ∧ (xQ.2.length = x.length)) (fun xQ => x.length - xQ.1) (0, x) ⟨rfl, (show Value.int .i64 z = .int .i64 (z + ((0 : Nat) : Int)) from congrArg (Value.int .i64) (by omega)), rfl, trivial⟩ (Sub.cons sR) ⟨rfl, (by (try dsimp only) <;> omega), (by rw [iota_zero]; rfl), (rfl)⟩ ?_
 rintro ⟨k, os⟩ rE _ _ ⟨rfl, hk, hos, hol⟩
 show X _ _ _ _ (envs [(0, xv), (1, .int .i64 (z + (k : Int))), (5, .int .i64 ((k : Int)))] rE) _ (intsH 2 xv os :: L)
 dsimp only at hk hos hol
 refine X.seq (X.seq (X.region ?_))
 refine XL.mv (.int .i64 ((k : Int))) rfl ?_
 refine XL.mv (xv) rfl ?_
 refine cX (XOp.lenS (v := xv) (n := os.length) runUnderlying22 rfl (intsH.slv [] rfl) ?_)
 refine cX (XOp.lss (a := (k : Int)) (b := (os.length : Int)) rfl rfl ?_)
 refine XL.nil ?_
 refine X.condD (p := (k : Int) < (os.length : Int)) rfl (fun h1 => ?_) (fun h1 => ?_)
 ·refine X.skip (X.seq (X.block (X.seq (X.region ?_))))
  refine XL.mv (xv) rfl ?_
  refine XL.mv (.int .i64 ((k : Int))) rfl ?_
  refine XL.mv (.int .i64 (z + (k : Int))) rfl ?_
  refine cX (XOp.indexS (v := xv) (i := (k : Int)) (n := os.length) k runUnderlying22 sizeOf2 rfl rfl rfl (intsH.slv [] rfl) (by omega) (Nat.mul_one _) ?_)
  refine cX (intsH.storeX (i := k) (v := xv) [] _ (os.set k (z + (k : Int))) sizeOf2 rfl rfl rfl (by omega) rfl ?_)
  refine XL.nil (X.region ?_)
  refine XL.mv (.int .i64 (z + (k : Int))) rfl ?_
  refine cX (XOp.addR (a := z + (k : Int)) (b := 1) ((z + (k : Int)) + 1) rfl rfl (by omega) (by omega) ?_)
  refine XL.as (.int .i64 ((z + (k : Int)) + 1)) rfl ?_
  refine XL.nil (X.region ?_)
  refine XL.mv (.int .i64 ((k : Int))) rfl ?_
  refine cX (XOp.addR (a := (k : Int)) (b := 1) (((k + 1 : Nat) : Int)) rfl rfl (by omega) (by omega) ?_)
  refine XL.as (.int .i64 (((k + 1 : Nat) : Int))) rfl ?_
  refine XL.nil ?_
  exact ⟨(k + 1, (os.set k (z + (k : Int)))), _, FLe.refl _, rF, ⟨rfl, (vI (by omega)), rfl, trivial⟩, (Sub.cons sR), ⟨rfl, (by (try dsimp only) <;> omega), (by dsimp only; rw [hos]; exact iota_set (by omega)), (by dsimp only; rw [List.length_set]; exact hol)⟩, (by omega)⟩
 ·refine X.exit (thenQ_exit (thenQ_exit (blockQ_exit ?_)))
  refine X.seq (X.region ?_)
  refine XL.mv (.int .i64 (z + (k : Int))) rfl ?_
  refine XL.as (.int .i64 (z + (k : Int))) rfl ?_
  refine XL.nil ?_
  refine X.ret (retEnd (L' := intsH 2 xv os :: L) [.int .i64 (z + (k : Int))] (.int .i64 (z + (k : Int))) (.tmp rfl .nil) rfl rF rF (Sub.cons sR) ?_)
  have hkl : k = x.length := by omega
  subst hkl
  exact ⟨os, by rw [hos, List.drop_eq_nil_of_le (Nat.le_refl _), List.append_nil], rfl, rfl, rfl⟩

/- laws.heldInt64S -/
theorem heldInt64S_spec {F : FH} {L : List HP} {xv : Value} {x : List Int} (hx : IntsF F xv x) {z : Int} (hzb : 0 ≤ z ∧ z + (x.length : Int) ≤ 9000000000) :
    Does prog 61 [xv, .int .i64 (z)] F (L) (fun v F' L' => (.int .i64 (heldF x z) : Value) = v ∧ F = F' ∧ L = L') := by
 refine Does.of_X func61 rfl rfl rfl ?_
 refine X.seq (X.region ?_)
 refine XL.as (.int .i64 (0)) rfl ?_
 refine XL.nil (X.seq (X.seq (X.region ?_)))
 refine XL.as (.int .i64 (0)) rfl ?_
 refine XL.nil (X.block ?_)
 refine X.loop (α := Nat) (fun k => [(0, xv), (1, .int .i64 (z + (k : Int))), (5, .int .i64 ((k : Int)))]) (fun k => L) (fun k F' => F = F' ∧ (k ≤ x.length) ∧ (x.take k = iota z k)) (fun k => x.length - k) 0 ⟨rfl, (show Value.int .i64 z = .int .i64 (z + ((0 : Nat) : Int)) from congrArg (Value.int .i64) (by omega)), rfl, trivial⟩ sR ⟨rfl, (by (try dsimp only) <;> omega), (rfl)⟩ ?_
 rintro k rE _ _ ⟨rfl, hk, hos⟩
 show X _ _ _ _ (envs [(0, xv), (1, .int .i64 (z + (k : Int))), (5, .int .i64 ((k : Int)))] rE) _ (L)
 refine X.seq (X.seq (X.region ?_))
 refine XL.mv (.int .i64 ((k : Int))) rfl ?_
 refine XL.mv (xv) rfl ?_
 refine cX (XOp.lenS (v := xv) (n := (x).length) runUnderlying22 rfl hx.slv ?_)
 refine cX (XOp.lss (a := (k : Int)) (b := (x.length : Int)) rfl rfl ?_)
 refine XL.nil ?_
 refine X.condD (p := (k : Int) < (x.length : Int)) rfl (fun h1 => ?_) (fun h1 => ?_)
 ·refine X.skip (X.seq (X.block (X.seq (X.seq (X.region ?_)))))
  refine XL.mv (xv) rfl ?_
  refine XL.mv (.int .i64 ((k : Int))) rfl ?_
  refine cX (XOp.indexS (v := xv) (i := (k : Int)) (n := (x).length) k runUnderlying22 sizeOf2 rfl rfl rfl hx.slv (by omega) (Nat.mul_one _) ?_)
  refine cX (XOp.load1 (v := .int .i64 (x.getD k 0)) isAgg2 rfl (hx.rd (by omega)) ?_)
  refine XL.mv (.int .i64 (z + (k : Int))) rfl ?_
  refine cX (XOp.neq (a := x.getD k 0) (b := z + (k : Int)) rfl rfl ?_)
  refine XL.nil ?_
  refine X.condD (p := (x.getD k 0 : Int) ≠ z + (k : Int)) rfl (fun h2 => ?_) (fun h2 => ?_)
  ·refine X.seq (X.region ?_)
   refine XL.as (.int .i64 (-1)) rfl ?_
   refine XL.nil ?_
   refine X.ret (thenQ_ret (blockQ_ret (thenQ_ret (thenQ_ret (blockQ_ret (thenQ_ret (retEnd (L' := L) [.int .i64 (-1)] (.int .i64 (-1)) (.tmp rfl .nil) rfl rF rF sR ?_)))))))
   exact ⟨(vI (heldF_snoc_no (i := k) (by omega) (by assumption))), rfl, rfl⟩
  ·refine X.skip (X.region ?_)
   refine XL.mv (.int .i64 (z + (k : Int))) rfl ?_
   refine cX (XOp.addR (a := z + (k : Int)) (b := 1) ((z + (k : Int)) + 1) rfl rfl (by omega) (by omega) ?_)
   refine XL.as (.int .i64 ((z + (k : Int)) + 1)) rfl ?_
   refine XL.nil (X.region ?_)
   refine XL.mv (.int .i64 ((k : Int))) rfl ?_
   refine cX (XOp.addR (a := (k : Int)) (b := 1) (((k + 1 : Nat) : Int)) rfl rfl (by omega) (by omega) ?_)
   refine XL.as (.int .i64 (((k + 1 : Nat) : Int))) rfl ?_
   refine XL.nil ?_
   exact ⟨k + 1, _, FLe.refl _, rF, ⟨rfl, (vI (by omega)), rfl, trivial⟩, sR, ⟨rfl, (by (try dsimp only) <;> omega), (by (try dsimp only); rw [take_succ_getD 0 (by omega), hos, iota_succ]; congr 2; first | assumption | exact Classical.not_not.1 (by assumption) | omega)⟩, (by omega)⟩
 ·refine X.exit (thenQ_exit (thenQ_exit (blockQ_exit ?_)))
  refine X.seq (X.region ?_)
  refine XL.mv (.int .i64 (z + (k : Int))) rfl ?_
  refine XL.as (.int .i64 (z + (k : Int))) rfl ?_
  refine XL.nil ?_
  refine X.ret (retEnd (L' := L) [.int .i64 (z + (k : Int))] (.int .i64 (z + (k : Int))) (.tmp rfl .nil) rfl rF rF sR ?_)
  exact ⟨(vI (held_all (by omega) hos)), rfl, rfl⟩

/- laws.markSig -/
theorem markSig_spec {F : FH} {L : List HP} {xv : Value} {x : List Int} {z : Int} (hz : 0 ≤ z ∧ z + (((x)).length : Int) ≤ 9000000000) :
    Does prog 58 [.agg #[xv], .int .i64 (z)] F (intsH 2 xv x :: L) (fun v F' L' => ∃ x' : List Int, ((x')) = iota z ((x)).length ∧ (.int .i64 (z + (((x)).length : Int)) : Value) = v ∧ F = F' ∧ intsH 2 xv x' :: L = L') := by
 refine Does.of_X func58 rfl rfl rfl ?_
 refine X.seq (X.region ?_)
 refine cX (XOp.box [xv] rfl rfl ?_)
 intro b1
 refine XL.as (.int .i64 (0)) rfl ?_
 refine XL.nil (X.seq (X.region ?_))
 refine cX (XOp.fieldP (b := b1) (0) runUnderlying34 rfl sizeOf22 (by decide) rfl rfl ?_)
 refine cX (XOp.load1 (v := xv) isAgg22 rfl (Rd.own [] rfl rfl) ?_)
 refine XL.mv (.int .i64 (z)) rfl ?_
 refine XL.weaken (Sub.front (A := [_])) ?_
 show XL _ _ _ _ _ _ _ (intsH 2 xv x :: cellsH b1 [xv] 34 :: L)
 refine cX (XOp.call (args := [xv, .int .i64 (z)]) call17 rfl (markInt64S_spec (by omega)) ?_)
 rintro _ _ _ _ ⟨m1, hm1, rfl, rfl, rfl⟩
 have hml1 := congrArg List.length hm1
 rw [iota_len] at hml1
 try simp only [List.length_append] at hml1
 refine XL.as (.int .i64 (z + (((x)).length : Int))) rfl ?_
 refine XL.nil (X.seq (X.region ?_))
 refine XL.mv (.int .i64 (z + (((x)).length : Int))) rfl ?_
 refine XL.as (.int .i64 (z + (((x)).length : Int))) rfl ?_
 refine XL.nil ?_
 refine X.ret (retEnd (L' := intsH 2 xv m1 :: L) [.int .i64 (z + (((x)).length : Int))] (.int .i64 (z + (((x)).length : Int))) (.tmp rfl .nil) rfl rF rF (Sub.cons (Sub.drop sR)) ?_)
 exact ⟨m1, hm1, congrArg (Value.int .i64) (by first | rfl | (simp only [List.length_append]; omega)), rfl, rfl⟩

/- laws.markRuleS -/
theorem markRuleS_spec {F : FH} {L : List HP} {xv : Value} {x : List (List Int × List Int)} {z : Int} (hz : 0 ≤ z ∧ z + (((x.flatMap flatPair)).length : Int) ≤ 9000000000) (hnx : x.length ≤ 4000000) :
    Does prog 59 [xv, .int .i64 (z)] F (pairsD 2 121 xv x :: L) (fun v F' L' => ∃ x' : List (List Int × List Int), ((x'.flatMap flatPair)) = iota z ((x.flatMap flatPair)).length ∧ x'.length = x.length ∧ (.int .i64 (z + (((x.flatMap flatPair)).length : Int)) : Value) = v ∧ F = F' ∧ pairsD 2 121 xv x' :: L = L') := by
 refine Does.of_X func59 rfl rfl rfl ?_
 refine X.openDeep (fun cs Ls hd => ?_)
 refine X.weaken (Sub.front (A := [_])) ?_
 show X _ _ _ _ _ _ (star Ls :: slH 121 2 xv x.length cs :: L)
 refine X.seq (X.region ?_)
 refine XL.as (.int .i64 (0)) rfl ?_
 refine XL.nil (X.seq (X.seq (X.region ?_)))
 refine XL.as (.int .i64 (0)) rfl ?_
 refine XL.nil (X.block ?_)
 refine X.loop (α := Nat × List (List Int × List Int) × List HP) (fun xQ => [(0, xv), (1, .int .i64 (z + ((((x.take xQ.1).flatMap flatPair).length : Nat) : Int))), (5, .int .i64 (((xQ.1 : Nat) : Int)))]) (fun xQ => star xQ.2.2 :: slH 121 2 xv x.length cs :: L) (fun xQ F' => F = F' ∧ (DeepL 2 (PairO 2) cs (xQ.2.1 ++ x.drop xQ.1) xQ.2.2) ∧ (xQ.1 ≤ x.length) ∧ (xQ.2.1.length = xQ.1) ∧ (xQ.2.1.flatMap flatPair = iota z ((x.take xQ.1).flatMap flatPair).length)) (fun xQ => x.length - xQ.1) (0, [], Ls) ⟨rfl, (show Value.int .i64 z = .int .i64 (z + ((((x.take 0).flatMap flatPair).length : Nat) : Int)) from congrArg (Value.int .i64) (by simp)), rfl, trivial⟩ (Sub.cons (Sub.cons sR)) ⟨rfl, (hd), (by (try dsimp only) <;> omega), (rfl), (rfl)⟩ ?_
 rintro ⟨k, os, Ls⟩ rE _ _ ⟨rfl, hd, hk, hol, hfl⟩
 show X _ _ _ _ (envs [(0, xv), (1, .int .i64 (z + ((((x.take k).flatMap flatPair).length : Nat) : Int))), (5, .int .i64 ((k : Int)))] rE) _ (star Ls :: slH 121 2 xv x.length cs :: L)
 dsimp only at hd hk hol hfl
 have htl := fun (h : k < x.length) => flat_take_le (f := flatPair) (l := x) ([], []) h
 have hlen : (os ++ x.drop k).length = x.length := by rw [List.length_append, List.length_drop]; omega
 refine X.seq (X.seq (X.region ?_))
 refine XL.mv (.int .i64 ((k : Int))) rfl ?_
 refine XL.mv (xv) rfl ?_
 refine cX (XOp.lenS (v := xv) (n := x.length) runUnderlying35 rfl (SlV.own [_] rfl) ?_)
 refine cX (XOp.lss (a := (k : Int)) (b := (x.length : Int)) rfl rfl ?_)
 refine XL.nil ?_
 refine X.condD (p := (k : Int) < (x.length : Int)) rfl (fun h1 => ?_) (fun h1 => ?_)
 ·refine X.skip (X.seq (X.block (X.seq (X.region ?_))))
  have hkx : k < x.length := by omega
  have htl2 := htl hkx
  obtain ⟨A, K, B, es, hLs, hel, hR, hg, hput⟩ := hd.at (d := ([], [])) (k := k) (by omega)
  rw [app_getD hol] at hR
  have hself := splice_self hel hg (hd.bound (k := k) (by omega))
  obtain ⟨a, b, he, hK⟩ := hR
  subst he hK
  have hfp : (flatPair (x.getD k ([], []))).length = (x.getD k ([], [])).1.length + (x.getD k ([], [])).2.length := by unfold flatPair; rw [List.length_append]
  subst hLs
  refine XL.weaken (Sub.pull (A := A)) ?_
  show XL _ _ _ _ _ _ _ (intsH 2 a ((x.getD k ([], [])).1) :: intsH 2 b ((x.getD k ([], [])).2) :: star (A ++ B) :: slH 121 2 xv x.length cs :: L)
  skip
  refine XL.mv (xv) rfl ?_
  refine XL.mv (.int .i64 ((k : Int))) rfl ?_
  refine cX (XOp.indexS (v := xv) (i := (k : Int)) (n := x.length) k runUnderlying35 sizeOf121 rfl rfl rfl (SlV.own [_, _, _] rfl) (by omega) rfl ?_)
  refine cX (XOp.fieldE (v := xv) (k * 2) runUnderlying121 rfl sizeOf22 (by decide) rfl rfl ?_)
  refine cX (XOp.load1 (v := a) isAgg22 rfl (Rd.sl [_, _, _] rfl (hg 0 _ rfl)) ?_)
  refine XL.mv (.int .i64 (z + ((((x.take k).flatMap flatPair).length : Nat) : Int))) rfl ?_
  refine cX (XOp.call (args := [a, .int .i64 (z + ((((x.take k).flatMap flatPair).length : Nat) : Int))]) call17 rfl (markInt64S_spec (by omega)) ?_)
  rintro _ _ _ _ ⟨m1, hm1, rfl, rfl, rfl⟩
  have hml1 := congrArg List.length hm1
  rw [iota_len] at hml1
  try simp only [List.length_append] at hml1
  refine XL.as (.int .i64 ((z + ((((x.take k).flatMap flatPair).length : Nat) : Int)) + (((((x.getD k ([], [])).1))).length : Int))) rfl ?_
  refine XL.nil (X.region ?_)
  refine XL.mv (xv) rfl ?_
  refine XL.mv (.int .i64 ((k : Int))) rfl ?_
  refine cX (XOp.indexS (v := xv) (i := (k : Int)) (n := x.length) k runUnderlying35 sizeOf121 rfl rfl rfl (SlV.own [_, _, _] rfl) (by omega) rfl ?_)
  refine cX (XOp.fieldE (v := xv) (k * 2 + 1) runUnderlying121 rfl sizeOf22 (by decide) rfl rfl ?_)
  refine cX (XOp.load1 (v := b) isAgg22 rfl (Rd.sl [_, _, _] rfl (hg 1 _ rfl)) ?_)
  refine XL.mv (.int .i64 ((z + ((((x.take k).flatMap flatPair).length : Nat) : Int)) + (((((x.getD k ([], [])).1))).length : Int))) rfl ?_
  refine XL.weaken (Sub.front (A := [_])) ?_
  show XL _ _ _ _ _ _ _ (intsH 2 b ((x.getD k ([], [])).2) :: intsH 2 a m1 :: star (A ++ B) :: slH 121 2 xv x.length cs :: L)
  refine cX (XOp.call (args := [b, .int .i64 ((z + ((((x.take k).flatMap flatPair).length : Nat) : Int)) + (((((x.getD k ([], [])).1))).length : Int))]) call17 rfl (markInt64S_spec (by omega)) ?_)
  rintro _ _ _ _ ⟨m2, hm2, rfl, rfl, rfl⟩
  have hml2 := congrArg List.length hm2
  rw [iota_len] at hml2
  try simp only [List.length_append] at hml2
  refine XL.as (.int .i64 (((z + ((((x.take k).flatMap flatPair).length : Nat) : Int)) + (((((x.getD k ([], [])).1))).length : Int)) + (((((x.getD k ([], [])).2))).length : Int))) rfl ?_
  refine XL.nil (X.region ?_)
  refine XL.weaken (Sub.trans (Sub.front (A := [_, _, _])) (Sub.trans (Sub.front (A := [_, _, _])) (Sub.trans (Sub.front (A := [_, _])) (Sub.trans (Sub.front (A := [_, _, _])) (Sub.cons (Sub.cons (Sub.cons (Sub.cons sR)))))))) ?_
  refine XL.weaken (Sub.push (A := A) (K := [intsH 2 a m1, intsH 2 b m2]) (B := B)) ?_
  show XL _ _ _ _ _ _ _ (star (A ++ ([intsH 2 a m1, intsH 2 b m2] ++ B)) :: slH 121 2 xv x.length cs :: L)
  have hdn := hput [a, b] (m1, m2) _ rfl ⟨a, b, rfl, rfl⟩
  rw [hself, app_set hol hkx] at hdn
  have hfx : flatPair (m1, m2) = iota (z + ((((x.take k).flatMap flatPair).length : Nat) : Int)) (flatPair (x.getD k ([], []))).length := by rw [hfp, iota_add]; show m1 ++ m2 = _; rw [hm1, hm2]
  have hnext : (z + ((((x.take k).flatMap flatPair).length : Nat) : Int)) + ((x.getD k ([], [])).1.length : Int) + ((x.getD k ([], [])).2.length : Int) = z + ((((x.take (k + 1)).flatMap flatPair).length : Nat) : Int) := by rw [flatMap_take_succ flatPair ([], []) hkx, List.length_append, hfp]; omega
  skip
  refine XL.mv (.int .i64 ((k : Int))) rfl ?_
  refine cX (XOp.addR (a := (k : Int)) (b := 1) (((k + 1 : Nat) : Int)) rfl rfl (by omega) (by omega) ?_)
  refine XL.as (.int .i64 (((k + 1 : Nat) : Int))) rfl ?_
  refine XL.nil ?_
  exact ⟨(k + 1, os ++ [(m1, m2)], A ++ ([intsH 2 a m1, intsH 2 b m2] ++ B)), _, FLe.refl _, rF, ⟨rfl, (vI hnext), rfl, trivial⟩, (Sub.cons (Sub.cons sR)), ⟨rfl, (hdn), (by (try dsimp only) <;> omega), (by simp [hol]), (marked (d := ([], [])) (by omega) hfl hfx)⟩, (by omega)⟩
 ·refine X.exit (thenQ_exit (thenQ_exit (blockQ_exit ?_)))
  refine X.seq (X.region ?_)
  refine XL.mv (.int .i64 (z + ((((x.take k).flatMap flatPair).length : Nat) : Int))) rfl ?_
  refine XL.as (.int .i64 (z + ((((x.take k).flatMap flatPair).length : Nat) : Int))) rfl ?_
  refine XL.nil ?_
  refine X.ret (retEnd (L' := pairsD 2 121 xv os :: L) [.int .i64 (z + ((((x.take k).flatMap flatPair).length : Nat) : Int))] (.int .i64 (z + ((((x.take k).flatMap flatPair).length : Nat) : Int))) (.tmp rfl .nil) rfl rF rF (Sub.trans (Sub.front (A := [_])) (Sub.closeDeep (by rw [app_all (by omega)] at hd; exact hd) (by omega))) ?_)
  rw [app_all (by omega)] at hd
  have hkl : k = x.length := by omega
  exact ⟨os, by rw [hfl, hkl, List.take_length], by omega, by rw [hkl, List.take_length], rfl, rfl⟩

/- laws.markSystem -/
theorem markSystem_spec {F : FH} {L : List HP} {xv : Value} {x : List Int} {yv : Value} {y : List (List Int × List Int)} {z : Int} (hz : 0 ≤ z ∧ z + (((x) ++ (y.flatMap flatPair)).length : Int) ≤ 9000000000) (hny : y.length ≤ 4000000) :
    Does prog 16 [.agg #[xv, yv], .int .i64 (z)] F (intsH 2 xv x :: pairsD 2 121 yv y :: L) (fun v F' L' => ∃ x' : List Int, ∃ y' : List (List Int × List Int), ((x') ++ (y'.flatMap flatPair)) = iota z ((x) ++ (y.flatMap flatPair)).length ∧ y'.length = y.length ∧ (.int .i64 (z + (((x) ++ (y.flatMap flatPair)).length : Int)) : Value) = v ∧ F = F' ∧ intsH 2 xv x' :: pairsD 2 121 yv y' :: L = L') := by
 refine Does.of_X func16 rfl rfl rfl ?_
 have hlx : ((x) ++ (y.flatMap flatPair)).length = x.length + (y.flatMap flatPair).length := List.length_append
 refine X.seq (X.region ?_)
 refine cX (XOp.box [xv, yv] rfl rfl ?_)
 intro b1
 refine XL.as (.int .i64 (0)) rfl ?_
 refine XL.nil (X.seq (X.region ?_))
 refine cX (XOp.fieldP (b := b1) (0) runUnderlying37 rfl sizeOf34 (by decide) rfl rfl ?_)
 refine cX (XOp.loadN [xv] isAgg34 sizeOf34 rfl rfl (Rd.ownN [] rfl rfl) ?_)
 refine XL.mv (.int .i64 (z)) rfl ?_
 refine XL.weaken (Sub.front (A := [_])) ?_
 show XL _ _ _ _ _ _ _ (intsH 2 xv x :: cellsH b1 [xv, yv] 37 :: pairsD 2 121 yv y :: L)
 refine cX (XOp.call (args := [.agg #[xv], .int .i64 (z)]) call58 rfl (markSig_spec (by omega)) ?_)
 rintro _ _ _ _ ⟨m1, hm1, rfl, rfl, rfl⟩
 have hml1 := congrArg List.length hm1
 rw [iota_len] at hml1
 try simp only [List.length_append] at hml1
 refine XL.as (.int .i64 (z + (((x)).length : Int))) rfl ?_
 refine XL.nil (X.seq (X.region ?_))
 refine cX (XOp.fieldP (b := b1) (1) runUnderlying37 rfl sizeOf35 (by decide) rfl rfl ?_)
 refine cX (XOp.load1 (v := yv) isAgg35 rfl (Rd.own [_] rfl rfl) ?_)
 refine XL.mv (.int .i64 (z + (((x)).length : Int))) rfl ?_
 refine XL.weaken (Sub.front (A := [_, _])) ?_
 show XL _ _ _ _ _ _ _ (pairsD 2 121 yv y :: intsH 2 xv m1 :: cellsH b1 [xv, yv] 37 :: L)
 refine cX (XOp.call (args := [yv, .int .i64 (z + (((x)).length : Int))]) call59 rfl (markRuleS_spec (by omega) (by omega)) ?_)
 rintro _ _ _ _ ⟨m2, hm2, hk1, rfl, rfl, rfl⟩
 have hml2 := congrArg List.length hm2
 rw [iota_len] at hml2
 try simp only [List.length_append] at hml2
 refine XL.as (.int .i64 ((z + (((x)).length : Int)) + (((y.flatMap flatPair)).length : Int))) rfl ?_
 refine XL.nil (X.seq (X.region ?_))
 refine XL.mv (.int .i64 ((z + (((x)).length : Int)) + (((y.flatMap flatPair)).length : Int))) rfl ?_
 refine XL.as (.int .i64 ((z + (((x)).length : Int)) + (((y.flatMap flatPair)).length : Int))) rfl ?_
 refine XL.nil ?_
 refine X.ret (retEnd (L' := intsH 2 xv m1 :: pairsD 2 121 yv m2 :: L) [.int .i64 ((z + (((x)).length : Int)) + (((y.flatMap flatPair)).length : Int))] (.int .i64 ((z + (((x)).length : Int)) + (((y.flatMap flatPair)).length : Int))) (.tmp rfl .nil) rfl rF rF (Sub.trans (Sub.front (A := [_])) (Sub.cons (Sub.cons (Sub.drop sR)))) ?_)
 exact ⟨m1, m2, by rw [List.length_append, iota_add, hm1, hm2], (by assumption), congrArg (Value.int .i64) (by first | rfl | (simp only [List.length_append]; omega)), rfl, rfl⟩
end Go.Proofs.YtiaanelimbmniaaGreat
set_option linter.unusedSimpArgs false
set_option linter.unusedVariables false
namespace Go.Proofs.YtiaanelimbmniaaGreat
open Go X M Tryz
end Go.Proofs.YtiaanelimbmniaaGreat
set_option linter.unusedSimpArgs false
set_option linter.unusedVariables false
namespace Go.Proofs.YtiaanelimbmniaaGreat
open Go X M Tryz

/- (impl.Walk).end -/
theorem walkEnd_spec {F : FH} {L : List HP} {fv : Value} {f : List Int} (hf : IntsF F fv f) {ssv : Value} {ss : List StepT} (hss : StepsF F ssv ss) (hlss : ss.length ≤ 4000000) :
    Does prog 218 [.agg #[fv, ssv]] F (L) (fun v F' L' => F = F' ∧ ∃ (a : Value), (a : Value) = v ∧ (IntsF F' a (endL f ss)) ∧ L = L') := by
 refine Does.of_X func218 rfl rfl rfl ?_
 refine X.seq (X.region ?_)
 refine cX (XOp.box [fv, ssv] rfl rfl ?_)
 intro b1
 refine XL.as ((.slice none 0 0)) rfl ?_
 refine XL.nil (X.seq (X.seq (X.region ?_)))
 refine cX (XOp.fieldP (b := b1) (1) runUnderlying57 rfl sizeOf55 (by decide) rfl rfl ?_)
 refine cX (XOp.load1 (v := ssv) isAgg55 rfl (Rd.own [] rfl rfl) ?_)
 refine cX (XOp.lenS (v := ssv) (n := (ss).length) runUnderlying55 rfl hss.slv ?_)
 refine XL.as (.int .i64 ((ss.length : Int))) rfl ?_
 refine XL.nil (X.seq (X.region ?_))
 refine XL.mv (.int .i64 ((ss.length : Int))) rfl ?_
 refine cX (XOp.gtr (a := (ss.length : Int)) (b := 0) rfl rfl ?_)
 refine XL.nil ?_
 refine X.condD (p := ((ss.length : Int) : Int) > 0) rfl (fun h1 => ?_) (fun h1 => ?_)
 ·refine X.seq (X.region ?_)
  refine cX (XOp.fieldP (b := b1) (1) runUnderlying57 rfl sizeOf55 (by decide) rfl rfl ?_)
  refine cX (XOp.load1 (v := ssv) isAgg55 rfl (Rd.own [] rfl rfl) ?_)
  refine XL.mv (.int .i64 ((ss.length : Int))) rfl ?_
  refine cX (XOp.subR (a := (ss.length : Int)) (b := 1) (((((ss).length) - 1 : Nat) : Int)) rfl rfl (by omega) (by omega) ?_)
  refine cX (XOp.indexS (v := ssv) (i := ((((ss).length) - 1 : Nat) : Int)) (n := (ss).length) (((ss).length) - 1) runUnderlying55 sizeOf116 rfl rfl rfl hss.slv (by omega) rfl ?_)
  refine cX (XOp.fieldE (v := ssv) ((((ss).length) - 1) * 3 + 2) runUnderlying116 rfl sizeOf22 (by decide) rfl rfl ?_)
  obtain ⟨a1, ha1, hr1, hr2, hr3⟩ := hss.rd (i := ((ss).length) - 1) (by omega)
  refine cX (XOp.load1 (v := a1) isAgg22 rfl (hr3 _) ?_)
  refine XL.as (a1) rfl ?_
  refine XL.nil ?_
  refine X.ret (thenQ_ret (retEnd (L' := L) [a1] (a1) (.tmp rfl .nil) rfl rF rF (Sub.drop sR) ?_))
  exact ⟨rfl, _, rfl, by rw [endL, if_neg (by omega)]; exact ha1, rfl⟩
 ·refine X.skip (X.seq (X.region ?_))
  refine cX (XOp.fieldP (b := b1) (0) runUnderlying57 rfl sizeOf22 (by decide) rfl rfl ?_)
  refine cX (XOp.load1 (v := fv) isAgg22 rfl (Rd.own [] rfl rfl) ?_)
  refine XL.as (fv) rfl ?_
  refine XL.nil ?_
  refine X.ret (retEnd (L' := L) [fv] (fv) (.tmp rfl .nil) rfl rF rF (Sub.drop sR) ?_)
  exact ⟨rfl, _, rfl, by rw [endL, if_pos (by omega)]; exact hf, rfl⟩

/- spec.StepAt -/
theorem sStepAt_spec {F : FH} {L : List HP} {arv : Value} {ar : List Int} (har : IntsF F arv ar) {rsv : Value} {rs : List (List Int × List Int)} (hrs : PairsF F rsv rs) {tv : Value} {t : List Int} (ht : IntsF F tv t) {p : Int} {r : Int} (hla : ar.length ≤ 4000000) (hlr : rs.length ≤ 4000000) (hrb : ∀ i, i < rs.length → (rs.getD i ([], [])).1.length ≤ 4000000 ∧ (rs.getD i ([], [])).2.length ≤ 4000000) (hlt : t.length ≤ 4000000) :
    Does prog 163 [.agg #[arv, rsv], tv, .int .i64 (p), .int .i64 (r)] F (L) (fun v F' L' => ∃ (a : Value), (.tuple #[a, .bool ((stepAtL ar rs t p r).isSome)] : Value) = v ∧ (IntsF F' a ((stepAtL ar rs t p r).getD [])) ∧ L = L') := by
 refine Does.of_X func163 rfl rfl rfl ?_
 refine X.seq (X.region ?_)
 refine cX (XOp.box [arv, rsv] rfl rfl ?_)
 intro b1
 refine XL.as ((.slice none 0 0)) rfl ?_
 refine XL.as (.bool (false)) rfl ?_
 refine XL.nil (X.seq (X.seq (X.region ?_)))
 refine cX (XOp.loadN [arv, rsv] isAgg37 sizeOf37 rfl rfl (Rd.ownN [] rfl rfl) ?_)
 refine XL.mv (tv) rfl ?_
 refine cX (XOp.call (args := [.agg #[arv, rsv], tv]) call143 rfl (l7Right_spec har hrs ht (hla := (by first | assumption | rfl | omega | simp)) (hlr := (by first | assumption | rfl | omega | simp)) (hrb := (by first | assumption | rfl | omega | simp)) (hlt := (by first | assumption | rfl | omega | simp))) ?_)
 rintro _ _ _ _ ⟨rfl, rfl, rfl⟩
 refine cX (XOp.notB (b := rightB ar rs t) rfl ?_)
 refine XL.mv (.bool (!(rightB ar rs t))) rfl ?_
 by_cases h1 : (!(rightB ar rs t)) = true
 ·refine XL.no (t := 14) rfl (vB h1) ?_
  refine XL.no (t := 14) rfl (vB h1) ?_
  refine XL.no (t := 14) rfl (vB h1) ?_
  refine XL.no (t := 14) rfl (vB h1) ?_
  refine cX (XOp.pickT (.bool (true)) (vB h1) rfl ?_)
  refine XL.mv (.bool (true)) rfl ?_
  refine XL.no (t := 20) rfl rfl ?_
  refine XL.no (t := 20) rfl rfl ?_
  refine XL.no (t := 20) rfl rfl ?_
  refine XL.no (t := 20) rfl rfl ?_
  refine XL.no (t := 20) rfl rfl ?_
  refine XL.no (t := 20) rfl rfl ?_
  refine XL.no (t := 20) rfl rfl ?_
  refine cX (XOp.pickT (.bool (true)) rfl rfl ?_)
  refine XL.nil ?_
  refine X.condT rfl ?_
  refine X.seq (X.region ?_)
  refine cX (XOp.buildSlice (s := 1) [] [.int .i64 (0)] [] runUnderlying22 sizeOf2 zeroValue2 rfl (by decide) rfl CellsAre.nil rfl ?_)
  intro v1 hv1
  refine XL.as (v1) rfl ?_
  refine XL.as (.bool (false)) rfl ?_
  refine XL.nil ?_
  show X _ _ _ _ _ _ (intsH 2 v1 ([] : List Int) :: cellsH b1 [arv, rsv] 37 :: L)
  refine X.freezeF [] _ _ rfl (fun F1 le1 hz1 => ?_)
  replace har := har.mono le1
  replace hrs := hrs.mono le1
  replace ht := ht.mono le1
  have hf1 : IntsF F1 v1 ([]) := intsH.fz (xs := []) hz1.fz
  refine X.ret (thenQ_ret (retEnd (L' := L) [v1, .bool (false)] (.tuple #[v1, .bool (false)]) (.tmp rfl (.tmp rfl .nil)) rfl le1 rF (Sub.drop sR) ?_))
  have hz0 : stepAtL ar rs t p r = none := by rw [stepAtL, if_neg (by unfold stepAtOk; cases hA : rightB ar rs t <;> simp_all <;> omega)]
  exact ⟨_, by rw [hz0]; rfl, by rw [hz0]; exact hf1, rfl⟩
 ·rw [Bool.not_eq_true] at h1
  refine XL.yes (t := 14) rfl (vB h1) (XOp.move (tv) rfl ?_)
  refine XL.yes (t := 14) rfl (vB h1) (XOp.move (.int .i64 (p)) rfl ?_)
  refine XL.yes (t := 14) rfl (vB h1) (XOp.call (args := [tv, .int .i64 (p)]) call200 rfl (l1There_spec (n := p) ht (hbd := (by first | assumption | rfl | omega | simp))) ?_)
  rintro _ _ _ _ ⟨rfl, rfl, rfl⟩
  refine XL.yes (t := 14) rfl (vB h1) (XOp.notD (p := 0 ≤ p ∧ p < (t.length : Int)) rfl ?_)
  refine cX (XOp.pickF (.bool (decide (¬(0 ≤ p ∧ p < (t.length : Int))))) (vB h1) rfl ?_)
  refine XL.mv (.bool (decide (¬(0 ≤ p ∧ p < (t.length : Int))))) rfl ?_
  by_cases h2 : ¬(0 ≤ p ∧ p < (t.length : Int))
  ·refine XL.no (t := 20) rfl (vT h2) ?_
   refine XL.no (t := 20) rfl (vT h2) ?_
   refine XL.no (t := 20) rfl (vT h2) ?_
   refine XL.no (t := 20) rfl (vT h2) ?_
   refine XL.no (t := 20) rfl (vT h2) ?_
   refine XL.no (t := 20) rfl (vT h2) ?_
   refine XL.no (t := 20) rfl (vT h2) ?_
   refine cX (XOp.pickT (.bool (true)) (vT h2) rfl ?_)
   refine XL.nil ?_
   refine X.condT rfl ?_
   refine X.seq (X.region ?_)
   refine cX (XOp.buildSlice (s := 1) [] [.int .i64 (0)] [] runUnderlying22 sizeOf2 zeroValue2 rfl (by decide) rfl CellsAre.nil rfl ?_)
   intro v2 hv2
   refine XL.as (v2) rfl ?_
   refine XL.as (.bool (false)) rfl ?_
   refine XL.nil ?_
   show X _ _ _ _ _ _ (intsH 2 v2 ([] : List Int) :: cellsH b1 [arv, rsv] 37 :: L)
   refine X.freezeF [] _ _ rfl (fun F2 le2 hz2 => ?_)
   replace har := har.mono le2
   replace hrs := hrs.mono le2
   replace ht := ht.mono le2
   have hf2 : IntsF F2 v2 ([]) := intsH.fz (xs := []) hz2.fz
   refine X.ret (thenQ_ret (retEnd (L' := L) [v2, .bool (false)] (.tuple #[v2, .bool (false)]) (.tmp rfl (.tmp rfl .nil)) rfl le2 rF (Sub.drop sR) ?_))
   have hz0 : stepAtL ar rs t p r = none := by rw [stepAtL, if_neg (by unfold stepAtOk; cases hA : rightB ar rs t <;> simp_all <;> omega)]
   exact ⟨_, by rw [hz0]; rfl, by rw [hz0]; exact hf2, rfl⟩
  ·refine XL.yes (t := 20) rfl (vF h2) (XOp.move (.int .i64 (r)) rfl ?_)
   refine XL.yes (t := 20) rfl (vF h2) (XOp.fieldP (b := b1) (1) runUnderlying37 rfl sizeOf35 (by decide) rfl rfl ?_)
   refine XL.yes (t := 20) rfl (vF h2) (XOp.load1 (v := rsv) isAgg35 rfl (Rd.own [] rfl rfl) ?_)
   refine XL.yes (t := 20) rfl (vF h2) (XOp.lenS (v := rsv) (n := (rs).length) runUnderlying35 rfl hrs.slv ?_)
   refine XL.yes (t := 20) rfl (vF h2) (XOp.subR (a := (rs.length : Int)) (b := 1) (((rs.length : Int)) - 1) rfl rfl (by omega) (by omega) ?_)
   refine XL.yes (t := 20) rfl (vF h2) (XOp.call (args := [.int .i64 (r), .int .i64 (0), .int .i64 (((rs.length : Int)) - 1)]) call98 rfl (l1In_spec (n := r) (a := 0) (b := ((rs.length : Int)) - 1)) ?_)
   rintro _ _ _ _ ⟨rfl, rfl, rfl⟩
   refine XL.yes (t := 20) rfl (vF h2) (XOp.notD (p := 0 ≤ r ∧ r ≤ (((rs.length : Int)) - 1)) rfl ?_)
   refine cX (XOp.pickF (.bool (decide (¬(0 ≤ r ∧ r ≤ (((rs.length : Int)) - 1))))) (vF h2) rfl ?_)
   refine XL.nil ?_
   refine X.condD (p := ¬(0 ≤ r ∧ r ≤ (((rs.length : Int)) - 1))) rfl (fun h3 => ?_) (fun h3 => ?_)
   ·refine X.seq (X.region ?_)
    refine cX (XOp.buildSlice (s := 1) [] [.int .i64 (0)] [] runUnderlying22 sizeOf2 zeroValue2 rfl (by decide) rfl CellsAre.nil rfl ?_)
    intro v3 hv3
    refine XL.as (v3) rfl ?_
    refine XL.as (.bool (false)) rfl ?_
    refine XL.nil ?_
    show X _ _ _ _ _ _ (intsH 2 v3 ([] : List Int) :: cellsH b1 [arv, rsv] 37 :: L)
    refine X.freezeF [] _ _ rfl (fun F3 le3 hz3 => ?_)
    replace har := har.mono le3
    replace hrs := hrs.mono le3
    replace ht := ht.mono le3
    have hf3 : IntsF F3 v3 ([]) := intsH.fz (xs := []) hz3.fz
    refine X.ret (thenQ_ret (retEnd (L' := L) [v3, .bool (false)] (.tuple #[v3, .bool (false)]) (.tmp rfl (.tmp rfl .nil)) rfl le3 rF (Sub.drop sR) ?_))
    have hz0 : stepAtL ar rs t p r = none := by rw [stepAtL, if_neg (by unfold stepAtOk; cases hA : rightB ar rs t <;> simp_all <;> omega)]
    exact ⟨_, by rw [hz0]; rfl, by rw [hz0]; exact hf3, rfl⟩
   ·refine X.skip (X.seq (X.region ?_))
    have hok : stepAtOk ar rs t p r = true := by unfold stepAtOk; cases hA : rightB ar rs t <;> simp_all <;> omega
    have hok2 := hok
    unfold stepAtOk rightB at hok2
    simp only [Bool.and_eq_true, decide_eq_true_eq] at hok2
    obtain ⟨⟨⟨hsys, ho⟩, hp1⟩, hr1⟩ := hok2
    refine cX (XOp.loadN [arv, rsv] isAgg37 sizeOf37 rfl rfl (Rd.ownN [] rfl rfl) ?_)
    refine XL.mv (tv) rfl ?_
    refine XL.mv (.int .i64 (p)) rfl ?_
    refine XL.mv (.int .i64 (r)) rfl ?_
    refine cX (XOp.call (args := [.agg #[arv, rsv], tv, .int .i64 (((p).toNat : Nat) : Int), .int .i64 (((r).toNat : Nat) : Int)]) call101 (by rw [show (((p).toNat : Nat) : Int) = p from by omega, show (((r).toNat : Nat) : Int) = r from by omega]; rfl) (l7Step_spec (p := (p).toNat) (r := (r).toNat) har hrs ht (hsys := (by first | assumption | rfl | omega | simp)) (ho := (by first | assumption | rfl | omega | simp)) (hp := (by first | assumption | rfl | omega | simp)) (hr := (by first | assumption | rfl | omega | simp))) ?_)
    rintro _ F4 _ le4 ⟨x1, rfl, hr1, rfl⟩
    refine cX (XOp.extract (x1) rfl rfl ?_)
    refine cX (XOp.extract (.bool ((stepL ar rs t ((p).toNat) ((r).toNat)).isSome)) rfl rfl ?_)
    refine XL.as (x1) rfl ?_
    refine XL.as (.bool ((stepL ar rs t ((p).toNat) ((r).toNat)).isSome)) rfl ?_
    refine XL.nil ?_
    refine X.ret (retEnd (L' := L) [x1, .bool ((stepL ar rs t ((p).toNat) ((r).toNat)).isSome)] (.tuple #[x1, .bool ((stepL ar rs t ((p).toNat) ((r).toNat)).isSome)]) (.tmp rfl (.tmp rfl .nil)) rfl le4 rF (Sub.drop sR) ?_)
    have e := show stepAtL ar rs t p r = stepL ar rs t p.toNat r.toNat from by rw [stepAtL, if_pos hok]
    exact ⟨_, by rw [e], by rw [e]; exact hr1, rfl⟩

/- spec.WalkOk -/
theorem sWalkOk_spec {F : FH} {L : List HP} {arv : Value} {ar : List Int} (har : IntsF F arv ar) {rsv : Value} {rs : List (List Int × List Int)} (hrs : PairsF F rsv rs) {fv : Value} {f : List Int} (hf : IntsF F fv f) {ssv : Value} {ss : List StepT} (hss : StepsF F ssv ss) (hla : ar.length ≤ 4000000) (hlr : rs.length ≤ 4000000) (hrb : ∀ i, i < rs.length → (rs.getD i ([], [])).1.length ≤ 4000000 ∧ (rs.getD i ([], [])).2.length ≤ 4000000) (hlf : f.length ≤ 4000000) (hlss : ss.length ≤ 4000000) (hsb : ∀ i, i < ss.length → (ss.getD i (0, 0, [])).2.2.length ≤ 4000000) :
    Does prog 103 [.agg #[arv, rsv], .agg #[fv, ssv]] F (L) (fun v F' L' => (.bool (walkOkL ar rs f ss) : Value) = v ∧ F = F' ∧ L = L') := by
 refine Does.of_X func103 rfl rfl rfl ?_
 refine X.seq (X.region ?_)
 refine cX (XOp.box [arv, rsv] rfl rfl ?_)
 intro b1
 refine cX (XOp.box [fv, ssv] rfl rfl ?_)
 intro b2
 refine XL.as (.bool (false)) rfl ?_
 refine XL.nil (X.seq (X.seq (X.region ?_)))
 refine cX (XOp.loadN [arv, rsv] isAgg37 sizeOf37 rfl rfl (Rd.ownN [_] rfl rfl) ?_)
 refine cX (XOp.fieldP (b := b2) (0) runUnderlying57 rfl sizeOf22 (by decide) rfl rfl ?_)
 refine cX (XOp.load1 (v := fv) isAgg22 rfl (Rd.own [] rfl rfl) ?_)
 refine cX (XOp.call (args := [.agg #[arv, rsv], fv]) call143 rfl (l7Right_spec har hrs hf (hla := (by first | assumption | rfl | omega | simp)) (hlr := (by first | assumption | rfl | omega | simp)) (hrb := (by first | assumption | rfl | omega | simp)) (hlt := (by first | assumption | rfl | omega | simp))) ?_)
 rintro _ _ _ _ ⟨rfl, rfl, rfl⟩
 refine cX (XOp.notB (b := rightB ar rs f) rfl ?_)
 refine XL.mv (.bool (!(rightB ar rs f))) rfl ?_
 by_cases h1 : (!(rightB ar rs f)) = true
 ·refine XL.no (t := 14) rfl (vB h1) ?_
  refine XL.no (t := 14) rfl (vB h1) ?_
  refine XL.no (t := 14) rfl (vB h1) ?_
  refine XL.no (t := 14) rfl (vB h1) ?_
  refine cX (XOp.pickT (.bool (true)) (vB h1) rfl ?_)
  refine XL.nil ?_
  refine X.condT rfl ?_
  refine X.seq (X.region ?_)
  refine XL.as (.bool (false)) rfl ?_
  refine XL.nil ?_
  refine X.ret (thenQ_ret (retEnd (L' := L) [.bool (false)] (.bool (false)) (.tmp rfl .nil) rfl rF rF (Sub.drop (Sub.drop sR)) ?_))
  exact ⟨(vB (by unfold walkOkL; simp_all <;> omega)), rfl, rfl⟩
 ·rw [Bool.not_eq_true] at h1
  refine XL.yes (t := 14) rfl (vB h1) (XOp.fieldP (b := b2) (1) runUnderlying57 rfl sizeOf55 (by decide) rfl rfl ?_)
  refine XL.yes (t := 14) rfl (vB h1) (XOp.load1 (v := ssv) isAgg55 rfl (Rd.own [] rfl rfl) ?_)
  refine XL.yes (t := 14) rfl (vB h1) (XOp.lenS (v := ssv) (n := (ss).length) runUnderlying55 rfl hss.slv ?_)
  refine XL.yes (t := 14) rfl (vB h1) (XOp.gtr (a := (ss.length : Int)) (b := 60) rfl rfl ?_)
  refine cX (XOp.pickF (.bool (decide (((ss.length : Int) : Int) > 60))) (vB h1) rfl ?_)
  refine XL.nil ?_
  refine X.condD (p := ((ss.length : Int) : Int) > 60) rfl (fun h2 => ?_) (fun h2 => ?_)
  ·refine X.seq (X.region ?_)
   refine XL.as (.bool (false)) rfl ?_
   refine XL.nil ?_
   refine X.ret (thenQ_ret (retEnd (L' := L) [.bool (false)] (.bool (false)) (.tmp rfl .nil) rfl rF rF (Sub.drop (Sub.drop sR)) ?_))
   exact ⟨(vB (by unfold walkOkL; simp_all <;> omega)), rfl, rfl⟩
  ·refine X.skip (X.seq (X.region ?_))
   refine cX (XOp.fieldP (b := b2) (0) runUnderlying57 rfl sizeOf22 (by decide) rfl rfl ?_)
   refine cX (XOp.load1 (v := fv) isAgg22 rfl (Rd.own [] rfl rfl) ?_)
   refine XL.as (fv) rfl ?_
   refine XL.nil (X.seq (X.seq (X.region ?_)))
   refine XL.as (.int .i64 (0)) rfl ?_
   refine XL.nil (X.block ?_)
   refine X.loop (α := Nat × Value × List Int × FH) (fun xQ => [(2, ptr b1 0), (3, ptr b2 0), (5, xQ.2.1), (6, .int .i64 (((xQ.1 : Nat) : Int)))]) (fun xQ => cellsH b2 [fv, ssv] 57 :: cellsH b1 [arv, rsv] 37 :: L) (fun xQ F' => xQ.2.2.2 = F' ∧ F ≤ xQ.2.2.2 ∧ (IntsF xQ.2.2.2 xQ.2.1 xQ.2.2.1) ∧ (xQ.1 ≤ ss.length) ∧ (goOk ar rs f ss = goOk ar rs xQ.2.2.1 (ss.drop xQ.1)) ∧ (xQ.2.2.1.length ≤ 4000000)) (fun xQ => ss.length - xQ.1) (0, fv, f, F) ⟨rfl, rfl, rfl, rfl, trivial⟩ (Sub.cons (Sub.cons sR)) ⟨rfl, FLe.refl _, (hf), (by (try dsimp only) <;> omega), (rfl), (hlf)⟩ ?_
   rintro ⟨k, cv, cur, G1⟩ rE _ _ ⟨rfl, leG, hcv, hk, hgo, hcl⟩
   show X _ _ _ _ (envs [(2, ptr b1 0), (3, ptr b2 0), (5, cv), (6, .int .i64 ((k : Int)))] rE) _ (cellsH b2 [fv, ssv] 57 :: cellsH b1 [arv, rsv] 37 :: L)
   replace leG : F ≤ G1 := leG
   dsimp only at hcv hk hgo hcl
   have hsk := hsb k
   have leG1 := leG
   replace har := har.mono leG1
   replace hrs := hrs.mono leG1
   replace hss := hss.mono leG1
   refine X.seq (X.seq (X.region ?_))
   refine XL.mv (.int .i64 ((k : Int))) rfl ?_
   refine cX (XOp.fieldP (b := b2) (1) runUnderlying57 rfl sizeOf55 (by decide) rfl rfl ?_)
   refine cX (XOp.load1 (v := ssv) isAgg55 rfl (Rd.own [] rfl rfl) ?_)
   refine cX (XOp.lenS (v := ssv) (n := (ss).length) runUnderlying55 rfl hss.slv ?_)
   refine cX (XOp.lss (a := (k : Int)) (b := (ss.length : Int)) rfl rfl ?_)
   refine XL.nil ?_
   refine X.condD (p := (k : Int) < (ss.length : Int)) rfl (fun h3 => ?_) (fun h3 => ?_)
   ·refine X.skip (X.seq (X.block (X.seq ?_)))
    obtain ⟨a1, ha1, hr1, hr2, hr3⟩ := hss.rd (i := k) (by omega)
    refine X.drawG [cellsH b2 [fv, ssv] 57, cellsH b1 [arv, rsv] 37] L 19 [[], [], [], [], [], [], [], [], [], [], [], [], [], [], [], [14], [14], [], [14]] [[], [], [], [2], [], [3, 4], [5], [6], [], [8], [], [9, 10], [11], [12], [0, 1, 7, 13], [14], [14, 15], [14, 15], [14, 16]] [[], [], [], [], [], [], [], [], [], [], [], [], [], [], [], [], [], [], []] (phiG [fun FF us v => v = (.agg #[arv, rsv] : Value), fun FF us v => v = cv, fun FF us v => v = ptr b2 1, fun FF us v => v = ssv, fun FF us v => v = (.int .i64 ((k : Int)) : Value), fun FF us v => v = (.pointer (some (elemA ssv (k * 3))) : Value), fun FF us v => v = (.pointer (some (elemA ssv (k * 3))) : Value), fun FF us v => v = (.int .i64 ((ss.getD k (0, 0, [])).1) : Value), fun FF us v => v = ptr b2 1, fun FF us v => v = ssv, fun FF us v => v = (.int .i64 ((k : Int)) : Value), fun FF us v => v = (.pointer (some (elemA ssv (k * 3))) : Value), fun FF us v => v = (.pointer (some (elemA ssv (k * 3 + 1))) : Value), fun FF us v => v = (.int .i64 ((ss.getD k (0, 0, [])).2.1) : Value), fun FF us v => (.tuple #[((tupAt v 0)), .bool ((stepAtL ar rs cur ((ss.getD k (0, 0, [])).1) ((ss.getD k (0, 0, [])).2.1)).isSome)] : Value) = v ∧ (IntsF FF ((tupAt v 0)) ((stepAtL ar rs cur ((ss.getD k (0, 0, [])).1) ((ss.getD k (0, 0, [])).2.1)).getD [])), fun FF us v => v = (.tuple #[((tupAt (us.getD 0 undef) 0)), .bool ((stepAtL ar rs cur ((ss.getD k (0, 0, [])).1) ((ss.getD k (0, 0, [])).2.1)).isSome)] : Value), fun FF us v => v = ((tupAt (us.getD 0 undef) 0)), fun FF us v => v = (.bool ((stepAtL ar rs cur ((ss.getD k (0, 0, [])).1) ((ss.getD k (0, 0, [])).2.1)).isSome) : Value), fun FF us v => v = ((tupAt (us.getD 0 undef) 0))]) (ownL [fun us v => [], fun us v => [], fun us v => [], fun us v => [], fun us v => [], fun us v => [], fun us v => [], fun us v => [], fun us v => [], fun us v => [], fun us v => [], fun us v => [], fun us v => [], fun us v => [], fun us v => [], fun us v => [], fun us v => [], fun us v => [], fun us v => []]) mixed rfl rfl (by kernel_rfl) (by kernel_rfl) (MonoG.get (MonoG.cons (fun le h => h) (MonoG.cons (fun le h => h) (MonoG.cons (fun le h => h) (MonoG.cons (fun le h => h) (MonoG.cons (fun le h => h) (MonoG.cons (fun le h => h) (MonoG.cons (fun le h => h) (MonoG.cons (fun le h => h) (MonoG.cons (fun le h => h) (MonoG.cons (fun le h => h) (MonoG.cons (fun le h => h) (MonoG.cons (fun le h => h) (MonoG.cons (fun le h => h) (MonoG.cons (fun le h => h) (MonoG.cons (fun le h => ⟨h.1, h.2.mono le⟩) (MonoG.cons (fun le h => h) (MonoG.cons (fun le h => h) (MonoG.cons (fun le h => h) (MonoG.cons (fun le h => h) MonoG.nil)))))))))))))))))))) ?_ ?_
    ·refine stepsG.cons (fun vals Fs R leFs hpZ => ?_) ?_
     ·replace har := har.mono leFs
      replace hrs := hrs.mono leFs
      replace hss := hss.mono leFs
      replace hcv := hcv.mono leFs
      replace ha1 := ha1.mono leFs
      replace hr1 := Rd.monoA hr1 leFs
      replace hr2 := Rd.monoA hr2 leFs
      replace hr3 := Rd.monoA hr3 leFs
      refine XG.op (XOp.loadN [arv, rsv] isAgg37 sizeOf37 rfl rfl (Rd.ownN [_] rfl rfl) ?_)
      exact ⟨rfl, rfl⟩
     refine stepsG.cons (fun vals Fs R leFs hpZ => ?_) ?_
     ·refine XG.op (XOp.move (cv) rfl ?_)
      exact ⟨rfl, rfl⟩
     refine stepsG.cons (fun vals Fs R leFs hpZ => ?_) ?_
     ·refine XG.op (XOp.fieldP (b := b2) (1) runUnderlying57 rfl sizeOf55 (by decide) rfl rfl ?_)
      exact ⟨rfl, rfl⟩
     refine stepsG.cons (fun vals Fs R leFs hpZ => ?_) ?_
     ·replace har := har.mono leFs
      replace hrs := hrs.mono leFs
      replace hss := hss.mono leFs
      replace hcv := hcv.mono leFs
      replace ha1 := ha1.mono leFs
      replace hr1 := Rd.monoA hr1 leFs
      replace hr2 := Rd.monoA hr2 leFs
      replace hr3 := Rd.monoA hr3 leFs
      rw [eS (l := [(2, ptr b2 1)]) ⟨(hpZ 2 (by decide)), trivial⟩]
      refine XG.op (XOp.load1 (v := ssv) isAgg55 rfl (Rd.own [] rfl rfl) ?_)
      exact ⟨rfl, rfl⟩
     refine stepsG.cons (fun vals Fs R leFs hpZ => ?_) ?_
     ·refine XG.op (XOp.move (.int .i64 ((k : Int))) rfl ?_)
      exact ⟨rfl, rfl⟩
     refine stepsG.cons (fun vals Fs R leFs hpZ => ?_) ?_
     ·replace har := har.mono leFs
      replace hrs := hrs.mono leFs
      replace hss := hss.mono leFs
      replace hcv := hcv.mono leFs
      replace ha1 := ha1.mono leFs
      replace hr1 := Rd.monoA hr1 leFs
      replace hr2 := Rd.monoA hr2 leFs
      replace hr3 := Rd.monoA hr3 leFs
      rw [eS (l := [(3, ssv), (4, (.int .i64 ((k : Int)) : Value))]) ⟨(hpZ 3 (by decide)), (hpZ 4 (by decide)), trivial⟩]
      refine XG.op (XOp.indexS (v := ssv) (i := (k : Int)) (n := (ss).length) k runUnderlying55 sizeOf116 rfl rfl rfl hss.slv (by omega) rfl ?_)
      exact ⟨rfl, rfl⟩
     refine stepsG.cons (fun vals Fs R leFs hpZ => ?_) ?_
     ·rw [eS (l := [(5, (.pointer (some (elemA ssv (k * 3))) : Value))]) ⟨(hpZ 5 (by decide)), trivial⟩]
      refine XG.op (XOp.fieldE (v := ssv) (k * 3) runUnderlying116 rfl sizeOf2 (by decide) rfl rfl ?_)
      exact ⟨rfl, rfl⟩
     refine stepsG.cons (fun vals Fs R leFs hpZ => ?_) ?_
     ·replace har := har.mono leFs
      replace hrs := hrs.mono leFs
      replace hss := hss.mono leFs
      replace hcv := hcv.mono leFs
      replace ha1 := ha1.mono leFs
      replace hr1 := Rd.monoA hr1 leFs
      replace hr2 := Rd.monoA hr2 leFs
      replace hr3 := Rd.monoA hr3 leFs
      rw [eS (l := [(6, (.pointer (some (elemA ssv (k * 3))) : Value))]) ⟨(hpZ 6 (by decide)), trivial⟩]
      refine XG.op (XOp.load1 (v := .int .i64 ((ss.getD k (0, 0, [])).1)) isAgg2 rfl (hr1 _) ?_)
      exact ⟨rfl, rfl⟩
     refine stepsG.cons (fun vals Fs R leFs hpZ => ?_) ?_
     ·refine XG.op (XOp.fieldP (b := b2) (1) runUnderlying57 rfl sizeOf55 (by decide) rfl rfl ?_)
      exact ⟨rfl, rfl⟩
     refine stepsG.cons (fun vals Fs R leFs hpZ => ?_) ?_
     ·replace har := har.mono leFs
      replace hrs := hrs.mono leFs
      replace hss := hss.mono leFs
      replace hcv := hcv.mono leFs
      replace ha1 := ha1.mono leFs
      replace hr2 := Rd.monoA hr2 leFs
      replace hr3 := Rd.monoA hr3 leFs
      rw [eS (l := [(8, ptr b2 1)]) ⟨(hpZ 8 (by decide)), trivial⟩]
      refine XG.op (XOp.load1 (v := ssv) isAgg55 rfl (Rd.own [] rfl rfl) ?_)
      exact ⟨rfl, rfl⟩
     refine stepsG.cons (fun vals Fs R leFs hpZ => ?_) ?_
     ·refine XG.op (XOp.move (.int .i64 ((k : Int))) rfl ?_)
      exact ⟨rfl, rfl⟩
     refine stepsG.cons (fun vals Fs R leFs hpZ => ?_) ?_
     ·replace har := har.mono leFs
      replace hrs := hrs.mono leFs
      replace hss := hss.mono leFs
      replace hcv := hcv.mono leFs
      replace ha1 := ha1.mono leFs
      replace hr2 := Rd.monoA hr2 leFs
      replace hr3 := Rd.monoA hr3 leFs
      rw [eS (l := [(9, ssv), (10, (.int .i64 ((k : Int)) : Value))]) ⟨(hpZ 9 (by decide)), (hpZ 10 (by decide)), trivial⟩]
      refine XG.op (XOp.indexS (v := ssv) (i := (k : Int)) (n := (ss).length) k runUnderlying55 sizeOf116 rfl rfl rfl hss.slv (by omega) rfl ?_)
      exact ⟨rfl, rfl⟩
     refine stepsG.cons (fun vals Fs R leFs hpZ => ?_) ?_
     ·rw [eS (l := [(11, (.pointer (some (elemA ssv (k * 3))) : Value))]) ⟨(hpZ 11 (by decide)), trivial⟩]
      refine XG.op (XOp.fieldE (v := ssv) (k * 3 + 1) runUnderlying116 rfl sizeOf2 (by decide) rfl rfl ?_)
      exact ⟨rfl, rfl⟩
     refine stepsG.cons (fun vals Fs R leFs hpZ => ?_) ?_
     ·replace har := har.mono leFs
      replace hrs := hrs.mono leFs
      replace hss := hss.mono leFs
      replace hcv := hcv.mono leFs
      replace ha1 := ha1.mono leFs
      replace hr2 := Rd.monoA hr2 leFs
      replace hr3 := Rd.monoA hr3 leFs
      rw [eS (l := [(12, (.pointer (some (elemA ssv (k * 3 + 1))) : Value))]) ⟨(hpZ 12 (by decide)), trivial⟩]
      refine XG.op (XOp.load1 (v := .int .i64 ((ss.getD k (0, 0, [])).2.1)) isAgg2 rfl (hr2 _) ?_)
      exact ⟨rfl, rfl⟩
     refine stepsG.cons (fun vals Fs R leFs hpZ => ?_) ?_
     ·replace har := har.mono leFs
      replace hrs := hrs.mono leFs
      replace hss := hss.mono leFs
      replace hcv := hcv.mono leFs
      replace ha1 := ha1.mono leFs
      replace hr3 := Rd.monoA hr3 leFs
      rw [eS (l := [(0, (.agg #[arv, rsv] : Value)), (1, cv), (7, (.int .i64 ((ss.getD k (0, 0, [])).1) : Value)), (13, (.int .i64 ((ss.getD k (0, 0, [])).2.1) : Value))]) ⟨(hpZ 0 (by decide)), (hpZ 1 (by decide)), (hpZ 7 (by decide)), (hpZ 13 (by decide)), trivial⟩]
      refine XG.op (XOp.call (args := [.agg #[arv, rsv], cv, .int .i64 ((ss.getD k (0, 0, [])).1), .int .i64 ((ss.getD k (0, 0, [])).2.1)]) call163 rfl (sStepAt_spec (p := (ss.getD k (0, 0, [])).1) (r := (ss.getD k (0, 0, [])).2.1) har hrs hcv (hla := (by first | assumption | rfl | omega | simp)) (hlr := (by first | assumption | rfl | omega | simp)) (hrb := (by first | assumption | rfl | omega | simp)) (hlt := (by first | assumption | rfl | omega | simp))) ?_)
      rintro _ F2 _ le2 ⟨x2, rfl, hr5, rfl⟩
      replace hss := hss.mono le2
      replace ha1 := ha1.mono le2
      replace hr3 := Rd.monoA hr3 le2
      exact ⟨⟨rfl, hr5⟩, rfl⟩
     refine stepsG.cons (fun vals Fs R leFs hpZ => ?_) ?_
     ·obtain ⟨e14, f14_1hr⟩ := hpZ 14 (by decide)
      rw [eS (l := [(14, (.tuple #[((tupAt (vals 14) 0)), .bool ((stepAtL ar rs cur ((ss.getD k (0, 0, [])).1) ((ss.getD k (0, 0, [])).2.1)).isSome)] : Value))]) ⟨(e14).symm, trivial⟩]
      refine XG.op (XOp.move (.tuple #[((tupAt (vals 14) 0)), .bool ((stepAtL ar rs cur ((ss.getD k (0, 0, [])).1) ((ss.getD k (0, 0, [])).2.1)).isSome)]) rfl ?_)
      exact ⟨rfl, rfl⟩
     refine stepsG.cons (fun vals Fs R leFs hpZ => ?_) ?_
     ·obtain ⟨e14, f14_1hr⟩ := hpZ 14 (by decide)
      have e15 : vals 15 = (.tuple #[((tupAt (vals 14) 0)), .bool ((stepAtL ar rs cur ((ss.getD k (0, 0, [])).1) ((ss.getD k (0, 0, [])).2.1)).isSome)] : Value) := hpZ 15 (by decide)
      rw [eS (l := [(14, (.tuple #[((tupAt (vals 14) 0)), .bool ((stepAtL ar rs cur ((ss.getD k (0, 0, [])).1) ((ss.getD k (0, 0, [])).2.1)).isSome)] : Value)), (15, (.tuple #[((tupAt (vals 14) 0)), .bool ((stepAtL ar rs cur ((ss.getD k (0, 0, [])).1) ((ss.getD k (0, 0, [])).2.1)).isSome)] : Value))]) ⟨(e14).symm, e15, trivial⟩]
      refine XG.op (XOp.extract (((tupAt (vals 14) 0))) rfl rfl ?_)
      exact ⟨rfl, rfl⟩
     refine stepsG.cons (fun vals Fs R leFs hpZ => ?_) ?_
     ·obtain ⟨e14, f14_1hr⟩ := hpZ 14 (by decide)
      have e15 : vals 15 = (.tuple #[((tupAt (vals 14) 0)), .bool ((stepAtL ar rs cur ((ss.getD k (0, 0, [])).1) ((ss.getD k (0, 0, [])).2.1)).isSome)] : Value) := hpZ 15 (by decide)
      rw [eS (l := [(14, (.tuple #[((tupAt (vals 14) 0)), .bool ((stepAtL ar rs cur ((ss.getD k (0, 0, [])).1) ((ss.getD k (0, 0, [])).2.1)).isSome)] : Value)), (15, (.tuple #[((tupAt (vals 14) 0)), .bool ((stepAtL ar rs cur ((ss.getD k (0, 0, [])).1) ((ss.getD k (0, 0, [])).2.1)).isSome)] : Value))]) ⟨(e14).symm, e15, trivial⟩]
      refine XG.op (XOp.extract (.bool ((stepAtL ar rs cur ((ss.getD k (0, 0, [])).1) ((ss.getD k (0, 0, [])).2.1)).isSome)) rfl rfl ?_)
      exact ⟨rfl, rfl⟩
     refine stepsG.cons (fun vals Fs R leFs hpZ => ?_) ?_
     ·obtain ⟨e14, f14_1hr⟩ := hpZ 14 (by decide)
      have e16 : vals 16 = ((tupAt (vals 14) 0)) := hpZ 16 (by decide)
      rw [eS (l := [(14, (.tuple #[((tupAt (vals 14) 0)), .bool ((stepAtL ar rs cur ((ss.getD k (0, 0, [])).1) ((ss.getD k (0, 0, [])).2.1)).isSome)] : Value)), (16, ((tupAt (vals 14) 0)))]) ⟨(e14).symm, e16, trivial⟩]
      refine XG.op (XOp.assign (((tupAt (vals 14) 0))) rfl ?_)
      exact ⟨rfl, rfl⟩
     exact stepsG.nil
    ·intro vals F3 le3 hphi
     obtain ⟨e14, f14_1hr⟩ := hphi 14 (by decide)
     have e15 : vals 15 = (.tuple #[((tupAt (vals 14) 0)), .bool ((stepAtL ar rs cur ((ss.getD k (0, 0, [])).1) ((ss.getD k (0, 0, [])).2.1)).isSome)] : Value) := hphi 15 (by decide)
     have e16 : vals 16 = ((tupAt (vals 14) 0)) := hphi 16 (by decide)
     have e18 : vals 18 = ((tupAt (vals 14) 0)) := hphi 18 (by decide)
     generalize hu1 : ((tupAt (vals 14) 0)) = u1 at e14 f14_1hr e15 e16 e18
     rw [eS (l := [(14, (.tuple #[u1, .bool ((stepAtL ar rs cur ((ss.getD k (0, 0, [])).1) ((ss.getD k (0, 0, [])).2.1)).isSome)] : Value)), (17, (.bool ((stepAtL ar rs cur ((ss.getD k (0, 0, [])).1) ((ss.getD k (0, 0, [])).2.1)).isSome) : Value)), (18, u1)]) ⟨(e14).symm, (hphi 17 (by decide)), e18, trivial⟩]
     replace hss := hss.mono le3
     replace ha1 := ha1.mono le3
     replace hr3 := Rd.monoA hr3 le3
     show XL _ _ _ _ _ _ _ (cellsH b2 [fv, ssv] 57 :: cellsH b1 [arv, rsv] 37 :: L)
     refine XL.as (.bool ((stepAtL ar rs cur ((ss.getD k (0, 0, [])).1) ((ss.getD k (0, 0, [])).2.1)).isSome)) rfl ?_
     refine XL.nil (X.seq (X.seq (X.region ?_)))
     refine XL.mv (.bool ((stepAtL ar rs cur ((ss.getD k (0, 0, [])).1) ((ss.getD k (0, 0, [])).2.1)).isSome)) rfl ?_
     refine cX (XOp.notB (b := (stepAtL ar rs cur ((ss.getD k (0, 0, [])).1) ((ss.getD k (0, 0, [])).2.1)).isSome) rfl ?_)
     refine XL.mv (.bool (!((stepAtL ar rs cur ((ss.getD k (0, 0, [])).1) ((ss.getD k (0, 0, [])).2.1)).isSome))) rfl ?_
     by_cases h4 : (!((stepAtL ar rs cur ((ss.getD k (0, 0, [])).1) ((ss.getD k (0, 0, [])).2.1)).isSome)) = true
     ·have hu1 : (stepAtL ar rs cur (ss.getD k (0, 0, [])).1 (ss.getD k (0, 0, [])).2.1).isSome = false := by simpa using h4
      refine XL.no (t := 49) rfl (vB h4) ?_
      refine XL.no (t := 49) rfl (vB h4) ?_
      refine XL.no (t := 49) rfl (vB h4) ?_
      refine XL.no (t := 49) rfl (vB h4) ?_
      refine XL.no (t := 49) rfl (vB h4) ?_
      refine XL.no (t := 49) rfl (vB h4) ?_
      refine XL.no (t := 49) rfl (vB h4) ?_
      refine XL.no (t := 49) rfl (vB h4) ?_
      refine XL.no (t := 49) rfl (vB h4) ?_
      refine cX (XOp.pickT (.bool (true)) (vB h4) rfl ?_)
      refine XL.nil ?_
      refine X.condT rfl ?_
      refine X.seq (X.region ?_)
      refine XL.as (.bool (false)) rfl ?_
      refine XL.nil ?_
      refine X.ret (thenQ_ret (blockQ_ret (thenQ_ret (thenQ_ret (blockQ_ret (thenQ_ret (retEnd (L' := L) [.bool (false)] (.bool (false)) (.tmp rfl .nil) rfl rF (FLe.trans leG1 le3) (Sub.drop (Sub.drop sR)) ?_)))))))
      exact ⟨(vB (by have hz := goOk_fail (ar := ar) (rs := rs) (t := cur) (ss := ss) (k := k) (by omega) (by first | exact .inl hu1 | exact .inr hu2); rw [walkOkL, hgo, hz]; simp)), rfl, rfl⟩
     ·rw [Bool.not_eq_true] at h4
      have hu1 : (stepAtL ar rs cur (ss.getD k (0, 0, [])).1 (ss.getD k (0, 0, [])).2.1).isSome = true := by simpa using h4
      refine XL.yes (t := 49) rfl (vB h4) (XOp.move (u1) rfl ?_)
      refine XL.yes (t := 49) rfl (vB h4) (XOp.fieldP (b := b2) (1) runUnderlying57 rfl sizeOf55 (by decide) rfl rfl ?_)
      refine XL.yes (t := 49) rfl (vB h4) (XOp.load1 (v := ssv) isAgg55 rfl (Rd.own [] rfl rfl) ?_)
      refine XL.yes (t := 49) rfl (vB h4) (XOp.move (.int .i64 ((k : Int))) rfl ?_)
      refine XL.yes (t := 49) rfl (vB h4) (XOp.indexS (v := ssv) (i := (k : Int)) (n := (ss).length) k runUnderlying55 sizeOf116 rfl rfl rfl hss.slv (by omega) rfl ?_)
      refine XL.yes (t := 49) rfl (vB h4) (XOp.fieldE (v := ssv) (k * 3 + 2) runUnderlying116 rfl sizeOf22 (by decide) rfl rfl ?_)
      refine XL.yes (t := 49) rfl (vB h4) (XOp.load1 (v := a1) isAgg22 rfl (hr3 _) ?_)
      refine XL.yes (t := 49) rfl (vB h4) (XOp.call (args := [u1, a1]) call96 rfl (SameTerm_spec f14_1hr ha1 (hbd := (by first | assumption | rfl | omega | (left; simp; done) | (right; simp; done)))) ?_)
      rintro _ _ _ _ ⟨rfl, rfl, rfl⟩
      refine XL.yes (t := 49) rfl (vB h4) (XOp.notD (p := ((stepAtL ar rs cur ((ss.getD k (0, 0, [])).1) ((ss.getD k (0, 0, [])).2.1)).getD []) = ((ss.getD k (0, 0, [])).2.2)) rfl ?_)
      refine cX (XOp.pickF (.bool (decide (¬(((stepAtL ar rs cur ((ss.getD k (0, 0, [])).1) ((ss.getD k (0, 0, [])).2.1)).getD []) = ((ss.getD k (0, 0, [])).2.2))))) (vB h4) rfl ?_)
      refine XL.nil ?_
      refine X.condD (p := ¬(((stepAtL ar rs cur ((ss.getD k (0, 0, [])).1) ((ss.getD k (0, 0, [])).2.1)).getD []) = ((ss.getD k (0, 0, [])).2.2))) rfl (fun h5 => ?_) (fun h5 => ?_)
      ·have hu2 : (stepAtL ar rs cur (ss.getD k (0, 0, [])).1 (ss.getD k (0, 0, [])).2.1).getD [] ≠ (ss.getD k (0, 0, [])).2.2 := h5
       refine X.seq (X.region ?_)
       refine XL.as (.bool (false)) rfl ?_
       refine XL.nil ?_
       refine X.ret (thenQ_ret (blockQ_ret (thenQ_ret (thenQ_ret (blockQ_ret (thenQ_ret (retEnd (L' := L) [.bool (false)] (.bool (false)) (.tmp rfl .nil) rfl rF (FLe.trans leG1 le3) (Sub.drop (Sub.drop sR)) ?_)))))))
       exact ⟨(vB (by have hz := goOk_fail (ar := ar) (rs := rs) (t := cur) (ss := ss) (k := k) (by omega) (by first | exact .inl hu1 | exact .inr hu2); rw [walkOkL, hgo, hz]; simp)), rfl, rfl⟩
      ·have hu2 : (stepAtL ar rs cur (ss.getD k (0, 0, [])).1 (ss.getD k (0, 0, [])).2.1).getD [] = (ss.getD k (0, 0, [])).2.2 := Classical.not_not.1 h5
       refine X.skip (X.region ?_)
       refine XL.mv (u1) rfl ?_
       refine XL.as (u1) rfl ?_
       refine XL.nil (X.region ?_)
       refine XL.mv (.int .i64 ((k : Int))) rfl ?_
       refine cX (XOp.addR (a := (k : Int)) (b := 1) (((k + 1 : Nat) : Int)) rfl rfl (by omega) (by omega) ?_)
       refine XL.as (.int .i64 (((k + 1 : Nat) : Int))) rfl ?_
       refine XL.nil ?_
       exact ⟨(k + 1, u1, (stepAtL ar rs cur ((ss.getD k (0, 0, [])).1) ((ss.getD k (0, 0, [])).2.1)).getD [], F3), _, (FLe.trans leG1 le3), rF, ⟨rfl, rfl, rfl, rfl, trivial⟩, (Sub.cons (Sub.cons sR)), ⟨rfl, (FLe.trans leG1 le3), (f14_1hr), (by (try dsimp only) <;> omega), (by (try dsimp only); rw [hgo]; exact goOk_next (by omega) hu1 hu2), (by (try dsimp only); rw [hu2]; exact hsk (by omega))⟩, (by omega)⟩
   ·refine X.exit (thenQ_exit (thenQ_exit (blockQ_exit ?_)))
    refine X.seq (X.region ?_)
    refine XL.as (.bool (true)) rfl ?_
    refine XL.nil ?_
    refine X.ret (retEnd (L' := L) [.bool (true)] (.bool (true)) (.tmp rfl .nil) rfl rF leG1 (Sub.drop (Sub.drop sR)) ?_)
    exact ⟨(vB (by rw [walkOkL, hgo, goOk_end (by omega)]; simp_all <;> omega)), rfl, rfl⟩

/- spec.l7End -/
theorem l7End_spec {F : FH} {L : List HP} {fv : Value} {f : List Int} (hf : IntsF F fv f) {ssv : Value} {ss : List StepT} (hss : StepsF F ssv ss) (hlf : f.length ≤ 4000000) (hlss : ss.length ≤ 4000000) (hsb : ∀ i, i < ss.length → (ss.getD i (0, 0, [])).2.2.length ≤ 4000000) :
    Does prog 169 [.agg #[fv, ssv]] F (L) (fun v F' L' => F = F' ∧ IsSl v ∧ intsH 2 v (endL f ss) :: L = L') := by
 refine Does.of_X func169 rfl rfl rfl ?_
 have hsb1 := hsb (ss.length - 1)
 refine X.seq (X.region ?_)
 refine cX (XOp.box [fv, ssv] rfl rfl ?_)
 intro b1
 refine XL.as ((.slice none 0 0)) rfl ?_
 refine XL.nil (X.seq (X.seq (X.region ?_)))
 refine cX (XOp.fieldP (b := b1) (1) runUnderlying57 rfl sizeOf55 (by decide) rfl rfl ?_)
 refine cX (XOp.load1 (v := ssv) isAgg55 rfl (Rd.own [] rfl rfl) ?_)
 refine cX (XOp.lenS (v := ssv) (n := (ss).length) runUnderlying55 rfl hss.slv ?_)
 refine cX (XOp.eql (a := (ss.length : Int)) (b := 0) rfl rfl ?_)
 refine XL.nil ?_
 refine X.condD (p := ((ss.length : Int) : Int) = 0) rfl (fun h1 => ?_) (fun h1 => ?_)
 ·refine X.seq (X.region ?_)
  refine cX (XOp.fieldP (b := b1) (0) runUnderlying57 rfl sizeOf22 (by decide) rfl rfl ?_)
  refine cX (XOp.load1 (v := fv) isAgg22 rfl (Rd.own [] rfl rfl) ?_)
  refine cX (XOp.call (args := [fv]) call99 rfl (l1Copy_spec hf (hlt := (by first | assumption | rfl | omega | simp))) ?_)
  rintro v1 _ _ _ ⟨rfl, hs1, rfl⟩
  refine XL.as (v1) rfl ?_
  refine XL.nil ?_
  refine X.ret (thenQ_ret (retEnd (L' := intsH 2 v1 ((f)) :: L) [v1] (v1) (.tmp rfl .nil) rfl rF rF (Sub.cons (Sub.drop sR)) ?_))
  refine ⟨rfl, hs1, ?_⟩
  have hxs : (endL f ss : List Int) = (f) := by rw [endL, if_pos (by omega)]
  exact congrArg (fun z => intsH 2 _ z :: L) hxs
 ·refine X.skip (X.seq (X.region ?_))
  refine cX (XOp.fieldP (b := b1) (1) runUnderlying57 rfl sizeOf55 (by decide) rfl rfl ?_)
  refine cX (XOp.load1 (v := ssv) isAgg55 rfl (Rd.own [] rfl rfl) ?_)
  refine cX (XOp.fieldP (b := b1) (1) runUnderlying57 rfl sizeOf55 (by decide) rfl rfl ?_)
  refine cX (XOp.load1 (v := ssv) isAgg55 rfl (Rd.own [] rfl rfl) ?_)
  refine cX (XOp.lenS (v := ssv) (n := (ss).length) runUnderlying55 rfl hss.slv ?_)
  refine cX (XOp.subR (a := (ss.length : Int)) (b := 1) (((((ss).length) - 1 : Nat) : Int)) rfl rfl (by omega) (by omega) ?_)
  refine cX (XOp.indexS (v := ssv) (i := ((((ss).length) - 1 : Nat) : Int)) (n := (ss).length) (((ss).length) - 1) runUnderlying55 sizeOf116 rfl rfl rfl hss.slv (by omega) rfl ?_)
  refine cX (XOp.fieldE (v := ssv) ((((ss).length) - 1) * 3 + 2) runUnderlying116 rfl sizeOf22 (by decide) rfl rfl ?_)
  obtain ⟨a1, ha1, hr1, hr2, hr3⟩ := hss.rd (i := ((ss).length) - 1) (by omega)
  refine cX (XOp.load1 (v := a1) isAgg22 rfl (hr3 _) ?_)
  refine cX (XOp.call (args := [a1]) call99 rfl (l1Copy_spec ha1 (hlt := (by first | assumption | rfl | omega | simp))) ?_)
  rintro v2 _ _ _ ⟨rfl, hs2, rfl⟩
  refine XL.as (v2) rfl ?_
  refine XL.nil ?_
  refine X.ret (retEnd (L' := intsH 2 v2 ((((ss.getD (((ss).length) - 1) (0, 0, [])).2.2))) :: L) [v2] (v2) (.tmp rfl .nil) rfl rF rF (Sub.cons (Sub.drop sR)) ?_)
  refine ⟨rfl, hs2, ?_⟩
  have hxs : (endL f ss : List Int) = (((ss.getD (((ss).length) - 1) (0, 0, [])).2.2)) := by rw [endL, if_neg (by omega)]
  exact congrArg (fun z => intsH 2 _ z :: L) hxs

/- spec.EndTerm -/
theorem sEndTerm_spec {F : FH} {L : List HP} {arv : Value} {ar : List Int} (har : IntsF F arv ar) {rsv : Value} {rs : List (List Int × List Int)} (hrs : PairsF F rsv rs) {fv : Value} {f : List Int} (hf : IntsF F fv f) {ssv : Value} {ss : List StepT} (hss : StepsF F ssv ss) (hla : ar.length ≤ 4000000) (hlr : rs.length ≤ 4000000) (hrb : ∀ i, i < rs.length → (rs.getD i ([], [])).1.length ≤ 4000000 ∧ (rs.getD i ([], [])).2.length ≤ 4000000) (hlf : f.length ≤ 4000000) (hlss : ss.length ≤ 4000000) (hsb : ∀ i, i < ss.length → (ss.getD i (0, 0, [])).2.2.length ≤ 4000000) :
    Does prog 104 [.agg #[arv, rsv], .agg #[fv, ssv]] F (L) (fun v F' L' => F = F' ∧ IsSl v ∧ intsH 2 v (endT ar rs f ss) :: L = L') := by
 refine Does.of_X func104 rfl rfl rfl ?_
 refine X.seq (X.region ?_)
 refine cX (XOp.box [arv, rsv] rfl rfl ?_)
 intro b1
 refine cX (XOp.box [fv, ssv] rfl rfl ?_)
 intro b2
 refine XL.as ((.slice none 0 0)) rfl ?_
 refine XL.nil (X.seq (X.seq (X.region ?_)))
 refine cX (XOp.loadN [arv, rsv] isAgg37 sizeOf37 rfl rfl (Rd.ownN [_] rfl rfl) ?_)
 refine cX (XOp.loadN [fv, ssv] isAgg57 sizeOf57 rfl rfl (Rd.ownN [] rfl rfl) ?_)
 refine cX (XOp.call (args := [.agg #[arv, rsv], .agg #[fv, ssv]]) call103 rfl (sWalkOk_spec har hrs hf hss (hla := (by first | assumption | rfl | omega | simp)) (hlr := (by first | assumption | rfl | omega | simp)) (hrb := (by first | assumption | rfl | omega | simp)) (hlf := (by first | assumption | rfl | omega | simp)) (hlss := (by first | assumption | rfl | omega | simp)) (hsb := (by first | assumption | rfl | omega | simp))) ?_)
 rintro _ _ _ _ ⟨rfl, rfl, rfl⟩
 refine cX (XOp.notB (b := walkOkL ar rs f ss) rfl ?_)
 refine XL.nil ?_
 refine X.cond (t := !(walkOkL ar rs f ss)) rfl (fun h1 => ?_) (fun h1 => ?_)
 ·refine X.seq (X.region ?_)
  refine cX (XOp.buildSlice (s := 1) [] [.int .i64 (0)] [] runUnderlying22 sizeOf2 zeroValue2 rfl (by decide) rfl CellsAre.nil rfl ?_)
  intro v1 hv1
  refine XL.as (v1) rfl ?_
  refine XL.nil ?_
  refine X.ret (thenQ_ret (retEnd (L' := intsH 2 v1 ([]) :: L) [v1] (v1) (.tmp rfl .nil) rfl rF rF (Sub.cons (Sub.drop (Sub.drop sR))) ?_))
  refine ⟨rfl, (isSl_lit hv1), ?_⟩
  have hxs : (endT ar rs f ss : List Int) = [] := by rw [endT, if_neg (by simp_all)]
  exact congrArg (fun z => intsH 2 _ z :: L) hxs
 ·have hwk : walkOkL ar rs f ss = true := by simpa using h1
  have hel := termOk_len (right_iff.1 (walkOk_end hwk)).2
  have hwl := (walkOkL_iff.1 hwk).2.1
  refine X.skip (X.seq (X.region ?_))
  refine cX (XOp.loadN [fv, ssv] isAgg57 sizeOf57 rfl rfl (Rd.ownN [] rfl rfl) ?_)
  refine cX (XOp.call (args := [.agg #[fv, ssv]]) call169 rfl (l7End_spec hf hss (hlf := (by first | assumption | rfl | omega | simp)) (hlss := (by first | assumption | rfl | omega | simp)) (hsb := (by first | assumption | rfl | omega | simp))) ?_)
  rintro v2 _ _ _ ⟨rfl, hs1, rfl⟩
  refine XL.as (v2) rfl ?_
  refine XL.nil ?_
  refine X.ret (retEnd (L' := intsH 2 v2 ((endL f ss)) :: L) [v2] (v2) (.tmp rfl .nil) rfl rF rF (Sub.cons (Sub.drop (Sub.drop sR))) ?_)
  refine ⟨rfl, hs1, ?_⟩
  have hxs : (endT ar rs f ss : List Int) = (endL f ss) := by rw [endT, if_pos hwk]
  exact congrArg (fun z => intsH 2 _ z :: L) hxs

/- spec.NormalBy -/
theorem sNormalBy_spec {F : FH} {L : List HP} {arv : Value} {ar : List Int} (har : IntsF F arv ar) {rsv : Value} {rs : List (List Int × List Int)} (hrs : PairsF F rsv rs) {tv : Value} {t : List Int} (ht : IntsF F tv t) {st : Int} {n : Int} (hla : ar.length ≤ 4000000) (hlr : rs.length ≤ 4000000) (hrb : ∀ i, i < rs.length → (rs.getD i ([], [])).1.length ≤ 4000000 ∧ (rs.getD i ([], [])).2.length ≤ 4000000) (hlt : t.length ≤ 4000000) :
    Does prog 94 [.agg #[arv, rsv], tv, .int .i64 (st), .int .i64 (n)] F (L) (fun v F' L' => ∃ (a : Value), (.tuple #[a, .bool ((normB ar rs t st n).2)] : Value) = v ∧ (IntsF F' a (normB ar rs t st n).1) ∧ L = L') := by
 refine Does.of_X func94 rfl rfl rfl ?_
 refine X.seq (X.region ?_)
 refine cX (XOp.box [arv, rsv] rfl rfl ?_)
 intro b1
 refine XL.as ((.slice none 0 0)) rfl ?_
 refine XL.as (.bool (false)) rfl ?_
 refine XL.nil (X.seq (X.region ?_))
 refine cX (XOp.loadN [arv, rsv] isAgg37 sizeOf37 rfl rfl (Rd.ownN [] rfl rfl) ?_)
 refine XL.mv (tv) rfl ?_
 refine XL.mv (.int .i64 (st)) rfl ?_
 refine XL.mv (.int .i64 (n)) rfl ?_
 refine cX (XOp.call (args := [.agg #[arv, rsv], tv, .int .i64 (st), .int .i64 (n)]) call44 rfl (sWalkBy_spec (st := st) (n := n) har hrs ht (hla := (by first | assumption | rfl | omega | simp)) (hlr := (by first | assumption | rfl | omega | simp)) (hrb := (by first | assumption | rfl | omega | simp)) (hlt := (by first | assumption | rfl | omega | simp))) ?_)
 rintro _ F1 _ le1 ⟨x1, x2, rfl, hr1, hr2, rfl⟩
 refine XL.mv (.tuple #[.agg #[x1, x2], .bool ((walkB ar rs t st n).2.2)]) rfl ?_
 refine cX (XOp.extract (.agg #[x1, x2]) rfl rfl ?_)
 refine cX (XOp.extract (.bool ((walkB ar rs t st n).2.2)) rfl rfl ?_)
 refine cX (XOp.alloc [(.slice none 0 0), (.slice none 0 0)] zeroValue57 rfl ?_)
 intro b2
 refine cX (XOp.storeN (vs := [x1, x2]) [] _ [x1, x2] sizeOf57 rfl rfl rfl (ones_cons (one_sl (IntsF.isSl hr1)) (ones_cons (one_sl (StepsF.isSl hr2)) ones_nil)) rfl rfl rfl ?_)
 refine XL.as (.bool ((walkB ar rs t st n).2.2)) rfl ?_
 refine XL.nil (X.seq (X.seq (X.region ?_)))
 refine XL.mv (.bool ((walkB ar rs t st n).2.2)) rfl ?_
 refine cX (XOp.notB (b := (walkB ar rs t st n).2.2) rfl ?_)
 refine XL.nil ?_
 refine X.cond (t := !((walkB ar rs t st n).2.2)) rfl (fun h1 => ?_) (fun h1 => ?_)
 ·have hw2 : (walkB ar rs t st n).2.2 = false := by simpa using h1
  refine X.seq (X.region ?_)
  refine cX (XOp.buildSlice (s := 1) [] [.int .i64 (0)] [] runUnderlying22 sizeOf2 zeroValue2 rfl (by decide) rfl CellsAre.nil rfl ?_)
  intro v1 hv1
  refine XL.as (v1) rfl ?_
  refine XL.as (.bool (false)) rfl ?_
  refine XL.nil ?_
  show X _ _ _ _ _ _ (intsH 2 v1 ([] : List Int) :: cellsH b2 [x1, x2] 57 :: cellsH b1 [arv, rsv] 37 :: L)
  refine X.freezeF [] _ _ rfl (fun F2 le2 hz1 => ?_)
  replace hr1 := hr1.mono le2
  replace hr2 := hr2.mono le2
  have hf1 : IntsF F2 v1 ([]) := intsH.fz (xs := []) hz1.fz
  refine X.ret (thenQ_ret (retEnd (L' := L) [v1, .bool (false)] (.tuple #[v1, .bool (false)]) (.tmp rfl (.tmp rfl .nil)) rfl (FLe.trans le1 le2) rF (Sub.drop (Sub.drop sR)) ?_))
  have e : normB ar rs t st n = ([], false) := by rw [normB, if_neg (by rw [hw2]; simp)]
  exact ⟨_, by rw [e], by rw [e]; exact hf1, rfl⟩
 ·have hw2 : (walkB ar rs t st n).2.2 = true := by simpa using h1
  obtain ⟨hw3, hw4, hw5, hw6⟩ := walkB_ok hw2
  have hel : 1 ≤ (endL (walkB ar rs t st n).1 (walkB ar rs t st n).2.1).length ∧ (endL (walkB ar rs t st n).1 (walkB ar rs t st n).2.1).length ≤ 60 := by rw [hw4]; exact termOk_len hw6
  have hwl := walkB_len (ar := ar) (rs := rs) (t := t) (st := st) (n := n)
  refine X.skip (X.seq (X.region ?_))
  refine cX (XOp.loadN [x1, x2] isAgg57 sizeOf57 rfl rfl (Rd.ownN [] rfl rfl) ?_)
  refine cX (XOp.frzF <| XOp.call (args := [.agg #[x1, x2]]) call169 rfl (l7End_spec hr1 hr2 (hlf := (by rw [hw4]; exact hlt)) (hlss := (by first | assumption | rfl | omega | simp)) (hsb := (fun i hi => by have := termOk_len (walkOk_to hw5 hi); omega))) ?_)
  rintro v2 _ _ _ ⟨rfl, hs1, rfl⟩
  refine ⟨_, _, rfl, fun F3 le3 hz2 => ?_⟩
  have hf2 : IntsF F3 v2 ((endL ((walkB ar rs t st n).1) ((walkB ar rs t st n).2.1))) := intsH.fz (xs := (endL ((walkB ar rs t st n).1) ((walkB ar rs t st n).2.1))) hz2.fz
  refine XL.as (v2) rfl ?_
  refine XL.as (.bool (true)) rfl ?_
  refine XL.nil ?_
  refine X.ret (retEnd (L' := L) [v2, .bool (true)] (.tuple #[v2, .bool (true)]) (.tmp rfl (.tmp rfl .nil)) rfl (FLe.trans le1 le3) rF (Sub.drop (Sub.drop sR)) ?_)
  have e : normB ar rs t st n = (endL (walkB ar rs t st n).1 (walkB ar rs t st n).2.1, true) := by rw [normB, if_pos hw2]
  exact ⟨_, by rw [e], by rw [e]; exact hf2, rfl⟩
end Go.Proofs.YtiaanelimbmniaaGreat
