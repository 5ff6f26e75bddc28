/-
  Walks, one after the other (part 2).
-/
import Derived.Test.YtcdjpapjjoldeaaGreatQTL2
import Derived.Test.YtcdjpapjjoldeaaGreatQTB0
import Derived.Recover
import Derived.Tactics
import Derived.Tactics2
set_option linter.unusedSimpArgs false
set_option linter.unusedVariables false
namespace Go.Proofs.YtcdjpapjjoldeaaGreat
open Go X M Tryz

/- spec.l2Filled -/
theorem l2Filled_spec {F : FH} {L : List HP} {sv : Value} {s : List (List Int)} (hs : RowsF F sv s) {tv : Value} {t : List Int} (ht : IntsF F tv t) (hsl : s.length ≤ 4000000) (hsb : ∀ i, (s.getD i []).length ≤ 4000000) (htl : t.length ≤ 4000000) (htg : ∀ k, k < t.length → -4000000 ≤ t.getD k 0) :
    Does prog 48 [.agg #[sv], tv] F (L) (fun v F' L' => ∃ (a : Value), (.tuple #[a, .bool ((fillL s t).isSome)] : Value) = v ∧ (IntsF F' a ((fillL s t).getD [])) ∧ L = L') := by
 refine qD func48 rfl rfl rfl (qc (qa (cX (qV [sv] rfl rfl ?_))))
 intro b1
 refine qg (sN) rfl (qg (.bool (false)) rfl (qb (qc (qa (cX (qM (s := 1) [] [ii (0)] [] qd qo jk rfl (by decide) rfl CellsAre.nil rfl ?_))))))
 intro v1 hv1
 refine qg (v1) rfl (qb (qc (qc (qa (qg (ii (0)) rfl (qb (qF (jj (α := Nat × Value × List Int) (fun xQ => [(1, tv), (2, ptr b1 0), (6, xQ.2.1), (7, ii (((xQ.1 : Nat) : Int)))]) (fun xQ => intsH 2 xQ.2.1 xQ.2.2 :: cellsH b1 [sv] 86 :: L) (fun xQ F' => F = F' ∧ (IsSl xQ.2.1) ∧ (xQ.1 ≤ t.length) ∧ (fillL s t = fillGo s (t.drop xQ.1) xQ.2.2) ∧ (xQ.2.2.length ≤ 60)) (fun xQ => t.length - xQ.1) (0, v1, []) ⟨rfl, rfl, rfl, rfl, ⟨⟩⟩ (sC (sC sR)) ⟨rfl, ((jJ hv1)), (by (try dsimp only) <;> omega), (rfl), (by simp)⟩ ?_))))))))
 rintro ⟨k, ov, os⟩ rE _ _ ⟨rfl, hov, hk, hm, hol⟩
 show X _ _ _ _ (envs [(1, tv), (2, ptr b1 0), (6, ov), (7, ii ((k : Int)))] rE) _ (intsH 2 ov os :: cellsH b1 [sv] 86 :: L)
 dsimp only at hov hk hm hol
 have htk := htg k
 have hlk0 := lk_bound (N := 4000000) (by omega) hsb (-1 - (((-1 - t.getD k 0).toNat : Nat) : Int))
 refine qc (qc (qa (qf (ii ((k : Int))) rfl (qf (tv) rfl (cX (qC qd rfl ht.slv (cX (qL rfl rfl (qb ?_)))))))))
 refine qx (p := (k : Int) < (t.length : Int)) rfl (fun h1 => ?_) (fun h1 => ?_)
 ·refine qw (qc (qF (qc (qc (qa (qf (tv) rfl (qf (ii ((k : Int))) rfl (cX (ql k qd qo rfl rfl rfl ht.slv (by omega) (Nat.mul_one _) (cX (qi qK rfl (ht.rd (by omega)) (cX (qL rfl rfl (qb ?_))))))))))))))
  refine qx (p := (t.getD k 0 : Int) < 0) rfl (fun h2 => ?_) (fun h2 => ?_)
  ·refine X.drawG [intsH 2 ov os, cellsH b1 [sv] 86] L 8 [] [[], [], [], [], [2, 3], [4], [5], [1, 6]] [] (phiG [pe ov, pe (.agg #[sv]), pe tv, pe (ii ((k : Int)) : Value), pe (.pointer (some (elemA tv (k)))), pe (ii (t.getD k 0)), pe (ii ((-1) - (t.getD k 0))), fun FF us v => ((v) : Value) = v ∧ (IntsF FF (v) (lk s (-1 - ((((-1) - (t.getD k 0)).toNat) : Int))))]) (ownL []) mixed rfl rfl (by kernel_rfl) (by kernel_rfl) (MonoG.get (m1 (m1 (m1 (m1 (m1 (m1 (m1 (mC (fun le h => ⟨h.1, h.2.mono le⟩) MonoG.nil))))))))) ?_ ?_
   ·refine gD (fun W Fs R lF z9 => ?_) ?_
    ·refine qh (qj (ov) rfl ?_)
     exact ⟨rfl, rfl⟩
    refine gD (fun W Fs R lF z9 => ?_) ?_
    ·replace hs := hs.mono lF
     replace ht := ht.mono lF
     refine qh (qB [sv] isAgg86 js rfl rfl (Rd.ownN [_] rfl rfl) ?_)
     exact ⟨rfl, rfl⟩
    refine gD (fun W Fs R lF z9 => ?_) ?_
    ·refine qh (qj (tv) rfl ?_)
     exact ⟨rfl, rfl⟩
    refine gD (fun W Fs R lF z9 => ?_) ?_
    ·refine qh (qj (ii ((k : Int))) rfl ?_)
     exact ⟨rfl, rfl⟩
    refine gD (fun W Fs R lF z9 => ?_) ?_
    ·replace hs := hs.mono lF
     replace ht := ht.mono lF
     rw [eS (l := [(2, _), (3, _)]) ⟨z9 2 rfl, z9 3 rfl, ⟨⟩⟩]
     refine qh (ql k qd qo rfl rfl rfl ht.slv (by omega) (Nat.mul_one _) ?_)
     exact ⟨rfl, rfl⟩
    refine gD (fun W Fs R lF z9 => ?_) ?_
    ·replace hs := hs.mono lF
     replace ht := ht.mono lF
     rw [eS (l := [(4, _)]) ⟨z9 4 rfl, ⟨⟩⟩]
     refine qh (qi qK rfl (ht.rd (by omega)) ?_)
     exact ⟨rfl, rfl⟩
    refine gD (fun W Fs R lF z9 => ?_) ?_
    ·rw [eS (l := [(5, _)]) ⟨z9 5 rfl, ⟨⟩⟩]
     refine qh (qY ((-1) - (t.getD k 0)) rfl rfl (by omega) (by omega) ?_)
     exact ⟨rfl, rfl⟩
    refine gD (fun W Fs R lF z9 => ?_) ?_
    ·replace hs := hs.mono lF
     replace ht := ht.mono lF
     rw [eS (l := [(1, _), (6, _)]) ⟨z9 1 rfl, z9 6 rfl, ⟨⟩⟩]
     refine qh (jK <| qt (args := [.agg #[sv], ii ((((-1) - (t.getD k 0)).toNat : Nat) : Int)]) call107 (by rw [show ((((-1) - (t.getD k 0)).toNat : Nat) : Int) = (-1) - (t.getD k 0) from by omega]; rfl) (l2Gives_spec (i := ((-1) - (t.getD k 0)).toNat) hs (hsl := (by first | assumption | rfl | omega | simp)) (hi := (by first | assumption | rfl | omega | simp)) (hsb := (hsb _))) ?_)
     rintro v3 _ _ _ ⟨rfl, hs2, rfl⟩
     refine ⟨_, _, rfl, fun F1 le1 hz1 => ?_⟩
     replace ht := ht.mono le1
     have hf1 : IntsF F1 v3 ((lk s (-1 - ((((-1) - (t.getD k 0)).toNat) : Int)))) := intsH.fz (xs := (lk s (-1 - ((((-1) - (t.getD k 0)).toNat) : Int)))) hz1.fz
     exact ⟨⟨rfl, hf1⟩, rfl⟩
    exact stepsG.nil
   intro W F2 le2 hphi
   obtain ⟨e7, f7_1ha⟩ := hphi 7 (by decide)
   generalize hu1 : ((W 7)) = u1 at e7 f7_1ha
   rw [eS (l := [(0, _), (7, u1)]) ⟨(hphi 0 (by decide)), hu1, ⟨⟩⟩]
   replace ht := ht.mono le2
   show XL _ _ _ _ _ _ _ (intsH 2 ov os :: cellsH b1 [sv] 86 :: L)
   refine cX (XOp.appendI [] _ qd typeInfo2 rfl rfl rfl rfl rfl rfl f7_1ha (by (try simp only [List.length_append, List.length_nil, List.length_cons, List.length_singleton, List.length_take, List.length_drop]); omega) ?_)
   intro v4 hs3 hn1 hm1
   refine qg (v4) rfl (qb (qc (qa (qf (v4) rfl (cX (qC qd rfl (intsH.slv [] rfl) (cX (jH rfl rfl (qb ?_)))))))))
   refine qx (p := ((((os ++ ((lk s (-1 - ((((-1) - (t.getD k 0)).toNat) : Int))))).length : Nat) : Int) : Int) > 60) rfl (fun h3 => ?_) (fun h3 => ?_)
   ·refine qc (qa (cX (qM (s := 1) [] [ii (0)] [] qd qo jk rfl (by decide) rfl CellsAre.nil rfl ?_)))
    intro v5 hv2
    refine qg (v5) rfl (qg (.bool (false)) rfl (qb ?_))
    show X _ _ _ _ _ _ (intsH 2 v5 ([] : List Int) :: intsH 2 v4 (os ++ ((lk s (-1 - ((((-1) - (t.getD k 0)).toNat) : Int))))) :: cellsH b1 [sv] 86 :: L)
    refine jA [] _ _ rfl (fun F3 le3 hz2 => ?_)
    replace ht := ht.mono le3
    have hf2 : IntsF F3 v5 ([]) := intsH.fz (xs := []) hz2.fz
    refine qy (qz (qk (qk (qz (qk (qs (L' := L) [v5, .bool (false)] (.tuple #[v5, .bool (false)]) (.tmp rfl (.tmp rfl .nil)) rfl (qm le2 le3) rF (sD (sD sR)) ?_))))))
    have hz : fillL s t = none := hm.trans (fillGo_long (a := os ++ ((lk s (-1 - ((((-1) - (t.getD k 0)).toNat) : Int))))) (by omega) (by rw [show (-1 - (((-1 - t.getD k 0).toNat : Nat) : Int)) = t.getD k 0 from by omega]) (by omega))
    exact ⟨_, by rw [hz]; rfl, by rw [hz]; exact hf2, rfl⟩
   refine qw (qa (qf (ii ((k : Int))) rfl (cX (qI (((k + 1 : Nat) : Int)) rfl rfl (by omega) (by omega) (qg (ii (((k + 1 : Nat) : Int))) rfl (qb ?_))))))
   exact ⟨(k + 1, v4, os ++ ((lk s (-1 - ((((-1) - (t.getD k 0)).toNat) : Int))))), _, FLe.refl _, le2, ⟨rfl, rfl, rfl, rfl, ⟨⟩⟩, (sC (sC sR)), ⟨rfl, (hs3), (by (try dsimp only) <;> omega), (by dsimp only; exact hm.trans (fillGo_next (by omega) (by rw [show (-1 - (((-1 - t.getD k 0).toNat : Nat) : Int)) = t.getD k 0 from by omega]) (by omega))), (by dsimp only; omega)⟩, (by omega)⟩
  refine qa (qf (ov) rfl (qf (tv) rfl (qf (ii ((k : Int))) rfl (cX (ql k qd qo rfl rfl rfl ht.slv (by omega) (Nat.mul_one _) (cX (qi qK rfl (ht.rd (by omega)) (cX (qM (s := 1) [ii (t.getD k 0)] [ii (0)] [(0, [ii (t.getD k 0)])] qd qo jk rfl (by decide) rfl (.cons rfl CellsAre.nil) rfl ?_)))))))))
  intro v6 hv3
  refine cX (jW (u := t.getD k 0) [_] _ qd typeInfo2 rfl rfl rfl rfl rfl rfl (SlV.own [] rfl) (Rd.sl [] rfl rfl) (by (try simp only [List.length_append, List.length_nil, List.length_cons, List.length_singleton, List.length_take, List.length_drop]); omega) ?_)
  intro v7 hs4 hn2
  refine qg (v7) rfl (qb (qc (qa (qf (v7) rfl (cX (qC qd rfl (intsH.slv [_] rfl) (cX (jH rfl rfl (qb ?_)))))))))
  refine qx (p := ((((os ++ [t.getD k 0]).length : Nat) : Int) : Int) > 60) rfl (fun h4 => ?_) (fun h4 => ?_)
  ·refine qc (qa (cX (qM (s := 1) [] [ii (0)] [] qd qo jk rfl (by decide) rfl CellsAre.nil rfl ?_)))
   intro v8 hv4
   refine qg (v8) rfl (qg (.bool (false)) rfl (qb ?_))
   show X _ _ _ _ _ _ (intsH 2 v8 ([] : List Int) :: slH 2 1 v6 1 [ii (t.getD k 0)] :: intsH 2 v7 (os ++ [t.getD k 0]) :: cellsH b1 [sv] 86 :: L)
   refine jA [] _ _ rfl (fun F4 le4 hz3 => ?_)
   have hf3 : IntsF F4 v8 ([]) := intsH.fz (xs := []) hz3.fz
   refine qy (qz (qk (qk (qz (qk (qs (L' := L) [v8, .bool (false)] (.tuple #[v8, .bool (false)]) (.tmp rfl (.tmp rfl .nil)) rfl le4 rF (sD (sD (sD sR))) ?_))))))
   have hz : fillL s t = none := hm.trans (fillGo_long (a := os ++ [t.getD k 0]) (by omega) (by rw [lk_sym (by omega)]) (by omega))
   exact ⟨_, by rw [hz]; rfl, by rw [hz]; exact hf3, rfl⟩
  refine qw (qa (qf (ii ((k : Int))) rfl (cX (qI (((k + 1 : Nat) : Int)) rfl rfl (by omega) (by omega) (qg (ii (((k + 1 : Nat) : Int))) rfl (qb ?_))))))
  exact ⟨(k + 1, v7, os ++ [t.getD k 0]), _, FLe.refl _, rF, ⟨rfl, rfl, rfl, rfl, ⟨⟩⟩, (sD (sC (sC sR))), ⟨rfl, (hs4), (by (try dsimp only) <;> omega), (by dsimp only; exact hm.trans (fillGo_next (by omega) (by rw [lk_sym (by omega)]) (by omega))), (by dsimp only; omega)⟩, (by omega)⟩
 refine ja (qu (qu (qJ (qc (qa (qf (ov) rfl (qg (ov) rfl (qg (.bool (true)) rfl (qb (jA [] _ _ rfl (fun F5 le5 hz4 => ?_)))))))))))
 have hf4 : IntsF F5 ov os := intsH.fz (xs := os) hz4.fz
 refine qy (qs (L' := L) [ov, .bool (true)] (.tuple #[ov, .bool (true)]) (.tmp rfl (.tmp rfl .nil)) rfl le5 rF (sD sR) ?_)
 have hz : fillL s t = some os := hm.trans (fillGo_done (by omega))
 exact ⟨_, by rw [hz]; rfl, by rw [hz]; exact hf4, rfl⟩

/- spec.l3Put -/
theorem l3Put_spec {F : FH} {L : List HP} {arv : Value} {ar : List Int} (har : IntsF F arv ar) {tv : Value} {t : List Int} (ht : IntsF F tv t) {p : Nat} {uv : Value} {u : List Int} (hu : IntsF F uv u) (ho : termOk ar t = true) (hp : p < t.length) (hul : u.length ≤ 4000000) :
    Does prog 49 [.agg #[arv], tv, ii ((p : Int)), uv] F (L) (fun v F' L' => ∃ (a : Value), (.tuple #[a, .bool ((putL ar t p u).isSome)] : Value) = v ∧ (IntsF F' a ((putL ar t p u).getD [])) ∧ L = L') := by
 refine qD func49 rfl rfl rfl ?_
 have hsig := termOk_sig ho
 have hsl := sigOk_spec hsig
 have htl := termOk_len ho
 have hee := endN_spec ho hp
 refine qc (qa (cX (qV [arv] rfl rfl ?_)))
 intro b1
 refine qg (sN) rfl (qg (.bool (false)) rfl (qb (qc (qa (qf (tv) rfl (qf (ii ((p : Int))) rfl (cX (jX 0 p qd qo rfl ht rfl ⟨_, rfl⟩ (by omega) (by omega) ?_))))))))
 intro v1 hv1 hn1
 refine cX (qt (args := [v1]) call42 rfl (l1Copy_spec hv1 (hlt := (by simp; omega))) ?_)
 rintro v2 _ _ _ ⟨rfl, hs1, rfl⟩
 refine qf (uv) rfl (cX (XOp.appendI [] _ qd typeInfo2 rfl rfl rfl rfl rfl rfl hu (by (try simp only [List.length_append, List.length_nil, List.length_cons, List.length_singleton, List.length_take, List.length_drop]); omega) ?_))
 intro v3 hs2 hn2 hm1
 refine qg (v3) rfl (qb (qc (qa (qf (v3) rfl (qf (tv) rfl (cX (qB [arv] je qN rfl rfl (Rd.ownN [_] rfl rfl) (qf (tv) rfl (qf (ii ((p : Int))) rfl (cX (qt (args := [.agg #[arv], tv, ii (p : Int)]) call102 rfl (l1End_ok (p := p) har ht (ho := (by first | assumption | rfl | omega | (left; simp; done) | (right; simp; done))) (hp := (by first | assumption | rfl | omega | (left; simp; done) | (right; simp; done)))) ?_)))))))))))
 rintro _ _ _ _ ⟨rfl, rfl, rfl⟩
 refine cX (jX (endN ar t p) ((t).length) qd qo rfl ht ⟨_, rfl⟩ rfl (by omega) (by omega) ?_)
 intro v4 hv2 hn3
 refine cX (XOp.appendI [] _ qd typeInfo2 rfl rfl rfl rfl rfl rfl hv2 (by (try simp only [List.length_append, List.length_nil, List.length_cons, List.length_singleton, List.length_take, List.length_drop]); omega) ?_)
 intro v5 hs3 hn4 hm2
 refine qg (v5) rfl (qb (qc (qc (qa (qf (v5) rfl (cX (qC qd rfl (intsH.slv [] rfl) (cX (jH rfl rfl (qb ?_))))))))))
 refine qx (p := ((((((((((t.drop 0).take (p - 0))))) ++ u) ++ (((t.drop (endN ar t p)).take (((t).length) - (endN ar t p))))).length : Nat) : Int) : Int) > 60) rfl (fun h1 => ?_) (fun h1 => ?_)
 ·refine qc (qa (cX (qM (s := 1) [] [ii (0)] [] qd qo jk rfl (by decide) rfl CellsAre.nil rfl ?_)))
  intro v6 hv3
  refine qg (v6) rfl (qg (.bool (false)) rfl (qb ?_))
  show X _ _ _ _ _ _ (intsH 2 v6 ([] : List Int) :: intsH 2 v5 (((((((t.drop 0).take (p - 0))))) ++ u) ++ (((t.drop (endN ar t p)).take (((t).length) - (endN ar t p))))) :: cellsH b1 [arv] 31 :: L)
  refine jA [] _ _ rfl (fun F1 le1 hz1 => ?_)
  have hf1 : IntsF F1 v6 ([]) := intsH.fz (xs := []) hz1.fz
  refine qy (qk (qs (L' := L) [v6, .bool (false)] (.tuple #[v6, .bool (false)]) (.tmp rfl (.tmp rfl .nil)) rfl le1 rF (sD (sD sR)) ?_))
  have hz : putL ar t p u = none := putL_none put_three (by omega)
  exact ⟨_, by rw [hz]; rfl, by rw [hz]; exact hf1, rfl⟩
 refine qw (qc (qa (qf (v5) rfl (qg (v5) rfl (qg (.bool (true)) rfl (qb (jA [] _ _ rfl (fun F2 le2 hz2 => ?_))))))))
 have hf2 : IntsF F2 v5 (((((((t.drop 0).take (p - 0))))) ++ u) ++ (((t.drop (endN ar t p)).take (((t).length) - (endN ar t p))))) := intsH.fz (xs := ((((((t.drop 0).take (p - 0))))) ++ u) ++ (((t.drop (endN ar t p)).take (((t).length) - (endN ar t p))))) hz2.fz
 refine qy (qs (L' := L) [v5, .bool (true)] (.tuple #[v5, .bool (true)]) (.tmp rfl (.tmp rfl .nil)) rfl le2 rF (sD sR) ?_)
 have hz := putL_some (ar := ar) (t := t) (p := p) (u := u) put_three (by omega)
 exact ⟨_, by rw [hz]; rfl, by rw [hz]; exact hf2, rfl⟩

/- spec.l7Step -/
theorem l7Step_spec {F : FH} {L : List HP} {arv : Value} {ar : List Int} (har : IntsF F arv ar) {rsv : Value} {rs : List (List Int × List Int)} (hrs : PairsF F rsv rs) {tv : Value} {t : List Int} (ht : IntsF F tv t) {p : Nat} {r : Nat} (hsys : sysOk ar rs = true) (ho : termOk ar t = true) (hp : p < t.length) (hr : r < rs.length) :
    Does prog 171 [.agg #[arv, rsv], tv, ii ((p : Int)), ii ((r : Int))] F (L) (fun v F' L' => ∃ (a : Value), (.tuple #[a, .bool ((stepL ar rs t p r).isSome)] : Value) = v ∧ (IntsF F' a ((stepL ar rs t p r).getD [])) ∧ L = L') := by
 refine qD func171 rfl rfl rfl ?_
 have hnn := jO ht (by have := termOk_len ho; omega)
 have htl := termOk_len ho
 have hrl := (sysOk_iff.1 hsys).2.1
 have hsig := (sysOk_iff.1 hsys).1
 have hsl := sigOk_spec hsig
 have hR := ruleOk_iff.1 ((sysOk_iff.1 hsys).2.2 r hr)
 have hRl := hR.left
 have hRr := hR.right
 have hso := sub_ok ho hp
 have hsb := sub_length ho hp
 have hee := endN_spec ho hp
 have hRrl := termOk_len hRr
 have hRg := fun k (hk : k < (rs.getD r ([], [])).2.length) => termOk_ge hRr hk
 have hmp := matchP_len (ar := ar) (p := (rs.getD r ([], [])).1) (t := sub ar t p)
 have hmp2 := hmp.2
 have hmp3 := hmp.1
 refine qc (qa (cX (qV [arv, rsv] rfl rfl ?_)))
 intro b1
 refine qg (sN) rfl (qg (.bool (false)) rfl (qb (qc (qa (cX (qn (1) qH rfl jx (by decide) rfl rfl (cX (qi jG rfl (Rd.own [] rfl rfl) (qf (ii ((r : Int))) rfl (cX (ql r qU jh rfl rfl rfl hrs.slv (by omega) rfl ?_)))))))))))
 obtain ⟨a1, a2, ha1, ha2, hr1, hr2⟩ := hrs.rd (i := r) (by omega)
 refine cX (qB [a1, a2] isAgg136 jh rfl rfl (Rd.two (hr1 _) (hr2 _)) (cX (jo [sN, sN] zeroValue136 rfl ?_)))
 intro b2
 refine cX (jb [] _ [a1, a2] jh rfl rfl rfl (qv (qZ (qG ha1)) (qv (qZ (qG ha2)) jf)) rfl rfl rfl (qb (qc ?_)))
 refine X.drawG [cellsH b2 [a1, a2] 136, cellsH b1 [arv, rsv] 66] L 15 [[], [], [], [], [], [], [], [], [], [], [9], [9], [], [], [9, 13]] [[], [0], [], [2], [], [4], [], [], [5, 6, 7], [1, 3, 8], [9], [9, 10], [9, 10], [], [9, 11, 13]] [[], [], [], [], [], [], [], [], [], [], [], [], [], [], [13]] (phiG [pe (ptr b1 0), pe (.agg #[arv]), pe (ptr b2 0), pe a1, pe (ptr b1 0), pe (.agg #[arv]), pe tv, pe (ii ((p : Int)) : Value), fun FF us v => ((v) : Value) = v ∧ (IntsF FF (v) (sub ar t p)), fun FF us v => (.tuple #[.agg #[((aggAt (tupAt v 0) 0))], .bool ((matchB ar ((rs.getD r ([], [])).1) ((sub ar t p))).isSome)] : Value) = v ∧ (RowsF FF ((aggAt (tupAt v 0) 0)) (matchP ar ((rs.getD r ([], [])).1) ((sub ar t p)))), fun FF us v => v = (.tuple #[.agg #[((aggAt (tupAt (us.getD 0 undef) 0) 0))], .bool ((matchB ar ((rs.getD r ([], [])).1) ((sub ar t p))).isSome)] : Value), fun FF us v => v = (.agg #[((aggAt (tupAt (us.getD 0 undef) 0) 0))] : Value), pe (.bool ((matchB ar ((rs.getD r ([], [])).1) ((sub ar t p))).isSome)), fun FF us v => v = ptr (blk v) 0, fun FF us v => True]) (ownL [o0, o0, o0, o0, o0, o0, o0, o0, o0, o0, o0, o0, o0, fun us v => [cellsH (blk v) [sN] 86], fun us v => [cellsH (blk (us.getD 1 undef)) [((aggAt (tupAt (us.getD 0 undef) 0) 0))] 86]]) mixed rfl rfl (by kernel_rfl) (by kernel_rfl) (MonoG.get (m1 (m1 (m1 (m1 (m1 (m1 (m1 (m1 (mC (fun le h => ⟨h.1, h.2.mono le⟩) (mC (fun le h => ⟨h.1, h.2.mono le⟩) (mC (fun le h => h) (mC (fun le h => h) (m1 (mC (fun le h => h) (mC (fun le h => h) MonoG.nil)))))))))))))))) ?_ ?_
 ·refine gD (fun W Fs R lF z9 => ?_) ?_
  ·refine qh (qn (0) qH rfl qN (by decide) rfl rfl ?_)
   exact ⟨rfl, rfl⟩
  refine gD (fun W Fs R lF z9 => ?_) ?_
  ·replace har := har.mono lF
   replace ht := ht.mono lF
   replace ha1 := ha1.mono lF
   replace ha2 := ha2.mono lF
   rw [eS (l := [(0, _)]) ⟨z9 0 rfl, ⟨⟩⟩]
   refine qh (qB [arv] je qN rfl rfl (Rd.ownN [_] rfl rfl) ?_)
   exact ⟨rfl, rfl⟩
  refine gD (fun W Fs R lF z9 => ?_) ?_
  ·refine qh (qn (0) qQ rfl qr (by decide) rfl rfl ?_)
   exact ⟨rfl, rfl⟩
  refine gD (fun W Fs R lF z9 => ?_) ?_
  ·replace har := har.mono lF
   replace ht := ht.mono lF
   replace ha1 := ha1.mono lF
   replace ha2 := ha2.mono lF
   rw [eS (l := [(2, _)]) ⟨z9 2 rfl, ⟨⟩⟩]
   refine qh (qi qP rfl (Rd.own [] rfl rfl) ?_)
   exact ⟨rfl, rfl⟩
  refine gD (fun W Fs R lF z9 => ?_) ?_
  ·refine qh (qn (0) qH rfl qN (by decide) rfl rfl ?_)
   exact ⟨rfl, rfl⟩
  refine gD (fun W Fs R lF z9 => ?_) ?_
  ·replace har := har.mono lF
   replace ht := ht.mono lF
   replace ha1 := ha1.mono lF
   replace ha2 := ha2.mono lF
   rw [eS (l := [(4, _)]) ⟨z9 4 rfl, ⟨⟩⟩]
   refine qh (qB [arv] je qN rfl rfl (Rd.ownN [_] rfl rfl) ?_)
   exact ⟨rfl, rfl⟩
  refine gD (fun W Fs R lF z9 => ?_) ?_
  ·refine qh (qj (tv) rfl ?_)
   exact ⟨rfl, rfl⟩
  refine gD (fun W Fs R lF z9 => ?_) ?_
  ·refine qh (qj (ii ((p : Int))) rfl ?_)
   exact ⟨rfl, rfl⟩
  refine gD (fun W Fs R lF z9 => ?_) ?_
  ·replace har := har.mono lF
   replace ht := ht.mono lF
   replace ha1 := ha1.mono lF
   replace ha2 := ha2.mono lF
   rw [eS (l := [(5, _), (6, _), (7, _)]) ⟨z9 5 rfl, z9 6 rfl, z9 7 rfl, ⟨⟩⟩]
   refine qh (jK <| qt (args := [.agg #[arv], tv, ii (p : Int)]) call44 rfl (l1Sub_spec (p := p) har ht (ho := (by first | assumption | rfl | omega | simp)) (hp := (by first | assumption | rfl | omega | simp))) ?_)
   rintro v2 _ _ _ ⟨rfl, hs2, rfl⟩
   refine ⟨_, _, rfl, fun F2 le2 hz1 => ?_⟩
   replace har := har.mono le2
   replace ht := ht.mono le2
   replace ha1 := ha1.mono le2
   replace ha2 := ha2.mono le2
   have hf1 : IntsF F2 v2 ((sub ar t p)) := intsH.fz (xs := (sub ar t p)) hz1.fz
   exact ⟨⟨rfl, hf1⟩, rfl⟩
  refine gD (fun W Fs R lF z9 => ?_) ?_
  ·obtain ⟨e8, f8_1ha⟩ := z9 8 rfl
   replace har := har.mono lF
   replace ht := ht.mono lF
   replace ha1 := ha1.mono lF
   replace ha2 := ha2.mono lF
   rw [eS (l := [(1, _), (3, _), (8, ((W 8)))]) ⟨z9 1 rfl, z9 3 rfl, (e8).symm, ⟨⟩⟩]
   refine qh (qt (args := [.agg #[arv], a1, ((W 8))]) call106 rfl (l4Match_spec har ha1 f8_1ha (ho := (by first | assumption | rfl | omega | simp)) (hpo := (by first | assumption | rfl | omega | simp))) ?_)
   rintro _ F3 _ le3 ⟨x2, rfl, hr4, rfl⟩
   replace har := har.mono le3
   replace ht := ht.mono le3
   replace ha2 := ha2.mono le3
   replace f8_1ha := f8_1ha.mono le3
   exact ⟨⟨rfl, hr4⟩, rfl⟩
  refine gD (fun W Fs R lF z9 => ?_) ?_
  ·obtain ⟨e9, f9_1hr⟩ := z9 9 rfl
   rw [eS (l := [(9, (.tuple #[.agg #[((aggAt (tupAt (W 9) 0) 0))], .bool ((matchB ar ((rs.getD r ([], [])).1) ((sub ar t p))).isSome)]))]) ⟨(e9).symm, ⟨⟩⟩]
   refine qh (qj (.tuple #[.agg #[((aggAt (tupAt (W 9) 0) 0))], .bool ((matchB ar ((rs.getD r ([], [])).1) ((sub ar t p))).isSome)]) rfl ?_)
   exact ⟨rfl, rfl⟩
  refine gD (fun W Fs R lF z9 => ?_) ?_
  ·obtain ⟨e9, f9_1hr⟩ := z9 9 rfl
   have e10 : W 10 = (.tuple #[.agg #[((aggAt (tupAt (W 9) 0) 0))], .bool ((matchB ar ((rs.getD r ([], [])).1) ((sub ar t p))).isSome)] : Value) := z9 10 rfl
   rw [eS (l := [(9, (.tuple #[.agg #[((aggAt (tupAt (W 9) 0) 0))], .bool ((matchB ar ((rs.getD r ([], [])).1) ((sub ar t p))).isSome)])), (10, (.tuple #[.agg #[((aggAt (tupAt (W 9) 0) 0))], .bool ((matchB ar ((rs.getD r ([], [])).1) ((sub ar t p))).isSome)]))]) ⟨(e9).symm, e10, ⟨⟩⟩]
   refine qh (qT (.agg #[((aggAt (tupAt (W 9) 0) 0))]) rfl rfl ?_)
   exact ⟨rfl, rfl⟩
  refine gD (fun W Fs R lF z9 => ?_) ?_
  ·obtain ⟨e9, f9_1hr⟩ := z9 9 rfl
   have e10 : W 10 = (.tuple #[.agg #[((aggAt (tupAt (W 9) 0) 0))], .bool ((matchB ar ((rs.getD r ([], [])).1) ((sub ar t p))).isSome)] : Value) := z9 10 rfl
   rw [eS (l := [(9, (.tuple #[.agg #[((aggAt (tupAt (W 9) 0) 0))], .bool ((matchB ar ((rs.getD r ([], [])).1) ((sub ar t p))).isSome)])), (10, (.tuple #[.agg #[((aggAt (tupAt (W 9) 0) 0))], .bool ((matchB ar ((rs.getD r ([], [])).1) ((sub ar t p))).isSome)]))]) ⟨(e9).symm, e10, ⟨⟩⟩]
   refine qh (qT (.bool ((matchB ar ((rs.getD r ([], [])).1) ((sub ar t p))).isSome)) rfl rfl ?_)
   exact ⟨rfl, rfl⟩
  refine gD (fun W Fs R lF z9 => ?_) ?_
  ·replace har := har.mono lF
   replace ht := ht.mono lF
   replace ha2 := ha2.mono lF
   refine qh (jo [sN] jL rfl ?_)
   intro b4
   exact ⟨rfl, rfl⟩
  refine gD (fun W Fs R lF z9 => ?_) ?_
  ·obtain ⟨e9, f9_1hr⟩ := z9 9 rfl
   have e11 : W 11 = (.agg #[((aggAt (tupAt (W 9) 0) 0))] : Value) := z9 11 rfl
   have e13 : W 13 = ptr (blk (W 13)) 0 := z9 13 rfl
   replace har := har.mono lF
   replace ht := ht.mono lF
   replace ha2 := ha2.mono lF
   rw [eS (l := [(9, (.tuple #[.agg #[((aggAt (tupAt (W 9) 0) 0))], .bool ((matchB ar ((rs.getD r ([], [])).1) ((sub ar t p))).isSome)])), (11, (.agg #[((aggAt (tupAt (W 9) 0) 0))])), (13, ptr (blk (W 13)) 0)]) ⟨(e9).symm, e11, e13, ⟨⟩⟩]
   show XG _ _ _ _ _ (cellsH (blk (W 13)) [sN] 86 :: ([cellsH b2 [a1, a2] 136, cellsH b1 [arv, rsv] 66] ++ R)) _
   refine qh (jb [] _ [((aggAt (tupAt (W 9) 0) 0))] js rfl rfl rfl (qv (qZ (RowsF.isSl f9_1hr)) jf) rfl rfl rfl ?_)
   exact ⟨trivial, rfl⟩
  exact stepsG.nil
 intro W F4 le4 hphi
 obtain ⟨e8, f8_1ha⟩ := hphi 8 (by decide)
 obtain ⟨e9, f9_1hr⟩ := hphi 9 (by decide)
 have e10 : W 10 = (.tuple #[.agg #[((aggAt (tupAt (W 9) 0) 0))], .bool ((matchB ar ((rs.getD r ([], [])).1) ((sub ar t p))).isSome)] : Value) := hphi 10 (by decide)
 have e11 : W 11 = (.agg #[((aggAt (tupAt (W 9) 0) 0))] : Value) := hphi 11 (by decide)
 have e13 : W 13 = ptr (blk (W 13)) 0 := hphi 13 (by decide)
 generalize hu1 : ((W 8)) = u1 at e8 f8_1ha e9 f9_1hr e10 e11 e13
 generalize hu2 : ((aggAt (tupAt (W 9) 0) 0)) = u2 at e8 f8_1ha e9 f9_1hr e10 e11 e13
 generalize hu3 : blk (W 13) = b5 at e8 f8_1ha e9 f9_1hr e10 e11 e13
 rw [eS (l := [(9, (.tuple #[.agg #[u2], .bool ((matchB ar ((rs.getD r ([], [])).1) ((sub ar t p))).isSome)])), (12, _), (13, ptr b5 0)]) ⟨(e9).symm, (hphi 12 (by decide)), e13, ⟨⟩⟩]
 replace har := har.mono le4
 replace ht := ht.mono le4
 replace ha2 := ha2.mono le4
 show XL _ _ _ _ _ _ _ (cellsH b5 [u2] 86 :: cellsH b2 [a1, a2] 136 :: cellsH b1 [arv, rsv] 66 :: L)
 refine qg (.bool ((matchB ar ((rs.getD r ([], [])).1) ((sub ar t p))).isSome)) rfl (qb (qc (qc (qa (qf (.bool ((matchB ar ((rs.getD r ([], [])).1) ((sub ar t p))).isSome)) rfl (cX (jp rfl (qb ?_))))))))
 refine X.cond (t := !((matchB ar ((rs.getD r ([], [])).1) ((sub ar t p))).isSome)) rfl (fun h1 => ?_) (fun h1 => ?_)
 ·have hms : (matchB ar (rs.getD r ([], [])).1 (sub ar t p)).isSome = false := by simpa using h1
  refine qc (qa (cX (qM (s := 1) [] [ii (0)] [] qd qo jk rfl (by decide) rfl CellsAre.nil rfl ?_)))
  intro v3 hv1
  refine qg (v3) rfl (qg (.bool (false)) rfl (qb ?_))
  show X _ _ _ _ _ _ (intsH 2 v3 ([] : List Int) :: cellsH b5 [u2] 86 :: cellsH b2 [a1, a2] 136 :: cellsH b1 [arv, rsv] 66 :: L)
  refine jA [] _ _ rfl (fun F5 le5 hz2 => ?_)
  replace har := har.mono le5
  replace ht := ht.mono le5
  replace ha2 := ha2.mono le5
  replace f9_1hr := f9_1hr.mono le5
  have hf2 : IntsF F5 v3 ([]) := intsH.fz (xs := []) hz2.fz
  refine qy (qk (qs (L' := L) [v3, .bool (false)] (.tuple #[v3, .bool (false)]) (.tmp rfl (.tmp rfl .nil)) rfl (qm le4 le5) rF (sD (sD (sD sR))) ?_))
  have hz := stepL_nomatch hms
  exact ⟨_, by rw [hz]; rfl, by rw [hz]; exact hf2, rfl⟩
 have hms : (matchB ar (rs.getD r ([], [])).1 (sub ar t p)).isSome = true := by simpa using h1
 refine qw (qc (qa (cX (qB [u2] isAgg86 js rfl rfl (Rd.ownN [] rfl rfl) (cX (qn (1) qQ rfl qr (by decide) rfl rfl (cX (qi qP rfl (Rd.own [_] rfl rfl) (cX (qt (args := [.agg #[u2], a2]) call48 rfl (l2Filled_spec f9_1hr ha2 (hsl := (by first | assumption | rfl | omega | simp)) (hsb := (fun i => by have := hmp2 i; omega)) (htl := (by first | assumption | rfl | omega | simp)) (htg := (fun k hk => by have := hRg k hk; omega))) ?_))))))))))
 rintro _ F6 _ le6 ⟨x3, rfl, hr5, rfl⟩
 replace har := har.mono le6
 replace ht := ht.mono le6
 refine qf (.tuple #[x3, .bool ((fillL (matchP ar ((rs.getD r ([], [])).1) ((sub ar t p))) ((rs.getD r ([], [])).2)).isSome)]) rfl (cX (qT (x3) rfl rfl (cX (qT (.bool ((fillL (matchP ar ((rs.getD r ([], [])).1) ((sub ar t p))) ((rs.getD r ([], [])).2)).isSome)) rfl rfl (qg (x3) rfl (qg (.bool ((fillL (matchP ar ((rs.getD r ([], [])).1) ((sub ar t p))) ((rs.getD r ([], [])).2)).isSome)) rfl (qb (qc (qc (qa (qf (.bool ((fillL (matchP ar ((rs.getD r ([], [])).1) ((sub ar t p))) ((rs.getD r ([], [])).2)).isSome)) rfl (cX (jp rfl (qb ?_))))))))))))))
 refine X.cond (t := !((fillL (matchP ar ((rs.getD r ([], [])).1) ((sub ar t p))) ((rs.getD r ([], [])).2)).isSome)) rfl (fun h2 => ?_) (fun h2 => ?_)
 ·have hfs : (fillL (matchP ar (rs.getD r ([], [])).1 (sub ar t p)) (rs.getD r ([], [])).2).isSome = false := by simpa using h2
  refine qc (qa (cX (qM (s := 1) [] [ii (0)] [] qd qo jk rfl (by decide) rfl CellsAre.nil rfl ?_)))
  intro v4 hv2
  refine qg (v4) rfl (qg (.bool (false)) rfl (qb ?_))
  show X _ _ _ _ _ _ (intsH 2 v4 ([] : List Int) :: cellsH b5 [u2] 86 :: cellsH b2 [a1, a2] 136 :: cellsH b1 [arv, rsv] 66 :: L)
  refine jA [] _ _ rfl (fun F7 le7 hz3 => ?_)
  replace har := har.mono le7
  replace ht := ht.mono le7
  replace hr5 := hr5.mono le7
  have hf3 : IntsF F7 v4 ([]) := intsH.fz (xs := []) hz3.fz
  refine qy (qk (qs (L' := L) [v4, .bool (false)] (.tuple #[v4, .bool (false)]) (.tmp rfl (.tmp rfl .nil)) rfl (qm (qm le4 le6) le7) rF (sD (sD (sD sR))) ?_))
  have hz := stepL_nofill hms hfs
  exact ⟨_, by rw [hz]; rfl, by rw [hz]; exact hf3, rfl⟩
 have hfs : (fillL (matchP ar (rs.getD r ([], [])).1 (sub ar t p)) (rs.getD r ([], [])).2).isSome = true := by simpa using h2
 have hfl := fill_getD_len hfs (by omega)
 refine qw (qc (qa (cX (qn (0) qH rfl qN (by decide) rfl rfl (cX (qB [arv] je qN rfl rfl (Rd.ownN [_, _] rfl rfl) (qf (tv) rfl (qf (ii ((p : Int))) rfl (qf (x3) rfl (cX (qt (args := [.agg #[arv], tv, ii (p : Int), x3]) call49 rfl (l3Put_spec (p := p) har ht hr5 (ho := (by first | assumption | rfl | omega | simp)) (hp := (by first | assumption | rfl | omega | simp)) (hul := (by first | assumption | rfl | omega | simp))) ?_)))))))))))
 rintro _ F8 _ le8 ⟨x4, rfl, hr6, rfl⟩
 refine cX (qT (x4) rfl rfl (cX (qT (.bool ((putL ar t p ((fillL (matchP ar ((rs.getD r ([], [])).1) ((sub ar t p))) ((rs.getD r ([], [])).2)).getD [])).isSome)) rfl rfl (qg (x4) rfl (qg (.bool ((putL ar t p ((fillL (matchP ar ((rs.getD r ([], [])).1) ((sub ar t p))) ((rs.getD r ([], [])).2)).getD [])).isSome)) rfl (qb (qy (qs (L' := L) [x4, .bool ((putL ar t p ((fillL (matchP ar ((rs.getD r ([], [])).1) ((sub ar t p))) ((rs.getD r ([], [])).2)).getD [])).isSome)] (.tuple #[x4, .bool ((putL ar t p ((fillL (matchP ar ((rs.getD r ([], [])).1) ((sub ar t p))) ((rs.getD r ([], [])).2)).getD [])).isSome)]) (.tmp rfl (.tmp rfl .nil)) rfl (qm (qm le4 le6) le8) rF (sD (sD (sD sR))) ?_))))))))
 have hz := stepL_put hms hfs
 exact ⟨_, by rw [hz], by rw [hz]; exact hr6, rfl⟩

/- laws.szInt64S -/
theorem szInt64S_spec {F : FH} {L : List HP} {xsv : Value} {xs : List Int} (hxs : IntsF F xsv xs) {z : Int} (hz : 0 ≤ z ∧ z ≤ 4000000) (hlx : xs.length ≤ 9223372036854775807) :
    Does prog 38 [xsv, ii (z)] F (L) (fun v F' L' => (ii (dec z xs.length) : Value) = v ∧ F = F' ∧ L = L') := by
 refine qD func38 rfl rfl rfl (qc (qa (qg (ii (0)) rfl (qb (qc (qa (qf (ii (z)) rfl (qf (xsv) rfl (cX (qC qd rfl hxs.slv (cX (qY (z - ((xs.length : Int))) rfl rfl (by omega) (by omega) (qg (ii (z - ((xs.length : Int)))) rfl (qb (qc (qc (qa ?_)))))))))))))))))
 refine qf (ii (z - ((xs.length : Int)))) rfl (cX (qL rfl rfl (qb ?_)))
 refine qx (p := (z - ((xs.length : Int)) : Int) < 0) rfl (fun h1 => ?_) (fun h1 => ?_)
 ·refine qc (qa (qg (ii (-1)) rfl (qb (qy (qk (qs (L' := L) [ii (-1)] (ii (-1)) (.tmp rfl .nil) rfl rF rF sR ?_))))))
  exact ⟨(vI (dec_neg (by omega))), rfl, rfl⟩
 refine qw (qc (qa (qf (ii (z - ((xs.length : Int)))) rfl (qg (ii (z - ((xs.length : Int)))) rfl (qb (qy (qs (L' := L) [ii (z - ((xs.length : Int)))] (ii (z - ((xs.length : Int)))) (.tmp rfl .nil) rfl rF rF sR ?_)))))))
 exact ⟨(vI (dec_pos (by omega))), rfl, rfl⟩

/- laws.szSig -/
theorem szSig_spec {F : FH} {L : List HP} {xsv : Value} {xs : List Int} (hxs : IntsF F xsv xs) {z : Int} (hz : 0 ≤ z ∧ z ≤ 4000000) (hlx : xs.length ≤ 9223372036854775807) :
    Does prog 37 [.agg #[xsv], ii (z)] F (L) (fun v F' L' => (ii (dec z xs.length) : Value) = v ∧ F = F' ∧ L = L') := by
 refine qD func37 rfl rfl rfl ?_
 have hdr := dec_range z xs.length
 refine qc (qa (cX (qV [xsv] rfl rfl ?_)))
 intro b1
 refine qg (ii (0)) rfl (qb (qc (qa (cX (qn (0) runUnderlying24 rfl qr (by decide) rfl rfl (cX (qi qP rfl (Rd.own [] rfl rfl) (qf (ii (z)) rfl (cX (qt (args := [xsv, ii (z)]) call38 rfl (szInt64S_spec (z := z) hxs (hz := (by first | assumption | rfl | omega | simp)) (hlx := (by first | assumption | rfl | omega | simp))) ?_))))))))))
 rintro _ _ _ _ ⟨rfl, rfl, rfl⟩
 refine qg (ii (dec z xs.length)) rfl (qb (qc (qc (qa (qf (ii (dec z xs.length)) rfl (cX (qL rfl rfl (qb ?_))))))))
 refine qx (p := (dec z xs.length : Int) < 0) rfl (fun h1 => ?_) (fun h1 => ?_)
 ·refine qc (qa (qg (ii (-1)) rfl (qb (qy (qk (qs (L' := L) [ii (-1)] (ii (-1)) (.tmp rfl .nil) rfl rF rF (sD sR) ?_))))))
  exact ⟨(vI (by omega)), rfl, rfl⟩
 refine qw (qc (qa (qf (ii (dec z xs.length)) rfl (qg (ii (dec z xs.length)) rfl (qb (qy (qs (L' := L) [ii (dec z xs.length)] (ii (dec z xs.length)) (.tmp rfl .nil) rfl rF rF (sD sR) ?_)))))))
 exact ⟨rfl, rfl, rfl⟩

/- laws.szRule -/
theorem szRule_spec {F : FH} {L : List HP} {lv : Value} {l : List Int} (hl : IntsF F lv l) {rv : Value} {r : List Int} (hr : IntsF F rv r) {z : Int} (hz : 0 ≤ z ∧ z ≤ 4000000) (hll : l.length ≤ 9223372036854775807) (hlr : r.length ≤ 9223372036854775807) :
    Does prog 144 [.agg #[lv, rv], ii (z)] F (L) (fun v F' L' => (ii (dec z (l.length + r.length)) : Value) = v ∧ F = F' ∧ L = L') := by
 refine qD func144 rfl rfl rfl ?_
 have hdr := dec_range z l.length
 refine qc (qa (cX (qV [lv, rv] rfl rfl ?_)))
 intro b1
 refine qg (ii (0)) rfl (qb (qc (qa (cX (qn (0) runUnderlying190 rfl qr (by decide) rfl rfl (cX (qi qP rfl (Rd.own [] rfl rfl) (qf (ii (z)) rfl (cX (qt (args := [lv, ii (z)]) call38 rfl (szInt64S_spec (z := z) hl (hz := (by first | assumption | rfl | omega | simp)) (hlx := (by first | assumption | rfl | omega | simp))) ?_))))))))))
 rintro _ _ _ _ ⟨rfl, rfl, rfl⟩
 refine qg (ii (dec z l.length)) rfl (qb (qc (qc (qa (qf (ii (dec z l.length)) rfl (cX (qL rfl rfl (qb ?_))))))))
 refine qx (p := (dec z l.length : Int) < 0) rfl (fun h1 => ?_) (fun h1 => ?_)
 ·refine qc (qa (qg (ii (-1)) rfl (qb (qy (qk (qs (L' := L) [ii (-1)] (ii (-1)) (.tmp rfl .nil) rfl rF rF (sD sR) ?_))))))
  exact ⟨(vI (dec_out (by omega))), rfl, rfl⟩
 refine qw (qc (qa (cX (qn (1) runUnderlying190 rfl qr (by decide) rfl rfl (cX (qi qP rfl (Rd.own [] rfl rfl) (qf (ii (dec z l.length)) rfl (cX (qt (args := [rv, ii (dec z l.length)]) call38 rfl (szInt64S_spec (z := dec z l.length) hr (hz := (by first | assumption | rfl | omega | simp)) (hlx := (by first | assumption | rfl | omega | simp))) ?_)))))))))
 rintro _ _ _ _ ⟨rfl, rfl, rfl⟩
 refine qg (ii (dec (dec z l.length) r.length)) rfl (qb (qc (qc (qa (qf (ii (dec (dec z l.length) r.length)) rfl (cX (qL rfl rfl (qb ?_))))))))
 refine qx (p := (dec (dec z l.length) r.length : Int) < 0) rfl (fun h2 => ?_) (fun h2 => ?_)
 ·refine qc (qa (qg (ii (-1)) rfl (qb (qy (qk (qs (L' := L) [ii (-1)] (ii (-1)) (.tmp rfl .nil) rfl rF rF (sD sR) ?_))))))
  exact ⟨(vI (by rw [← dec_dec (by omega)]; have := (dec_range (dec z l.length) r.length).1; omega)), rfl, rfl⟩
 refine qw (qc (qa (qf (ii (dec (dec z l.length) r.length)) rfl (qg (ii (dec (dec z l.length) r.length)) rfl (qb (qy (qs (L' := L) [ii (dec (dec z l.length) r.length)] (ii (dec (dec z l.length) r.length)) (.tmp rfl .nil) rfl rF rF (sD sR) ?_)))))))
 exact ⟨(vI ((dec_dec (by omega)).symm)), rfl, rfl⟩

/- laws.eqSig -/
theorem eqSig_spec {F : FH} {L : List HP} {av : Value} {a : List Int} (ha : IntsF F av a) {bv : Value} {b : List Int} (hb : IntsF F bv b) (hbd : a.length ≤ 9223372036854775807 ∨ b.length ≤ 9223372036854775807) :
    Does prog 61 [.agg #[av], .agg #[bv]] F (L) (fun v F' L' => (.bool (decide (a = b)) : Value) = v ∧ F = F' ∧ L = L') := by
 refine qD func61 rfl rfl rfl (qc (qa (cX (qV [av] rfl rfl ?_))))
 intro b1
 refine cX (qV [bv] rfl rfl ?_)
 intro b2
 refine qg (.bool (false)) rfl (qb (qc (qc (qa (cX (qn (0) jC rfl qr (by decide) rfl rfl (cX (qi qP rfl (Rd.own [_] rfl rfl) (cX (qn (0) jC rfl qr (by decide) rfl rfl (cX (qi qP rfl (Rd.own [] rfl rfl) (cX (qt (args := [av, bv]) call12 rfl (eqInt64S_spec ha hb (hbd := (by first | assumption | rfl | omega | (left; simp; done) | (right; simp; done)))) ?_))))))))))))))
 rintro _ _ _ _ ⟨rfl, rfl, rfl⟩
 refine cX (jN rfl (qb ?_))
 refine qx (p := ¬(a = b)) rfl (fun h1 => ?_) (fun h1 => ?_)
 ·refine qc (qa (qg (.bool (false)) rfl (qb (qy (qk (qs (L' := L) [.bool (false)] (.bool (false)) (.tmp rfl .nil) rfl rF rF (sD (sD sR)) ?_))))))
  exact ⟨(vB (decide_eq_false (by assumption))), rfl, rfl⟩
 refine qw (qc (qa (qg (.bool (true)) rfl (qb (qy (qs (L' := L) [.bool (true)] (.bool (true)) (.tmp rfl .nil) rfl rF rF (sD (sD sR)) ?_))))))
 exact ⟨(vB (decide_eq_true (by first | assumption | exact Classical.not_not.1 (by assumption)))), rfl, rfl⟩

/- laws.eqRule -/
theorem eqRule_spec {F : FH} {L : List HP} {av : Value} {a : List Int} (ha : IntsF F av a) {bv : Value} {b : List Int} (hb : IntsF F bv b) {cv : Value} {c : List Int} (hc : IntsF F cv c) {dv : Value} {d : List Int} (hd : IntsF F dv d) (hbd : a.length ≤ 9223372036854775807 ∨ c.length ≤ 9223372036854775807) (hbe : b.length ≤ 9223372036854775807 ∨ d.length ≤ 9223372036854775807) :
    Does prog 157 [.agg #[av, bv], .agg #[cv, dv]] F (L) (fun v F' L' => (.bool (decide ((a, b) = (c, d))) : Value) = v ∧ F = F' ∧ L = L') := by
 refine qD func157 rfl rfl rfl (qc (qa (cX (qV [av, bv] rfl rfl ?_))))
 intro b1
 refine cX (qV [cv, dv] rfl rfl ?_)
 intro b2
 refine qg (.bool (false)) rfl (qb (qc (qc (qa (cX (qn (0) qQ rfl qr (by decide) rfl rfl (cX (qi qP rfl (Rd.own [_] rfl rfl) (cX (qn (0) qQ rfl qr (by decide) rfl rfl (cX (qi qP rfl (Rd.own [] rfl rfl) (cX (qt (args := [av, cv]) call12 rfl (eqInt64S_spec ha hc (hbd := (by first | assumption | rfl | omega | (left; simp; done) | (right; simp; done)))) ?_))))))))))))))
 rintro _ _ _ _ ⟨rfl, rfl, rfl⟩
 refine cX (jN rfl (qb ?_))
 refine qx (p := ¬(a = c)) rfl (fun h1 => ?_) (fun h1 => ?_)
 ·refine qc (qa (qg (.bool (false)) rfl (qb (qy (qk (qs (L' := L) [.bool (false)] (.bool (false)) (.tmp rfl .nil) rfl rF rF (sD (sD sR)) ?_))))))
  exact ⟨(vB (decide_eq_false (by intro e; simp_all))), rfl, rfl⟩
 refine qw (qc (qc (qa (cX (qn (1) qQ rfl qr (by decide) rfl rfl (cX (qi qP rfl (Rd.own [_] rfl rfl) (cX (qn (1) qQ rfl qr (by decide) rfl rfl (cX (qi qP rfl (Rd.own [] rfl rfl) (cX (qt (args := [bv, dv]) call12 rfl (eqInt64S_spec hb hd (hbd := (by first | assumption | rfl | omega | (left; simp; done) | (right; simp; done)))) ?_)))))))))))))
 rintro _ _ _ _ ⟨rfl, rfl, rfl⟩
 refine cX (jN rfl (qb ?_))
 refine qx (p := ¬(b = d)) rfl (fun h2 => ?_) (fun h2 => ?_)
 ·refine qc (qa (qg (.bool (false)) rfl (qb (qy (qk (qs (L' := L) [.bool (false)] (.bool (false)) (.tmp rfl .nil) rfl rF rF (sD (sD sR)) ?_))))))
  exact ⟨(vB (decide_eq_false (by intro e; simp_all))), rfl, rfl⟩
 refine qw (qc (qa (qg (.bool (true)) rfl (qb (qy (qs (L' := L) [.bool (true)] (.bool (true)) (.tmp rfl .nil) rfl rF rF (sD (sD sR)) ?_))))))
 exact ⟨(vB (decide_eq_true (by simp_all))), rfl, rfl⟩

/- laws.szRuleS -/
theorem szRuleS_spec {F : FH} {L : List HP} {rsv : Value} {rs : List (List Int × List Int)} (hrs : PairsF F rsv rs) {z : Int} (hz : 0 ≤ z ∧ z ≤ 4000000) (hrl : rs.length ≤ 9223372036854775807) (hrb : ∀ i, i < rs.length → (rs.getD i ([], [])).1.length ≤ 9223372036854775807 ∧ (rs.getD i ([], [])).2.length ≤ 9223372036854775807) :
    Does prog 77 [rsv, ii (z)] F (L) (fun v F' L' => (ii (dec z (szR rs)) : Value) = v ∧ F = F' ∧ L = L') := by
 refine qD func77 rfl rfl rfl (qc (qa (qg (ii (0)) rfl (qb (qc (qa (qf (ii (z)) rfl (qf (rsv) rfl (cX (qC runUnderlying60 rfl hrs.slv (cX (qY (z - ((rs.length : Int))) rfl rfl (by omega) (by omega) (qg (ii (z - ((rs.length : Int)))) rfl (qb (qc (qc (qa ?_)))))))))))))))))
 refine qf (ii (z - ((rs.length : Int)))) rfl (cX (qL rfl rfl (qb ?_)))
 refine qx (p := (z - ((rs.length : Int)) : Int) < 0) rfl (fun h1 => ?_) (fun h1 => ?_)
 ·refine qc (qa (qg (ii (-1)) rfl (qb (qy (qk (qs (L' := L) [ii (-1)] (ii (-1)) (.tmp rfl .nil) rfl rF rF sR ?_))))))
  exact ⟨(vI (dec_mono (n := rs.length) (by rw [dec_neg (by omega)]; omega) (by unfold szR; omega))), rfl, rfl⟩
 refine qw (qc (qc (qa (qg (ii (0)) rfl (qb (qF (jj (α := Nat) (fun k => [(0, rsv), (1, ii (dec z (rs.length + szTo rs k))), (5, ii ((k : Int)))]) (fun k => L) (fun k F' => F = F' ∧ (k ≤ rs.length) ∧ (0 ≤ dec z (rs.length + szTo rs k))) (fun k => rs.length - k) 0 ⟨rfl, (vI (by show z - rs.length = dec z (rs.length + 0); rw [Nat.add_zero, dec_pos (by omega)])), rfl, ⟨⟩⟩ sR ⟨rfl, (by (try dsimp only) <;> omega), (by show 0 ≤ dec z (rs.length + 0); rw [Nat.add_zero, dec_pos (by omega)]; omega)⟩ ?_)))))))
 rintro k rE _ _ ⟨rfl, hk, hnn⟩
 show X _ _ _ _ (envs [(0, rsv), (1, ii (dec z (rs.length + szTo rs k))), (5, ii ((k : Int)))] rE) _ (L)
 have hdr := dec_range z (rs.length + szTo rs k)
 have hrk := hrb k
 refine qc (qc (qa (qf (ii ((k : Int))) rfl (qf (rsv) rfl (cX (qC runUnderlying60 rfl hrs.slv (cX (qL rfl rfl (qb ?_)))))))))
 refine qx (p := (k : Int) < (rs.length : Int)) rfl (fun h2 => ?_) (fun h2 => ?_)
 ·refine qw (qc (qF (qc (qa (qf (rsv) rfl (qf (ii ((k : Int))) rfl (cX (ql k runUnderlying60 sizeOf190 rfl rfl rfl hrs.slv (by omega) rfl ?_))))))))
  obtain ⟨a1, a2, ha1, ha2, hr1, hr2⟩ := hrs.rd (i := k) (by omega)
  refine cX (qB [a1, a2] isAgg190 sizeOf190 rfl rfl (Rd.two (hr1 _) (hr2 _)) (qf (ii (dec z (rs.length + szTo rs k))) rfl (cX (qt (args := [.agg #[a1, a2], ii (dec z (rs.length + szTo rs k))]) call144 rfl (szRule_spec (z := dec z (rs.length + szTo rs k)) ha1 ha2 (hz := (by first | assumption | rfl | omega | simp)) (hll := (by first | assumption | rfl | omega | simp)) (hlr := (by first | assumption | rfl | omega | simp))) ?_))))
  rintro _ _ _ _ ⟨rfl, rfl, rfl⟩
  refine qg (ii (dec (dec z (rs.length + szTo rs k)) (((rs.getD k ([], [])).1).length + ((rs.getD k ([], [])).2).length))) rfl (qb (qc (qa (qf (ii (dec (dec z (rs.length + szTo rs k)) (((rs.getD k ([], [])).1).length + ((rs.getD k ([], [])).2).length))) rfl (cX (qL rfl rfl (qb ?_)))))))
  refine qx (p := (dec (dec z (rs.length + szTo rs k)) (((rs.getD k ([], [])).1).length + ((rs.getD k ([], [])).2).length) : Int) < 0) rfl (fun h3 => ?_) (fun h3 => ?_)
  ·refine qc (qa (qg (ii (-1)) rfl (qb (qy (qz (qk (qk (qz (qk (qs (L' := L) [ii (-1)] (ii (-1)) (.tmp rfl .nil) rfl rF rF sR ?_))))))))))
   exact ⟨(vI (by have h9 := szTo_le (rs := rs) (k + 1) rs.length (by omega) (Nat.le_refl _); refine dec_mono (n := rs.length + szTo rs (k + 1)) ?_ (by unfold szR; omega); rw [← szTo_succ (by omega), ← Nat.add_assoc, ← dec_dec (by omega)]; omega)), rfl, rfl⟩
  refine qw (qa (qf (ii ((k : Int))) rfl (cX (qI (((k + 1 : Nat) : Int)) rfl rfl (by omega) (by omega) (qg (ii (((k + 1 : Nat) : Int))) rfl (qb ?_))))))
  exact ⟨k + 1, _, FLe.refl _, rF, ⟨rfl, (vI (by rw [dec_dec (by omega), Nat.add_assoc, szTo_succ (by omega)])), rfl, ⟨⟩⟩, sR, ⟨rfl, (by (try dsimp only) <;> omega), (by (try dsimp only); rw [← szTo_succ (by omega), ← Nat.add_assoc, ← dec_dec (by omega)]; omega)⟩, (by omega)⟩
 refine ja (qu (qu (qJ (qc (qa (qf (ii (dec z (rs.length + szTo rs k))) rfl (qg (ii (dec z (rs.length + szTo rs k))) rfl (qb (qy (qs (L' := L) [ii (dec z (rs.length + szTo rs k))] (ii (dec z (rs.length + szTo rs k))) (.tmp rfl .nil) rfl rF rF sR ?_))))))))))
 exact ⟨(vI (by rw [szR, show k = rs.length from by omega])), rfl, rfl⟩

/- laws.szSystem -/
theorem szSystem_spec {F : FH} {L : List HP} {arv : Value} {ar : List Int} (har : IntsF F arv ar) {rsv : Value} {rs : List (List Int × List Int)} (hrs : PairsF F rsv rs) {z : Int} (hz : 0 ≤ z ∧ z ≤ 4000000) (hal : ar.length ≤ 9223372036854775807) (hrl : rs.length ≤ 9223372036854775807) (hrb : ∀ i, i < rs.length → (rs.getD i ([], [])).1.length ≤ 9223372036854775807 ∧ (rs.getD i ([], [])).2.length ≤ 9223372036854775807) :
    Does prog 25 [.agg #[arv, rsv], ii (z)] F (L) (fun v F' L' => (ii (dec z (ar.length + szR rs)) : Value) = v ∧ F = F' ∧ L = L') := by
 refine qD func25 rfl rfl rfl ?_
 have hdr := dec_range z ar.length
 refine qc (qa (cX (qV [arv, rsv] rfl rfl ?_)))
 intro b1
 refine qg (ii (0)) rfl (qb (qc (qa (cX (qn (0) runUnderlying62 rfl sizeOf24 (by decide) rfl rfl (cX (qB [arv] isAgg24 sizeOf24 rfl rfl (Rd.ownN [] rfl rfl) (qf (ii (z)) rfl (cX (qt (args := [.agg #[arv], ii (z)]) call37 rfl (szSig_spec (z := z) har (hz := (by first | assumption | rfl | omega | simp)) (hlx := (by first | assumption | rfl | omega | simp))) ?_))))))))))
 rintro _ _ _ _ ⟨rfl, rfl, rfl⟩
 refine qg (ii (dec z ar.length)) rfl (qb (qc (qc (qa (qf (ii (dec z ar.length)) rfl (cX (qL rfl rfl (qb ?_))))))))
 refine qx (p := (dec z ar.length : Int) < 0) rfl (fun h1 => ?_) (fun h1 => ?_)
 ·refine qc (qa (qg (ii (-1)) rfl (qb (qy (qk (qs (L' := L) [ii (-1)] (ii (-1)) (.tmp rfl .nil) rfl rF rF (sD sR) ?_))))))
  exact ⟨(vI (dec_out (by omega))), rfl, rfl⟩
 refine qw (qc (qa (cX (qn (1) runUnderlying62 rfl sizeOf60 (by decide) rfl rfl (cX (qi isAgg60 rfl (Rd.own [] rfl rfl) (qf (ii (dec z ar.length)) rfl (cX (qt (args := [rsv, ii (dec z ar.length)]) call77 rfl (szRuleS_spec (z := dec z ar.length) hrs (hz := (by first | assumption | rfl | omega | simp)) (hrl := (by first | assumption | rfl | omega | simp)) (hrb := (by first | assumption | rfl | omega | simp))) ?_)))))))))
 rintro _ _ _ _ ⟨rfl, rfl, rfl⟩
 refine qg (ii (dec (dec z ar.length) (szR rs))) rfl (qb (qc (qc (qa (qf (ii (dec (dec z ar.length) (szR rs))) rfl (cX (qL rfl rfl (qb ?_))))))))
 refine qx (p := (dec (dec z ar.length) (szR rs) : Int) < 0) rfl (fun h2 => ?_) (fun h2 => ?_)
 ·refine qc (qa (qg (ii (-1)) rfl (qb (qy (qk (qs (L' := L) [ii (-1)] (ii (-1)) (.tmp rfl .nil) rfl rF rF (sD sR) ?_))))))
  exact ⟨(vI (by rw [← dec_dec (by omega)]; have := (dec_range (dec z ar.length) (szR rs)).1; omega)), rfl, rfl⟩
 refine qw (qc (qa (qf (ii (dec (dec z ar.length) (szR rs))) rfl (qg (ii (dec (dec z ar.length) (szR rs))) rfl (qb (qy (qs (L' := L) [ii (dec (dec z ar.length) (szR rs))] (ii (dec (dec z ar.length) (szR rs))) (.tmp rfl .nil) rfl rF rF (sD sR) ?_)))))))
 exact ⟨(vI ((dec_dec (by omega)).symm)), rfl, rfl⟩

/- laws.eqRuleS -/
theorem eqRuleS_spec {F : FH} {L : List HP} {av : Value} {a : List (List Int × List Int)} (ha : PairsF F av a) {bv : Value} {b : List (List Int × List Int)} (hb : PairsF F bv b) (hal : a.length ≤ 9223372036854775807) (hbd : ∀ i, i < a.length → (a.getD i ([], [])).1.length ≤ 9223372036854775807 ∧ (a.getD i ([], [])).2.length ≤ 9223372036854775807) :
    Does prog 85 [av, bv] F (L) (fun v F' L' => (.bool (decide (a = b)) : Value) = v ∧ F = F' ∧ L = L') := by
 refine qD func85 rfl rfl rfl (qc (qa (qg (.bool (false)) rfl (qb (qc (qc (qa (qf (av) rfl (cX (qC qU rfl ha.slv (qf (bv) rfl (cX (qC qU rfl hb.slv (cX (XOp.neq rfl rfl (qb ?_))))))))))))))))
 refine qx (p := ((a.length : Int) : Int) ≠ (b.length : Int)) rfl (fun h1 => ?_) (fun h1 => ?_)
 ·refine qc (qa (qg (.bool (false)) rfl (qb (qy (qk (qs (L' := L) [.bool (false)] (.bool (false)) (.tmp rfl .nil) rfl rF rF sR ?_))))))
  exact ⟨(vB (decide_eq_false (fun e => by rw [e] at h1; omega))), rfl, rfl⟩
 refine qw (qc (qc (qa (qg (ii (0)) rfl (qb (qF (jj (α := Nat) (fun k => [(0, av), (1, bv), (5, ii ((k : Int)))]) (fun k => L) (fun k F' => F = F' ∧ (k ≤ a.length) ∧ (∀ i, i < k → a.getD i ([], []) = b.getD i ([], []))) (fun k => a.length - k) 0 ⟨rfl, rfl, rfl, ⟨⟩⟩ sR ⟨rfl, (by (try dsimp only) <;> omega), (fun i hi => absurd hi (by omega))⟩ ?_)))))))
 rintro k rE _ _ ⟨rfl, hk, hall⟩
 show X _ _ _ _ (envs [(0, av), (1, bv), (5, ii ((k : Int)))] rE) _ (L)
 have hbk := hbd k
 refine qc (qc (qa (qf (ii ((k : Int))) rfl (qf (av) rfl (cX (qC qU rfl ha.slv (cX (qL rfl rfl (qb ?_)))))))))
 refine qx (p := (k : Int) < (a.length : Int)) rfl (fun h2 => ?_) (fun h2 => ?_)
 ·refine qw (qc (qF (qc ?_)))
  obtain ⟨a1, a2, ha1, ha2, hr1, hr2⟩ := ha.rd (i := k) (by omega)
  obtain ⟨a3, a4, ha3, ha4, hr3, hr4⟩ := hb.rd (i := k) (by omega)
  refine jn [] L 8 [] [[], [], [0, 1], [2], [], [], [4, 5], [6]] (phiL [qe av, qe (ii ((k : Int)) : Value), qe (.pointer (some (elemA av (k * 2)))), qe (.agg #[a1, a2]), qe bv, qe (ii ((k : Int)) : Value), qe (.pointer (some (elemA bv (k * 2)))), qe (.agg #[a3, a4])]) (ownL []) mixed rfl rfl (by kernel_rfl) ?_ ?_
  ·refine pD (fun W R z9 => ?_) ?_
   ·refine qh (qj (av) rfl ?_)
    exact ⟨rfl, rfl, rfl⟩
   refine pD (fun W R z9 => ?_) ?_
   ·refine qh (qj (ii ((k : Int))) rfl ?_)
    exact ⟨rfl, rfl, rfl⟩
   refine pD (fun W R z9 => ?_) ?_
   ·rw [eS (l := [(0, _), (1, _)]) ⟨z9 0 rfl, z9 1 rfl, ⟨⟩⟩]
    refine qh (ql k qU jh rfl rfl rfl ha.slv (by omega) rfl ?_)
    exact ⟨rfl, rfl, rfl⟩
   refine pD (fun W R z9 => ?_) ?_
   ·rw [eS (l := [(2, _)]) ⟨z9 2 rfl, ⟨⟩⟩]
    refine qh (qB [a1, a2] isAgg136 jh rfl rfl (Rd.two (hr1 _) (hr2 _)) ?_)
    exact ⟨rfl, rfl, rfl⟩
   refine pD (fun W R z9 => ?_) ?_
   ·refine qh (qj (bv) rfl ?_)
    exact ⟨rfl, rfl, rfl⟩
   refine pD (fun W R z9 => ?_) ?_
   ·refine qh (qj (ii ((k : Int))) rfl ?_)
    exact ⟨rfl, rfl, rfl⟩
   refine pD (fun W R z9 => ?_) ?_
   ·rw [eS (l := [(4, _), (5, _)]) ⟨z9 4 rfl, z9 5 rfl, ⟨⟩⟩]
    refine qh (ql k qU jh rfl rfl rfl hb.slv (by omega) rfl ?_)
    exact ⟨rfl, rfl, rfl⟩
   refine pD (fun W R z9 => ?_) ?_
   ·rw [eS (l := [(6, _)]) ⟨z9 6 rfl, ⟨⟩⟩]
    refine qh (qB [a3, a4] isAgg136 jh rfl rfl (Rd.two (hr3 _) (hr4 _)) ?_)
    exact ⟨rfl, rfl, rfl⟩
   exact stepsP.nil
  intro W hphi
  rw [eS (l := [(3, _), (7, _)]) ⟨(hphi 3 (by decide)), (hphi 7 (by decide)), ⟨⟩⟩]
  show XL _ _ _ _ _ _ _ (L)
  refine cX (qt (args := [.agg #[a1, a2], .agg #[a3, a4]]) call157 rfl (eqRule_spec ha1 ha2 ha3 ha4 (hbd := (.inl (hbk (by omega)).1)) (hbe := (.inl (hbk (by omega)).2))) ?_)
  rintro _ _ _ _ ⟨rfl, rfl, rfl⟩
  refine cX (jN rfl (qb ?_))
  refine qx (p := ¬((((a.getD k ([], [])).1), ((a.getD k ([], [])).2)) = (((b.getD k ([], [])).1), ((b.getD k ([], [])).2)))) rfl (fun h3 => ?_) (fun h3 => ?_)
  ·refine qc (qa (qg (.bool (false)) rfl (qb (qy (qz (qk (qk (qz (qk (qs (L' := L) [.bool (false)] (.bool (false)) (.tmp rfl .nil) rfl rF rF sR ?_))))))))))
   exact ⟨(vB (decide_eq_false (fun e => by subst e; simp at *))), rfl, rfl⟩
  refine qw (qa (qf (ii ((k : Int))) rfl (cX (qI (((k + 1 : Nat) : Int)) rfl rfl (by omega) (by omega) (qg (ii (((k + 1 : Nat) : Int))) rfl (qb ?_))))))
  exact ⟨k + 1, _, FLe.refl _, rF, ⟨rfl, rfl, rfl, ⟨⟩⟩, sR, ⟨rfl, (by (try dsimp only) <;> omega), (fun i hi => (Nat.lt_or_ge i k).elim (fun h => hall i h) (fun h => by obtain rfl : i = k := (by omega); first | assumption | exact Classical.not_not.1 (by assumption)))⟩, (by omega)⟩
 refine ja (qu (qu (qJ (qc (qa (qg (.bool (true)) rfl (qb (qy (qs (L' := L) [.bool (true)] (.bool (true)) (.tmp rfl .nil) rfl rF rF sR ?_)))))))))
 exact ⟨(vB (decide_eq_true (ext_pair (by omega) (fun i hi => hall i (by omega))))), rfl, rfl⟩

/- laws.eqSystem -/
theorem eqSystem_spec {F : FH} {L : List HP} {cv : Value} {c : List Int} (hc : IntsF F cv c) {av : Value} {a : List (List Int × List Int)} (ha : PairsF F av a) {dv : Value} {d : List Int} (hd : IntsF F dv d) {bv : Value} {b : List (List Int × List Int)} (hb : PairsF F bv b) (hcl : c.length ≤ 9223372036854775807) (hal : a.length ≤ 9223372036854775807) (hbd : ∀ i, i < a.length → (a.getD i ([], [])).1.length ≤ 9223372036854775807 ∧ (a.getD i ([], [])).2.length ≤ 9223372036854775807) :
    Does prog 29 [.agg #[cv, av], .agg #[dv, bv]] F (L) (fun v F' L' => (.bool (decide (c = d ∧ a = b)) : Value) = v ∧ F = F' ∧ L = L') := by
 refine qD func29 rfl rfl rfl (qc (qa (cX (qV [cv, av] rfl rfl ?_))))
 intro b1
 refine cX (qV [dv, bv] rfl rfl ?_)
 intro b2
 refine qg (.bool (false)) rfl (qb (qc (qc (qa (cX (qn (0) qH rfl qN (by decide) rfl rfl (cX (qB [cv] je qN rfl rfl (Rd.ownN [_] rfl rfl) (cX (qn (0) qH rfl qN (by decide) rfl rfl (cX (qB [dv] je qN rfl rfl (Rd.ownN [] rfl rfl) (cX (qt (args := [.agg #[cv], .agg #[dv]]) call61 rfl (eqSig_spec hc hd (hbd := (.inl hcl))) ?_))))))))))))))
 rintro _ _ _ _ ⟨rfl, rfl, rfl⟩
 refine cX (jN rfl (qb ?_))
 refine qx (p := ¬(c = d)) rfl (fun h1 => ?_) (fun h1 => ?_)
 ·refine qc (qa (qg (.bool (false)) rfl (qb (qy (qk (qs (L' := L) [.bool (false)] (.bool (false)) (.tmp rfl .nil) rfl rF rF (sD (sD sR)) ?_))))))
  exact ⟨(vB (decide_eq_false (by intro e; simp_all))), rfl, rfl⟩
 refine qw (qc (qc (qa (cX (qn (1) qH rfl jx (by decide) rfl rfl (cX (qi jG rfl (Rd.own [_] rfl rfl) (cX (qn (1) qH rfl jx (by decide) rfl rfl (cX (qi jG rfl (Rd.own [] rfl rfl) (cX (qt (args := [av, bv]) call85 rfl (eqRuleS_spec ha hb (hal := (by first | assumption | rfl | omega | simp)) (hbd := (by first | assumption | rfl | omega | simp))) ?_)))))))))))))
 rintro _ _ _ _ ⟨rfl, rfl, rfl⟩
 refine cX (jN rfl (qb ?_))
 refine qx (p := ¬(a = b)) rfl (fun h2 => ?_) (fun h2 => ?_)
 ·refine qc (qa (qg (.bool (false)) rfl (qb (qy (qk (qs (L' := L) [.bool (false)] (.bool (false)) (.tmp rfl .nil) rfl rF rF (sD (sD sR)) ?_))))))
  exact ⟨(vB (decide_eq_false (by intro e; simp_all))), rfl, rfl⟩
 refine qw (qc (qa (qg (.bool (true)) rfl (qb (qy (qs (L' := L) [.bool (true)] (.bool (true)) (.tmp rfl .nil) rfl rF rF (sD (sD sR)) ?_))))))
 exact ⟨(vB (decide_eq_true (by simp_all))), rfl, rfl⟩

/- laws.toInt64S -/
theorem toInt64S_spec {F : FH} {L : List HP} {xsv : Value} {xs : List Int} (hxs : IntsF F xsv xs) (hlx : xs.length ≤ 4000000) :
    Does prog 10 [xsv] F (L) (fun v F' L' => F = F' ∧ IsSl v ∧ intsH 2 v xs :: L = L') := by
 refine qD func10 rfl rfl rfl (qc (qa (qg (sN) rfl (qb (qc (qa (qf (xsv) rfl (cX (qC qd rfl hxs.slv (cX (XOp.makeSlice (n := (xs).length) (bytes := 8) [ii (0)] qd qo typeInfo2 rfl jk rfl rfl rfl rfl (by omega) (by omega) ?_)))))))))))
 intro v1 hv1
 rw [intsH_zeros]
 refine qg (v1) rfl (qb (qc (qc (qa (qg (ii (0)) rfl (qb (qF (jj (α := Nat × List Int) (fun xQ => [(0, xsv), (3, v1), (4, ii (((xQ.1 : Nat) : Int)))]) (fun xQ => intsH 2 v1 xQ.2 :: L) (fun xQ F' => F = F' ∧ (xQ.1 ≤ xs.length) ∧ (xQ.2.length = xs.length) ∧ (xQ.2.take xQ.1 = xs.take xQ.1)) (fun xQ => xs.length - xQ.1) (0, (List.replicate xs.length 0)) ⟨rfl, rfl, rfl, ⟨⟩⟩ (sC sR) ⟨rfl, (by (try dsimp only) <;> omega), (by simp), (rfl)⟩ ?_))))))))
 rintro ⟨k, os⟩ rE _ _ ⟨rfl, hk, hol, hos⟩
 show X _ _ _ _ (envs [(0, xsv), (3, v1), (4, ii ((k : Int)))] rE) _ (intsH 2 v1 os :: L)
 dsimp only at hk hol hos
 refine qc (qc (qa (qf (ii ((k : Int))) rfl (qf (xsv) rfl (cX (qC qd rfl hxs.slv (cX (qL rfl rfl (qb ?_)))))))))
 refine qx (p := (k : Int) < (xs.length : Int)) rfl (fun h1 => ?_) (fun h1 => ?_)
 ·refine qw (qc (qF (qa (qf (v1) rfl (qf (ii ((k : Int))) rfl (qf (xsv) rfl (qf (ii ((k : Int))) rfl (cX (ql k qd qo rfl rfl rfl hxs.slv (by omega) (Nat.mul_one _) (cX (qi qK rfl (hxs.rd (by omega)) (cX (ql k qd qo rfl rfl rfl (intsH.slv [] rfl) (by omega) (Nat.mul_one _) (cX (intsH.storeX (i := k) (v := v1) [] _ (os.set k (xs.getD k 0)) qo rfl rfl rfl (by omega) rfl (qb (qa ?_)))))))))))))))))
  refine qf (ii ((k : Int))) rfl (cX (qI (((k + 1 : Nat) : Int)) rfl rfl (by omega) (by omega) (qg (ii (((k + 1 : Nat) : Int))) rfl (qb ?_))))
  exact ⟨(k + 1, (os.set k (xs.getD k 0))), _, FLe.refl _, rF, ⟨rfl, rfl, rfl, ⟨⟩⟩, (sC sR), ⟨rfl, (by (try dsimp only) <;> omega), (by dsimp only; rw [List.length_set]; exact hol), (by dsimp only; rw [take_set_next (by omega) (by omega), hos, take_succ_getD 0 (by omega)])⟩, (by omega)⟩
 refine ja (qu (qu (qJ (qc (qa (qf (v1) rfl (qg (v1) rfl (qb (qy (qs (L' := intsH 2 v1 os :: L) [v1] (v1) (.tmp rfl .nil) rfl rF rF (sC sR) ?_))))))))))
 refine ⟨rfl, (jJ hv1), ?_⟩
 have hxs : (xs : List Int) = os := by rw [← List.take_of_length_le (l := xs) (i := k) (by omega), ← hos, List.take_of_length_le (by omega)]
 exact congrArg (fun z => intsH 2 _ z :: L) hxs

/- laws.toSig -/
theorem toSig_spec {F : FH} {L : List HP} {xsv : Value} {xs : List Int} (hxs : IntsF F xsv xs) (hlx : xs.length ≤ 4000000) :
    Does prog 50 [.agg #[xsv]] F (L) (fun v F' L' => ∃ (a : Value), (.agg #[a] : Value) = v ∧ (IntsF F' a xs) ∧ (Fresh F F' (star [intsH 2 a xs])) ∧ L = L') := by
 refine qD func50 rfl rfl rfl (qc (qa (cX (qV [xsv] rfl rfl ?_))))
 intro b1
 refine cX (jo [sN] zeroValue31 rfl ?_)
 intro b2
 refine qb (qc (qa (cX (jo [sN] zeroValue31 rfl ?_))))
 intro b3
 refine qb (qc (qa (cX (qn (0) runUnderlying24 rfl qr (by decide) rfl rfl (cX (qi qP rfl (Rd.own [_, _] rfl rfl) (cX (jK <| qt (args := [xsv]) call10 rfl (toInt64S_spec hxs (hlx := (by first | assumption | rfl | omega | simp))) ?_))))))))
 rintro v1 _ _ _ ⟨rfl, hs1, rfl⟩
 refine ⟨_, _, rfl, fun F1 le1 hz1 => ?_⟩
 have hf1 : IntsF F1 v1 ((xs)) := intsH.fz (xs := (xs)) hz1.fz
 refine cX (qn (0) jC rfl qr (by decide) rfl rfl (cX (jq [] _ [v1] qr rfl rfl (qZ (qG hf1)) rfl rfl rfl (qb (qc (qa (cX (qB [v1] je qN rfl rfl (Rd.ownN [] rfl rfl) (cX (jb [_] _ [v1] qN rfl rfl rfl (qv (qZ (qG hf1)) jf) rfl rfl rfl (qb (qy (qs (L' := L) [.agg #[v1]] (.agg #[v1]) (.cell rfl (jP [v1] je qN rfl (Rd.ownN [_] rfl rfl)) .nil) rfl le1 rF (sD (sD (sD sR))) ?_)))))))))))))
 exact ⟨_, rfl, hf1, (Fresh.one hz1), rfl⟩

/- laws.toRule -/
theorem toRule_spec {F : FH} {L : List HP} {lv : Value} {l : List Int} (hl : IntsF F lv l) {rv : Value} {r : List Int} (hr : IntsF F rv r) (hll : l.length ≤ 4000000) (hlr : r.length ≤ 4000000) :
    Does prog 150 [.agg #[lv, rv]] F (L) (fun v F' L' => ∃ (a : Value), ∃ (b : Value), (.agg #[a, b] : Value) = v ∧ (IntsF F' a l) ∧ (IntsF F' b r) ∧ (Fresh F F' (star [intsH 2 a l, intsH 2 b r])) ∧ L = L') := by
 refine qD func150 rfl rfl rfl (qc (qa (cX (qV [lv, rv] rfl rfl ?_))))
 intro b1
 refine cX (jo [sN, sN] zeroValue136 rfl ?_)
 intro b2
 refine qb (qc (qa (cX (jo [sN, sN] zeroValue136 rfl ?_))))
 intro b3
 refine qb (qc (qa (cX (qn (0) runUnderlying190 rfl qr (by decide) rfl rfl (cX (qi qP rfl (Rd.own [_, _] rfl rfl) (cX (jK <| qt (args := [lv]) call10 rfl (toInt64S_spec hl (hlx := (by first | assumption | rfl | omega | simp))) ?_))))))))
 rintro v1 _ _ _ ⟨rfl, hs1, rfl⟩
 refine ⟨_, _, rfl, fun F1 le1 hz1 => ?_⟩
 replace hr := hr.mono le1
 have hf1 : IntsF F1 v1 ((l)) := intsH.fz (xs := (l)) hz1.fz
 refine cX (qn (0) qQ rfl qr (by decide) rfl rfl (cX (jq [] _ [v1, sN] qr rfl rfl (qZ (qG hf1)) rfl rfl rfl (qb (qc (qa (cX (qn (1) runUnderlying190 rfl qr (by decide) rfl rfl (cX (qi qP rfl (Rd.own [_, _] rfl rfl) (cX (jK <| qt (args := [rv]) call10 rfl (toInt64S_spec hr (hlx := (by first | assumption | rfl | omega | simp))) ?_))))))))))))
 rintro v2 _ _ _ ⟨rfl, hs2, rfl⟩
 refine ⟨_, _, rfl, fun F2 le2 hz2 => ?_⟩
 replace hf1 := hf1.mono le2
 have hf2 : IntsF F2 v2 ((r)) := intsH.fz (xs := (r)) hz2.fz
 refine cX (qn (1) qQ rfl qr (by decide) rfl rfl (cX (jq [] _ [v1, v2] qr rfl rfl (qZ (qG hf2)) rfl rfl rfl (qb (qc (qa (cX (qB [v1, v2] isAgg136 jh rfl rfl (Rd.ownN [] rfl rfl) (cX (jb [_] _ [v1, v2] jh rfl rfl rfl (qv (qZ (qG hf1)) (qv (qZ (qG hf2)) jf)) rfl rfl rfl (qb (qy (qs (L' := L) [.agg #[v1, v2]] (.agg #[v1, v2]) (.cell rfl (jP [v1, v2] isAgg136 jh rfl (Rd.ownN [_] rfl rfl)) .nil) rfl (qm le1 le2) rF (sD (sD (sD sR))) ?_)))))))))))))
 exact ⟨_, _, rfl, hf1, hf2, (Fresh.app (Fresh.one hz1) le1 (Fresh.one hz2) le2), rfl⟩

/- laws.toRuleS -/
theorem toRuleS_spec {F : FH} {L : List HP} {xv : Value} {x : List (List Int × List Int)} (hx : PairsF F xv x) (hlx : x.length ≤ 4000000) (hrb : ∀ i, i < x.length → (x.getD i ([], [])).1.length ≤ 4000000 ∧ (x.getD i ([], [])).2.length ≤ 4000000) :
    Does prog 81 [xv] F (L) (fun v F' L' => ∃ (a : Value), (a : Value) = v ∧ (PairsF F' a x) ∧ (Fresh F F' (star [pairsD 2 136 a x])) ∧ L = L') := by
 refine qD func81 rfl rfl rfl (qc (qa (qg (sN) rfl (qb (qc (qa (qf (xv) rfl (cX (qC runUnderlying60 rfl hx.slv (cX (XOp.makeSlice (n := (x).length) (bytes := 48) [sN, sN] qU jh typeInfo136 rfl zeroValue136 rfl rfl rfl rfl (by omega) (by omega) ?_)))))))))))
 intro v1 hv1
 obtain ⟨cs1, hq1, hc1⟩ : ∃ cs, ((List.range (((x).length) * 2)).map fun i => [sN, sN].toArray[i % [sN, sN].toArray.size]!) = cs ∧ PairsC F cs (List.replicate ((x).length) ([], []) : List (List Int × List Int)) := ⟨_, rfl, PairsC.nils _⟩
 rw [hq1]
 refine qg (v1) rfl (qb (qc (qc (qa (qg (ii (0)) rfl (qb (qF ?_)))))))
 obtain ⟨L0, hD0, hS0⟩ := deepNils2 2 x.length
 rw [hq1] at hD0
 refine jj (α := Nat × List (List Int × List Int) × List Value × List HP × FH) (fun xQ => [(0, xv), (3, v1), (4, ii (((xQ.1 : Nat) : Int)))]) (fun xQ => slH 136 2 v1 x.length xQ.2.2.1 :: L) (fun xQ F' => xQ.2.2.2.2 = F' ∧ F ≤ xQ.2.2.2.2 ∧ (PairsC xQ.2.2.2.2 xQ.2.2.1 xQ.2.1) ∧ (xQ.1 ≤ x.length) ∧ (xQ.2.1.length = x.length) ∧ (xQ.2.1.take xQ.1 = x.take xQ.1) ∧ (DeepL 2 (PairO 2) xQ.2.2.1 xQ.2.1 xQ.2.2.2.1) ∧ (Fresh F xQ.2.2.2.2 (star xQ.2.2.2.1))) (fun xQ => x.length - xQ.1) (0, (List.replicate ((x).length) ([], []) : List (List Int × List Int)), cs1, L0, F) ⟨rfl, rfl, rfl, ⟨⟩⟩ (sC sR) ⟨rfl, FLe.refl _, (hc1), (by (try dsimp only) <;> omega), (by simp), (rfl), (hD0), (Fresh.empty hS0)⟩ ?_
 rintro ⟨k, os, cs, Ls, G1⟩ rE _ _ ⟨rfl, leG, hC, hk, hol, hos, hD, hZ⟩
 show X _ _ _ _ (envs [(0, xv), (3, v1), (4, ii ((k : Int)))] rE) _ (slH 136 2 v1 x.length cs :: L)
 replace leG : F ≤ G1 := leG
 dsimp only at hC hk hol hos hD hZ
 have hrk := hrb k
 have leG1 := leG
 replace hx := hx.mono leG1
 refine qc (qc (qa (qf (ii ((k : Int))) rfl (qf (xv) rfl (cX (qC runUnderlying60 rfl hx.slv (cX (qL rfl rfl (qb ?_)))))))))
 refine qx (p := (k : Int) < (x.length : Int)) rfl (fun h1 => ?_) (fun h1 => ?_)
 ·refine qw (qc (qF (qa (qf (v1) rfl (qf (ii ((k : Int))) rfl (qf (xv) rfl (qf (ii ((k : Int))) rfl (cX (ql k runUnderlying60 sizeOf190 rfl rfl rfl hx.slv (by omega) rfl ?_)))))))))
  obtain ⟨a1, a2, ha1, ha2, hr1, hr2⟩ := hx.rd (i := k) (by omega)
  refine cX (qB [a1, a2] isAgg190 sizeOf190 rfl rfl (Rd.two (hr1 _) (hr2 _)) (cX (qt (args := [.agg #[a1, a2]]) call150 rfl (toRule_spec ha1 ha2 (hll := (by first | assumption | rfl | omega | simp)) (hlr := (by first | assumption | rfl | omega | simp))) ?_)))
  rintro _ F1 _ le1 ⟨x1, x2, rfl, hr3, hr4, hr5, rfl⟩
  replace hC := hC.mono le1
  refine cX (ql k qU jh rfl rfl rfl (SlV.own [] rfl) (by omega) rfl (cX (XOp.storeSN (i := k * 2) (m := 2) (vs := [x1, x2]) (cs := cs) [] _ jh rfl rfl rfl (qv (qZ (qG hr3)) (qv (qZ (qG hr4)) jf)) rfl (show k * 2 + 2 ≤ _ from by have h9 := CO.len hC; (try simp only [List.length_set, List.length_replicate] at h9); omega) (Nat.succ_pos _) ?_)))
  have hc2 := hC.set (j := k) (by (try simp only [List.length_set, List.length_replicate]); omega) hr3 hr4
  refine qb (qa (qf (ii ((k : Int))) rfl (cX (qI (((k + 1 : Nat) : Int)) rfl rfl (by omega) (by omega) (qg (ii (((k + 1 : Nat) : Int))) rfl (qb ?_))))))
  obtain ⟨A, K, B, es, hLs, hel, hR, hg, hput⟩ := hD.at (d := ([], [])) (k := k) (by omega)
  rw [hLs] at hZ
  have hDn := hput _ (((x.getD k ([], [])).1), ((x.getD k ([], [])).2)) [intsH 2 x1 (((x.getD k ([], [])).1)), intsH 2 x2 (((x.getD k ([], [])).2))] rfl ⟨_, _,  rfl, rfl⟩
  exact ⟨(k + 1, (os.set k (((x.getD k ([], [])).1), ((x.getD k ([], [])).2))), (cs.take (k * 2) ++ [x1, x2] ++ cs.drop (k * 2 + 2)), A ++ ([intsH 2 x1 (((x.getD k ([], [])).1)), intsH 2 x2 (((x.getD k ([], [])).2))] ++ B), F1), _, (qm leG1 le1), rF, ⟨rfl, rfl, rfl, ⟨⟩⟩, (sC sR), ⟨rfl, (qm leG1 le1), (hc2), (by (try dsimp only) <;> omega), (by dsimp only; rw [List.length_set]; exact hol), (by dsimp only; rw [take_set_any (by omega), hos, take_succ_getD ([], []) (by omega)]), (hDn), ((Fresh.swap hZ leG1 hr5 le1))⟩, (by omega)⟩
 refine ja (qu (qu (qJ (qc (qa (qf (v1) rfl (qg (v1) rfl (qb (jA [] _ _ rfl (fun F2 le2 hz1 => ?_))))))))))
 replace hC := hC.mono le2
 have hf1 : PairsF F2 v1 os := CO.fz hC (by first | rfl | omega | (rw [List.length_set]; omega) | (simp; done)) hz1.fz
 refine qy (qs (L' := L) [v1] (v1) (.tmp rfl .nil) rfl (qm leG1 le2) rF sR ?_)
 have e : os = x := by rw [← List.take_of_length_le (l := x) (i := k) (by omega), ← hos, List.take_of_length_le (by omega)]
 subst e
 exact ⟨_, rfl, hf1, Fresh.one (Fresh.deep hD hZ leG1 hz1 rfl le2), rfl⟩

/- laws.toSystem -/
theorem toSystem_spec {F : FH} {L : List HP} {arv : Value} {ar : List Int} (har : IntsF F arv ar) {rsv : Value} {rs : List (List Int × List Int)} (hrs : PairsF F rsv rs) (hla : ar.length ≤ 4000000) (hrl : rs.length ≤ 4000000) (hrb : ∀ i, i < rs.length → (rs.getD i ([], [])).1.length ≤ 4000000 ∧ (rs.getD i ([], [])).2.length ≤ 4000000) :
    Does prog 27 [.agg #[arv, rsv]] F (L) (fun v F' L' => ∃ (a : Value), ∃ (b : Value), (.agg #[a, b] : Value) = v ∧ (IntsF F' a ar) ∧ (PairsF F' b rs) ∧ (Fresh F F' (star [intsH 2 a ar, pairsD 2 136 b rs])) ∧ L = L') := by
 refine qD func27 rfl rfl rfl (qc (qa (cX (qV [arv, rsv] rfl rfl ?_))))
 intro b1
 refine cX (jo [sN, sN] zeroValue66 rfl ?_)
 intro b2
 refine qb (qc (qa (cX (jo [sN, sN] zeroValue66 rfl ?_))))
 intro b3
 refine qb (qc (qa (cX (qn (0) runUnderlying62 rfl sizeOf24 (by decide) rfl rfl (cX (qB [arv] isAgg24 sizeOf24 rfl rfl (Rd.ownN [_, _] rfl rfl) (cX (qt (args := [.agg #[arv]]) call50 rfl (toSig_spec har (hlx := (by first | assumption | rfl | omega | simp))) ?_))))))))
 rintro _ F1 _ le1 ⟨x1, rfl, hr1, hr2, rfl⟩
 replace hrs := hrs.mono le1
 refine cX (qn (0) qH rfl qN (by decide) rfl rfl (cX (jb [] _ [x1, sN] qN rfl rfl rfl (qv (qZ (qG hr1)) jf) rfl rfl rfl (qb (qc (qa (cX (qn (1) runUnderlying62 rfl sizeOf60 (by decide) rfl rfl (cX (qi isAgg60 rfl (Rd.own [_, _] rfl rfl) (cX (qt (args := [rsv]) call81 rfl (toRuleS_spec hrs (hlx := (by first | assumption | rfl | omega | simp)) (hrb := (by first | assumption | rfl | omega | simp))) ?_))))))))))))
 rintro _ F2 _ le2 ⟨x2, rfl, hr3, hr4, rfl⟩
 replace hr1 := hr1.mono le2
 refine cX (qn (1) qH rfl jx (by decide) rfl rfl (cX (jq [] _ [x1, x2] jx rfl rfl (qZ (PairsF.isSl hr3)) rfl rfl rfl (qb (qc (qa (cX (qB [x1, x2] jF jt rfl rfl (Rd.ownN [] rfl rfl) (cX (jb [_] _ [x1, x2] jt rfl rfl rfl (qv (qZ (qG hr1)) (qv (qZ (PairsF.isSl hr3)) jf)) rfl rfl rfl (qb (qy (qs (L' := L) [.agg #[x1, x2]] (.agg #[x1, x2]) (.cell rfl (jP [x1, x2] jF jt rfl (Rd.ownN [_] rfl rfl)) .nil) rfl (qm le1 le2) rF (sD (sD (sD sR))) ?_)))))))))))))
 exact ⟨_, _, rfl, hr1, hr3, (Fresh.app hr2 le1 hr4 le2), rfl⟩

/- spec.StepAt -/
theorem sStepAt_spec {F : FH} {L : List HP} {arv : Value} {ar : List Int} (har : IntsF F arv ar) {rsv : Value} {rs : List (List Int × List Int)} (hrs : PairsF F rsv rs) {tv : Value} {t : List Int} (ht : IntsF F tv t) {p : Int} {r : Int} (hla : ar.length ≤ 4000000) (hlr : rs.length ≤ 4000000) (hrb : ∀ i, i < rs.length → (rs.getD i ([], [])).1.length ≤ 4000000 ∧ (rs.getD i ([], [])).2.length ≤ 4000000) (hlt : t.length ≤ 4000000) :
    Does prog 196 [.agg #[arv, rsv], tv, ii (p), ii (r)] F (L) (fun v F' L' => ∃ (a : Value), (.tuple #[a, .bool ((stepAtL ar rs t p r).isSome)] : Value) = v ∧ (IntsF F' a ((stepAtL ar rs t p r).getD [])) ∧ L = L') := by
 refine qD func196 rfl rfl rfl (qc (qa (cX (qV [arv, rsv] rfl rfl ?_))))
 intro b1
 refine qg (sN) rfl (qg (.bool (false)) rfl (qb (qc (qc (qa (cX (qB [arv, rsv] jF jt rfl rfl (Rd.ownN [] rfl rfl) (qf (tv) rfl (cX (qt (args := [.agg #[arv, rsv], tv]) call213 rfl (l7Right_spec har hrs ht (hla := (by first | assumption | rfl | omega | simp)) (hlr := (by first | assumption | rfl | omega | simp)) (hrb := (by first | assumption | rfl | omega | simp)) (hlt := (by first | assumption | rfl | omega | simp))) ?_))))))))))
 rintro _ _ _ _ ⟨rfl, rfl, rfl⟩
 refine cX (jp rfl (qf (.bool (!(rightB ar rs t))) rfl ?_))
 by_cases h1 : (!(rightB ar rs t)) = true
 ·refine qp (t := 14) rfl (vB h1) (qp (t := 14) rfl (vB h1) (qp (t := 14) rfl (vB h1) (qp (t := 14) rfl (vB h1) (cX (qR (.bool (true)) (vB h1) rfl (qf (.bool (true)) rfl (qp (t := 20) rfl rfl (qp (t := 20) rfl rfl (qp (t := 20) rfl rfl (qp (t := 20) rfl rfl ?_))))))))))
  refine qp (t := 20) rfl rfl (qp (t := 20) rfl rfl (qp (t := 20) rfl rfl (cX (qR (.bool (true)) rfl rfl (qb (jB rfl (qc (qa (cX (qM (s := 1) [] [ii (0)] [] qd qo jk rfl (by decide) rfl CellsAre.nil rfl ?_))))))))))
  intro v1 hv1
  refine qg (v1) rfl (qg (.bool (false)) rfl (qb ?_))
  show X _ _ _ _ _ _ (intsH 2 v1 ([] : List Int) :: cellsH b1 [arv, rsv] 66 :: L)
  refine jA [] _ _ rfl (fun F1 le1 hz1 => ?_)
  replace har := har.mono le1
  replace hrs := hrs.mono le1
  replace ht := ht.mono le1
  have hf1 : IntsF F1 v1 ([]) := intsH.fz (xs := []) hz1.fz
  refine qy (qk (qs (L' := L) [v1, .bool (false)] (.tuple #[v1, .bool (false)]) (.tmp rfl (.tmp rfl .nil)) rfl le1 rF (sD sR) ?_))
  have hz0 : stepAtL ar rs t p r = none := by rw [stepAtL, if_neg (by unfold stepAtOk; cases hA : rightB ar rs t <;> simp_all <;> omega)]
  exact ⟨_, by rw [hz0]; rfl, by rw [hz0]; exact hf1, rfl⟩
 rw [Bool.not_eq_true] at h1
 refine qq (t := 14) rfl (vB h1) (qj (tv) rfl (qq (t := 14) rfl (vB h1) (qj (ii (p)) rfl (qq (t := 14) rfl (vB h1) (qt (args := [tv, ii (p)]) call226 rfl (l1There_spec (n := p) ht (hbd := (by first | assumption | rfl | omega | simp))) ?_)))))
 rintro _ _ _ _ ⟨rfl, rfl, rfl⟩
 refine qq (t := 14) rfl (vB h1) (jN rfl (cX (qS (.bool (decide (¬(0 ≤ p ∧ p < (t.length : Int))))) (vB h1) rfl (qf (.bool (decide (¬(0 ≤ p ∧ p < (t.length : Int))))) rfl ?_))))
 by_cases h2 : ¬(0 ≤ p ∧ p < (t.length : Int))
 ·refine qp (t := 20) rfl (vT h2) (qp (t := 20) rfl (vT h2) (qp (t := 20) rfl (vT h2) (qp (t := 20) rfl (vT h2) (qp (t := 20) rfl (vT h2) (qp (t := 20) rfl (vT h2) (qp (t := 20) rfl (vT h2) (cX (qR (.bool (true)) (vT h2) rfl (qb (jB rfl ?_))))))))))
  refine qc (qa (cX (qM (s := 1) [] [ii (0)] [] qd qo jk rfl (by decide) rfl CellsAre.nil rfl ?_)))
  intro v2 hv2
  refine qg (v2) rfl (qg (.bool (false)) rfl (qb ?_))
  show X _ _ _ _ _ _ (intsH 2 v2 ([] : List Int) :: cellsH b1 [arv, rsv] 66 :: L)
  refine jA [] _ _ rfl (fun F2 le2 hz2 => ?_)
  replace har := har.mono le2
  replace hrs := hrs.mono le2
  replace ht := ht.mono le2
  have hf2 : IntsF F2 v2 ([]) := intsH.fz (xs := []) hz2.fz
  refine qy (qk (qs (L' := L) [v2, .bool (false)] (.tuple #[v2, .bool (false)]) (.tmp rfl (.tmp rfl .nil)) rfl le2 rF (sD sR) ?_))
  have hz0 : stepAtL ar rs t p r = none := by rw [stepAtL, if_neg (by unfold stepAtOk; cases hA : rightB ar rs t <;> simp_all <;> omega)]
  exact ⟨_, by rw [hz0]; rfl, by rw [hz0]; exact hf2, rfl⟩
 refine qq (t := 20) rfl (vF h2) (qj (ii (r)) rfl (qq (t := 20) rfl (vF h2) (qn (1) qH rfl jx (by decide) rfl rfl (qq (t := 20) rfl (vF h2) (qi jG rfl (Rd.own [] rfl rfl) (qq (t := 20) rfl (vF h2) (qC qU rfl hrs.slv (qq (t := 20) rfl (vF h2) (qY (((rs.length : Int)) - 1) rfl rfl (by omega) (by omega) (qq (t := 20) rfl (vF h2) (qt (args := [ii (r), ii (0), ii (((rs.length : Int)) - 1)]) call41 rfl (l1In_spec (n := r) (a := 0) (b := ((rs.length : Int)) - 1)) ?_)))))))))))
 rintro _ _ _ _ ⟨rfl, rfl, rfl⟩
 refine qq (t := 20) rfl (vF h2) (jN rfl (cX (qS (.bool (decide (¬(0 ≤ r ∧ r ≤ (((rs.length : Int)) - 1))))) (vF h2) rfl (qb ?_))))
 refine qx (p := ¬(0 ≤ r ∧ r ≤ (((rs.length : Int)) - 1))) rfl (fun h3 => ?_) (fun h3 => ?_)
 ·refine qc (qa (cX (qM (s := 1) [] [ii (0)] [] qd qo jk rfl (by decide) rfl CellsAre.nil rfl ?_)))
  intro v3 hv3
  refine qg (v3) rfl (qg (.bool (false)) rfl (qb ?_))
  show X _ _ _ _ _ _ (intsH 2 v3 ([] : List Int) :: cellsH b1 [arv, rsv] 66 :: L)
  refine jA [] _ _ rfl (fun F3 le3 hz3 => ?_)
  replace har := har.mono le3
  replace hrs := hrs.mono le3
  replace ht := ht.mono le3
  have hf3 : IntsF F3 v3 ([]) := intsH.fz (xs := []) hz3.fz
  refine qy (qk (qs (L' := L) [v3, .bool (false)] (.tuple #[v3, .bool (false)]) (.tmp rfl (.tmp rfl .nil)) rfl le3 rF (sD sR) ?_))
  have hz0 : stepAtL ar rs t p r = none := by rw [stepAtL, if_neg (by unfold stepAtOk; cases hA : rightB ar rs t <;> simp_all <;> omega)]
  exact ⟨_, by rw [hz0]; rfl, by rw [hz0]; exact hf3, rfl⟩
 refine qw (qc (qa ?_))
 have hok : stepAtOk ar rs t p r = true := by unfold stepAtOk; cases hA : rightB ar rs t <;> simp_all <;> omega
 have hok2 := hok
 unfold stepAtOk rightB at hok2
 simp only [Bool.and_eq_true, decide_eq_true_eq] at hok2
 obtain ⟨⟨⟨hsys, ho⟩, hp1⟩, hr1⟩ := hok2
 refine cX (qB [arv, rsv] jF jt rfl rfl (Rd.ownN [] rfl rfl) (qf (tv) rfl (qf (ii (p)) rfl (qf (ii (r)) rfl (cX (qt (args := [.agg #[arv, rsv], tv, ii (((p).toNat : Nat) : Int), ii (((r).toNat : Nat) : Int)]) call171 (by rw [show (((p).toNat : Nat) : Int) = p from by omega, show (((r).toNat : Nat) : Int) = r from by omega]; rfl) (l7Step_spec (p := (p).toNat) (r := (r).toNat) har hrs ht (hsys := (by first | assumption | rfl | omega | simp)) (ho := (by first | assumption | rfl | omega | simp)) (hp := (by first | assumption | rfl | omega | simp)) (hr := (by first | assumption | rfl | omega | simp))) ?_))))))
 rintro _ F4 _ le4 ⟨x1, rfl, hr1, rfl⟩
 refine cX (qT (x1) rfl rfl (cX (qT (.bool ((stepL ar rs t ((p).toNat) ((r).toNat)).isSome)) rfl rfl (qg (x1) rfl (qg (.bool ((stepL ar rs t ((p).toNat) ((r).toNat)).isSome)) rfl (qb (qy (qs (L' := L) [x1, .bool ((stepL ar rs t ((p).toNat) ((r).toNat)).isSome)] (.tuple #[x1, .bool ((stepL ar rs t ((p).toNat) ((r).toNat)).isSome)]) (.tmp rfl (.tmp rfl .nil)) rfl le4 rF (sD sR) ?_))))))))
 have e := show stepAtL ar rs t p r = stepL ar rs t p.toNat r.toNat from by rw [stepAtL, if_pos hok]
 exact ⟨_, by rw [e], by rw [e]; exact hr1, rfl⟩

/- impl.argsAt -/
theorem argsAt_spec {F : FH} {L : List HP} {arv : Value} {ar : List Int} (har : IntsF F arv ar) {tv : Value} {t : List Int} (ht : IntsF F tv t) {p : Nat} (ho : termOk ar t = true) (hp : p < t.length) :
    Does prog 156 [.agg #[arv], tv, ii ((p : Int))] F (L) (fun v F' L' => F = F' ∧ IsSl v ∧ intsH 3 v (argsL ar t p) :: L = L') := by
 refine qD func156 rfl rfl rfl ?_
 have hsl := sigOk_spec (termOk_sig ho)
 have htl := termOk_len ho
 have hsig := termOk_sig ho
 have hA := arity_le hsig (termOk_lt ho hp)
 have hge := termOk_ge ho hp
 have hlt := termOk_lt ho hp
 refine qc (qa (cX (qV [arv] rfl rfl ?_)))
 intro b1
 refine qg (sN) rfl (qb (qc (qa (qg (sN) rfl (qb (qc (qa (qf (ii ((p : Int))) rfl (cX (qI (((p + 1 : Nat) : Int)) rfl rfl (by omega) (by omega) (qg (ii (((p + 1 : Nat) : Int))) rfl (qb (qc (qc ?_))))))))))))))
 refine jn [cellsH b1 [arv] 31] L 5 [] [[], [], [], [1, 2], [3]] (phiL [qe (.agg #[arv]), qe tv, qe (ii ((p : Int)) : Value), qe (.pointer (some (elemA tv (p)))), qe (ii (t.getD p 0))]) (ownL []) mixed rfl rfl (by kernel_rfl) ?_ ?_
 ·refine pD (fun W R z9 => ?_) ?_
  ·refine qh (qB [arv] je qN rfl rfl (Rd.ownN [] rfl rfl) ?_)
   exact ⟨rfl, rfl, rfl⟩
  refine pD (fun W R z9 => ?_) ?_
  ·refine qh (qj (tv) rfl ?_)
   exact ⟨rfl, rfl, rfl⟩
  refine pD (fun W R z9 => ?_) ?_
  ·refine qh (qj (ii ((p : Int))) rfl ?_)
   exact ⟨rfl, rfl, rfl⟩
  refine pD (fun W R z9 => ?_) ?_
  ·rw [eS (l := [(1, _), (2, _)]) ⟨z9 1 rfl, z9 2 rfl, ⟨⟩⟩]
   refine qh (ql p qd qo rfl rfl rfl ht.slv (by omega) (Nat.mul_one _) ?_)
   exact ⟨rfl, rfl, rfl⟩
  refine pD (fun W R z9 => ?_) ?_
  ·rw [eS (l := [(3, _)]) ⟨z9 3 rfl, ⟨⟩⟩]
   refine qh (qi qK rfl (ht.rd (by omega)) ?_)
   exact ⟨rfl, rfl, rfl⟩
  exact stepsP.nil
 intro W hphi
 rw [eS (l := [(0, _), (4, _)]) ⟨(hphi 0 (by decide)), (hphi 4 (by decide)), ⟨⟩⟩]
 show XL _ _ _ _ _ _ _ (cellsH b1 [arv] 31 :: L)
 refine cX (qt (args := [.agg #[arv], ii (t.getD p 0)]) call202 rfl (arityAt_spec (n := t.getD p 0) har (hn := (by first | assumption | rfl | omega | simp))) ?_)
 rintro _ _ _ _ ⟨rfl, rfl, rfl⟩
 refine qg (ii (arity ar (t.getD p 0))) rfl (qb (qF (jj (α := Nat × Nat × Value × List Int) (fun xQ => [(1, tv), (3, ptr b1 0), (7, xQ.2.2.1), (8, ii (((xQ.2.1 : Nat) : Int))), (9, ii (((xQ.1 : Nat) : Int)))]) (fun xQ => intsH 3 xQ.2.2.1 xQ.2.2.2 :: cellsH b1 [arv] 31 :: L) (fun xQ F' => F = F' ∧ (IsSl xQ.2.2.1) ∧ (Stand ar t xQ.1 xQ.2.1 (endN ar t p)) ∧ (argsL ar t p = xQ.2.2.2 ++ argsGo ar t xQ.1 xQ.2.1) ∧ (xQ.2.2.2.length + xQ.1 ≤ 3)) (fun xQ => xQ.1) ((arity ar (t.getD p 0)).toNat, p + 1, sN, []) ⟨rfl, rfl, rfl, rfl, (vI (by first | omega | (rw [sArity_eq (by omega)]; omega))), ⟨⟩⟩ (qO (intsH.addNil 3 none _) (sC (sC sR))) ⟨rfl, (⟨_, _, _, rfl⟩), (stand_start ho hp), (rfl), (by rw [List.length_nil]; omega)⟩ ?_)))
 rintro ⟨m, q, ov, os⟩ rE _ _ ⟨rfl, hov, hS, hos, hol⟩
 show X _ _ _ _ (envs [(1, tv), (3, ptr b1 0), (7, ov), (8, ii ((q : Int))), (9, ii ((m : Int)))] rE) _ (intsH 3 ov os :: cellsH b1 [arv] 31 :: L)
 dsimp only at hov hS hos hol
 have hst := fun (h : 1 ≤ m) => stand_step ho (n := m - 1) (by rw [Nat.sub_add_cancel h]; exact hS)
 refine qc (qc (qa (qf (ii ((m : Int))) rfl (cX (jH rfl rfl (qb ?_))))))
 refine qx (p := (m : Int) > 0) rfl (fun h1 => ?_) (fun h1 => ?_)
 ·refine qw (qc (qF (qc (qa (qf (ov) rfl (qf (ii ((q : Int))) rfl (cX (qM (s := 1) [ii ((q : Int))] [ii (0)] [(0, [ii ((q : Int))])] jV ya zeroValue3 rfl (by decide) rfl (.cons rfl CellsAre.nil) rfl ?_))))))))
  intro v1 hv1
  refine cX (jW (u := (q : Int)) [_] _ jV typeInfo3 rfl rfl rfl rfl rfl rfl (SlV.own [] rfl) (Rd.sl [] rfl rfl) (by (try simp only [List.length_append, List.length_nil, List.length_cons, List.length_singleton, List.length_take, List.length_drop]); omega) ?_)
  intro v2 hs1 hn1
  refine qg (v2) rfl (qb (qa (cX (qB [arv] je qN rfl rfl (Rd.ownN [_, _] rfl rfl) (qf (tv) rfl (qf (ii ((q : Int))) rfl (cX (qt (args := [.agg #[arv], tv, ii (q : Int)]) call112 rfl (endAt_ok (p := q) har ht (ho := (by first | assumption | rfl | omega | (left; simp; done) | (right; simp; done))) (hp := (by first | assumption | rfl | omega | (left; simp; done) | (right; simp; done)))) ?_))))))))
  rintro _ _ _ _ ⟨rfl, rfl, rfl⟩
  refine qg (ii (((endN ar t q : Nat) : Int))) rfl (qb (qa (qf (ii ((m : Int))) rfl (cX (qY (((m : Int)) - 1) rfl rfl (by omega) (by omega) (qg (ii (((m : Int)) - 1)) rfl (qb ?_)))))))
  exact ⟨(m - 1, endN ar t q, v2, os ++ [(q : Int)]), _, FLe.refl _, rF, ⟨rfl, rfl, rfl, rfl, (vI (by omega)), ⟨⟩⟩, (sD (sC (sC sR))), ⟨rfl, (hs1), ((hst (by omega)).2.1), (args_next ho (by omega) hos), (by dsimp only; rw [List.length_append, List.length_singleton]; omega)⟩, (by omega)⟩
 refine ja (qu (qu (qJ (qc (qa (qf (ov) rfl (qg (ov) rfl (qb (qy (qs (L' := intsH 3 ov os :: L) [ov] (ov) (.tmp rfl .nil) rfl rF rF (sC (sD sR)) ?_))))))))))
 refine ⟨rfl, hov, ?_⟩
 have hxs : (argsL ar t p : List Int) = os := by rw [hos, show m = 0 from by omega]; simp [argsGo]
 exact congrArg (fun z => intsH 3 _ z :: L) hxs

theorem endAtW_ok {F : FH} {L : List HP} {p : Nat} {arv : Value} {ar : List Int} (har : IntsF F arv ar) {tv : Value} {t : List Int} (ht : IntsF F tv t) (ho : TermW ar t) (hp : p < t.length) :
    Does prog 112 [.agg #[arv], tv, ii (p : Int)] F L (fun v F' L' => (ii ((endN ar t p : Nat) : Int) : Value) = v ∧ F = F' ∧ L = L') := by
  have hl := ho.len
  have h := endAt_spec (F := F) (L := L) (p := p) har ht ho.sig (by omega) (by omega)
  rw [ho.endZ hp] at h
  exact h


/- impl.subAt -/
theorem subAtW_spec {F : FH} {L : List HP} {arv : Value} {ar : List Int} (har : IntsF F arv ar) {tv : Value} {t : List Int} (ht : IntsF F tv t) {p : Nat} (ho : TermW ar t) (hp : p < t.length) (hnn : isNil tv = false) :
    Does prog 55 [.agg #[arv], tv, ii ((p : Int))] F (L) (fun v F' L' => F = F' ∧ L = L' ∧ IntsF F v (sub ar t p) ∧ isNil v = false) := by
 refine qD func55 rfl rfl rfl ?_
 have hsl := sigOk_spec ho.sig
 have htl := ho.len
 have hsig := ho.sig
 have hee := ho.endN hp
 refine qc (qa (cX (qV [arv] rfl rfl ?_)))
 intro b1
 refine qg (sN) rfl (qb (qc (qa (qf (tv) rfl (qf (ii ((p : Int))) rfl (cX (qB [arv] je qN rfl rfl (Rd.ownN [] rfl rfl) (qf (tv) rfl (qf (ii ((p : Int))) rfl (cX (qt (args := [.agg #[arv], tv, ii (p : Int)]) call112 rfl (endAtW_ok (p := p) har ht (ho := (by first | assumption | rfl | omega | (left; simp; done) | (right; simp; done))) (hp := (by first | assumption | rfl | omega | (left; simp; done) | (right; simp; done)))) ?_)))))))))))
 rintro _ _ _ _ ⟨rfl, rfl, rfl⟩
 refine cX (jX p (endN ar t p) qd qo rfl ht ⟨_, rfl⟩ ⟨_, rfl⟩ (by omega) (by omega) ?_)
 intro v1 hv1 hn1
 refine qg (v1) rfl (qb (qy (qs (L' := L) [v1] (v1) (.tmp rfl .nil) rfl rF rF (sD sR) ?_)))
 exact ⟨rfl, rfl, hv1, by rw [hn1]; exact hnn⟩

/- impl.argsAt -/
theorem argsAtW_spec {F : FH} {L : List HP} {arv : Value} {ar : List Int} (har : IntsF F arv ar) {tv : Value} {t : List Int} (ht : IntsF F tv t) {p : Nat} (ho : TermW ar t) (hp : p < t.length) :
    Does prog 156 [.agg #[arv], tv, ii ((p : Int))] F (L) (fun v F' L' => F = F' ∧ IsSl v ∧ intsH 3 v (argsL ar t p) :: L = L') := by
 refine qD func156 rfl rfl rfl ?_
 have hsl := sigOk_spec ho.sig
 have htl := ho.len
 have hsig := ho.sig
 have hA := arity_le hsig (ho.lt hp)
 have hge := ho.geD hp
 have hlt := ho.lt hp
 refine qc (qa (cX (qV [arv] rfl rfl ?_)))
 intro b1
 refine qg (sN) rfl (qb (qc (qa (qg (sN) rfl (qb (qc (qa (qf (ii ((p : Int))) rfl (cX (qI (((p + 1 : Nat) : Int)) rfl rfl (by omega) (by omega) (qg (ii (((p + 1 : Nat) : Int))) rfl (qb (qc (qc ?_))))))))))))))
 refine jn [cellsH b1 [arv] 31] L 5 [] [[], [], [], [1, 2], [3]] (phiL [qe (.agg #[arv]), qe tv, qe (ii ((p : Int)) : Value), qe (.pointer (some (elemA tv (p)))), qe (ii (t.getD p 0))]) (ownL []) mixed rfl rfl (by kernel_rfl) ?_ ?_
 ·refine pD (fun W R z9 => ?_) ?_
  ·refine qh (qB [arv] je qN rfl rfl (Rd.ownN [] rfl rfl) ?_)
   exact ⟨rfl, rfl, rfl⟩
  refine pD (fun W R z9 => ?_) ?_
  ·refine qh (qj (tv) rfl ?_)
   exact ⟨rfl, rfl, rfl⟩
  refine pD (fun W R z9 => ?_) ?_
  ·refine qh (qj (ii ((p : Int))) rfl ?_)
   exact ⟨rfl, rfl, rfl⟩
  refine pD (fun W R z9 => ?_) ?_
  ·rw [eS (l := [(1, _), (2, _)]) ⟨z9 1 rfl, z9 2 rfl, ⟨⟩⟩]
   refine qh (ql p qd qo rfl rfl rfl ht.slv (by omega) (Nat.mul_one _) ?_)
   exact ⟨rfl, rfl, rfl⟩
  refine pD (fun W R z9 => ?_) ?_
  ·rw [eS (l := [(3, _)]) ⟨z9 3 rfl, ⟨⟩⟩]
   refine qh (qi qK rfl (ht.rd (by omega)) ?_)
   exact ⟨rfl, rfl, rfl⟩
  exact stepsP.nil
 intro W hphi
 rw [eS (l := [(0, _), (4, _)]) ⟨(hphi 0 (by decide)), (hphi 4 (by decide)), ⟨⟩⟩]
 show XL _ _ _ _ _ _ _ (cellsH b1 [arv] 31 :: L)
 refine cX (qt (args := [.agg #[arv], ii (t.getD p 0)]) call202 rfl (arityAt_spec (n := t.getD p 0) har (hn := (by first | assumption | rfl | omega | simp))) ?_)
 rintro _ _ _ _ ⟨rfl, rfl, rfl⟩
 refine qg (ii (arity ar (t.getD p 0))) rfl (qb (qF (jj (α := Nat × Nat × Value × List Int) (fun xQ => [(1, tv), (3, ptr b1 0), (7, xQ.2.2.1), (8, ii (((xQ.2.1 : Nat) : Int))), (9, ii (((xQ.1 : Nat) : Int)))]) (fun xQ => intsH 3 xQ.2.2.1 xQ.2.2.2 :: cellsH b1 [arv] 31 :: L) (fun xQ F' => F = F' ∧ (IsSl xQ.2.2.1) ∧ (Stand ar t xQ.1 xQ.2.1 (endN ar t p)) ∧ (argsL ar t p = xQ.2.2.2 ++ argsGo ar t xQ.1 xQ.2.1) ∧ (xQ.2.2.2.length + xQ.1 ≤ 3)) (fun xQ => xQ.1) ((arity ar (t.getD p 0)).toNat, p + 1, sN, []) ⟨rfl, rfl, rfl, rfl, (vI (by first | omega | (rw [sArity_eq (by omega)]; omega))), ⟨⟩⟩ (qO (intsH.addNil 3 none _) (sC (sC sR))) ⟨rfl, (⟨_, _, _, rfl⟩), (ho.stand0 hp), (rfl), (by rw [List.length_nil]; omega)⟩ ?_)))
 rintro ⟨m, q, ov, os⟩ rE _ _ ⟨rfl, hov, hS, hos, hol⟩
 show X _ _ _ _ (envs [(1, tv), (3, ptr b1 0), (7, ov), (8, ii ((q : Int))), (9, ii ((m : Int)))] rE) _ (intsH 3 ov os :: cellsH b1 [arv] 31 :: L)
 dsimp only at hov hS hos hol
 have hst := fun (h : 1 ≤ m) => ho.stand (n := m - 1) (by rw [Nat.sub_add_cancel h]; exact hS)
 refine qc (qc (qa (qf (ii ((m : Int))) rfl (cX (jH rfl rfl (qb ?_))))))
 refine qx (p := (m : Int) > 0) rfl (fun h1 => ?_) (fun h1 => ?_)
 ·refine qw (qc (qF (qc (qa (qf (ov) rfl (qf (ii ((q : Int))) rfl (cX (qM (s := 1) [ii ((q : Int))] [ii (0)] [(0, [ii ((q : Int))])] jV ya zeroValue3 rfl (by decide) rfl (.cons rfl CellsAre.nil) rfl ?_))))))))
  intro v1 hv1
  refine cX (jW (u := (q : Int)) [_] _ jV typeInfo3 rfl rfl rfl rfl rfl rfl (SlV.own [] rfl) (Rd.sl [] rfl rfl) (by (try simp only [List.length_append, List.length_nil, List.length_cons, List.length_singleton, List.length_take, List.length_drop]); omega) ?_)
  intro v2 hs1 hn1
  refine qg (v2) rfl (qb (qa (cX (qB [arv] je qN rfl rfl (Rd.ownN [_, _] rfl rfl) (qf (tv) rfl (qf (ii ((q : Int))) rfl (cX (qt (args := [.agg #[arv], tv, ii (q : Int)]) call112 rfl (endAtW_ok (p := q) har ht (ho := (by first | assumption | rfl | omega | (left; simp; done) | (right; simp; done))) (hp := (hst (by omega)).1)) ?_))))))))
  rintro _ _ _ _ ⟨rfl, rfl, rfl⟩
  refine qg (ii (((endN ar t q : Nat) : Int))) rfl (qb (qa (qf (ii ((m : Int))) rfl (cX (qY (((m : Int)) - 1) rfl rfl (by omega) (by omega) (qg (ii (((m : Int)) - 1)) rfl (qb ?_)))))))
  exact ⟨(m - 1, endN ar t q, v2, os ++ [(q : Int)]), _, FLe.refl _, rF, ⟨rfl, rfl, rfl, rfl, (vI (by omega)), ⟨⟩⟩, (sD (sC (sC sR))), ⟨rfl, (hs1), ((hst (by omega)).2.1), (args_nextW (by omega) hos), (by dsimp only; rw [List.length_append, List.length_singleton]; omega)⟩, (by omega)⟩
 refine ja (qu (qu (qJ (qc (qa (qf (ov) rfl (qg (ov) rfl (qb (qy (qs (L' := intsH 3 ov os :: L) [ov] (ov) (.tmp rfl .nil) rfl rF rF (sC (sD sR)) ?_))))))))))
 refine ⟨rfl, hov, ?_⟩
 have hxs : (argsL ar t p : List Int) = os := by rw [hos, show m = 0 from by omega]; simp [argsGo]
 exact congrArg (fun z => intsH 3 _ z :: L) hxs

/- (*impl.unifier).root -/
theorem root_spec {F : FH} {L : List HP} {ub : Nat} {arv : Value} {ar : List Int} {bs : List Value} {bl : RowL} (har : IntsF F arv ar) (hbc : BindC F bs bl) (hb : BOk ar bl) {tv : Value} {t : List Int} (ht : IntsF F tv t) (ho : TermW ar t) (hnn : isNil tv = false) :
    Does prog 211 [ptr ub 0, tv] F (cellsH ub (arv :: bs) 144 :: L) (fun v F' L' => ∃ u : List Int, IntsF F v u ∧ isNil v = false ∧ Root ar bl t u ∧ F = F' ∧ cellsH ub (arv :: bs) 144 :: L = L') := by
 refine qD func211 rfl rfl rfl ?_
 obtain ⟨ρ, hρ⟩ := hb.acyc
 have hbl := hb.len
 refine qc (qa (qg (sN) rfl (qb (qc (qF (jj (α := Value × List Int) (fun xQ => [(0, ptr ub 0), (1, xQ.1)]) (fun xQ => cellsH ub (arv :: bs) 144 :: L) (fun xQ F' => F = F' ∧ (IntsF F xQ.1 xQ.2) ∧ (isNil xQ.1 = false) ∧ (RootTo ar bl t xQ.2)) (fun xQ => rootMu ρ xQ.2) (tv, t) ⟨rfl, rfl, ⟨⟩⟩ (sC sR) ⟨rfl, (ht), (hnn), (RootTo.refl ho)⟩ ?_))))))
 rintro ⟨uv, u⟩ rE _ _ ⟨rfl, huv, hun, hrt⟩
 show X _ _ _ _ (envs [(0, ptr ub 0), (1, uv)] rE) _ (cellsH ub (arv :: bs) 144 :: L)
 dsimp only at huv hun hrt
 have hul := hrt.1.len
 have hug := hrt.1.geD (p := 0) (by omega)
 refine qc (qc ?_)
 by_cases h1 : (u.getD 0 0 : Int) < 0
 ·have hx0 : u.getD 0 0 < 0 := h1
  refine jn [cellsH ub (arv :: bs) 144] L 12 [] [[], [0], [1], [2], [3], [4], [4], [4, 6], [4, 7], [4, 8], [4, 5], [4, 10]] (phiL [qe uv, qe (.pointer (some (elemA uv (0)))), qe (ii (u.getD 0 0)), qe (.bool (decide ((u.getD 0 0 : Int) < 0)) : Value), qe (.bool (decide ((u.getD 0 0 : Int) < 0)) : Value), qe (ptr ub 0), qe uv, qe (.pointer (some (elemA uv (0)))), qe (ii (u.getD 0 0)), qe (ii ((-1) - (u.getD 0 0))), qe (ptr ub 0), qe (ptr ub 1)]) (ownL []) mixed rfl rfl (by kernel_rfl) ?_ ?_
  ·refine pD (fun W R z9 => ?_) ?_
   ·refine qh (qj (uv) rfl ?_)
    exact ⟨rfl, rfl, rfl⟩
   refine pD (fun W R z9 => ?_) ?_
   ·rw [eS (l := [(0, _)]) ⟨z9 0 rfl, ⟨⟩⟩]
    refine qh (ql 0 qd qo rfl rfl rfl huv.slv (by omega) (Nat.mul_one _) ?_)
    exact ⟨rfl, rfl, rfl⟩
   refine pD (fun W R z9 => ?_) ?_
   ·rw [eS (l := [(1, _)]) ⟨z9 1 rfl, ⟨⟩⟩]
    refine qh (qi qK rfl (huv.rd (by omega)) ?_)
    exact ⟨rfl, rfl, rfl⟩
   refine pD (fun W R z9 => ?_) ?_
   ·rw [eS (l := [(2, _)]) ⟨z9 2 rfl, ⟨⟩⟩]
    refine qh (qL rfl rfl ?_)
    exact ⟨rfl, rfl, rfl⟩
   refine pD (fun W R z9 => ?_) ?_
   ·rw [eS (l := [(3, _)]) ⟨z9 3 rfl, ⟨⟩⟩]
    refine qh (qj (.bool (decide ((u.getD 0 0 : Int) < 0))) rfl ?_)
    exact ⟨rfl, rfl, rfl⟩
   refine pD (fun W R z9 => ?_) ?_
   ·rw [eS (l := [(4, _)]) ⟨z9 4 rfl, ⟨⟩⟩]
    refine qW (t := 9) rfl (vT h1) (qj (ptr ub 0) rfl ?_)
    exact ⟨rfl, rfl, rfl⟩
   refine pD (fun W R z9 => ?_) ?_
   ·rw [eS (l := [(4, _)]) ⟨z9 4 rfl, ⟨⟩⟩]
    refine qW (t := 9) rfl (vT h1) (qj (uv) rfl ?_)
    exact ⟨rfl, rfl, rfl⟩
   refine pD (fun W R z9 => ?_) ?_
   ·rw [eS (l := [(4, _), (6, _)]) ⟨z9 4 rfl, z9 6 rfl, ⟨⟩⟩]
    refine qW (t := 9) rfl (vT h1) (ql 0 qd qo rfl rfl rfl huv.slv (by omega) (Nat.mul_one _) ?_)
    exact ⟨rfl, rfl, rfl⟩
   refine pD (fun W R z9 => ?_) ?_
   ·rw [eS (l := [(4, _), (7, _)]) ⟨z9 4 rfl, z9 7 rfl, ⟨⟩⟩]
    refine qW (t := 9) rfl (vT h1) (qi qK rfl (huv.rd (by omega)) ?_)
    exact ⟨rfl, rfl, rfl⟩
   refine pD (fun W R z9 => ?_) ?_
   ·rw [eS (l := [(4, _), (8, _)]) ⟨z9 4 rfl, z9 8 rfl, ⟨⟩⟩]
    refine qW (t := 9) rfl (vT h1) (qY ((-1) - (u.getD 0 0)) rfl rfl (by omega) (by omega) ?_)
    exact ⟨rfl, rfl, rfl⟩
   refine pD (fun W R z9 => ?_) ?_
   ·rw [eS (l := [(4, _), (5, _)]) ⟨z9 4 rfl, z9 5 rfl, ⟨⟩⟩]
    refine qW (t := 9) rfl (vT h1) (jc rfl ?_)
    exact ⟨rfl, rfl, rfl⟩
   refine pD (fun W R z9 => ?_) ?_
   ·rw [eS (l := [(4, _), (10, _)]) ⟨z9 4 rfl, z9 10 rfl, ⟨⟩⟩]
    refine qW (t := 9) rfl (vT h1) (qn (1) ju rfl sizeOf142 (by decide) rfl rfl ?_)
    exact ⟨rfl, rfl, rfl⟩
   exact stepsP.nil
  intro W hphi
  rw [eS (l := [(4, _), (9, _), (11, _)]) ⟨(hphi 4 (by decide)), (hphi 9 (by decide)), (hphi 11 (by decide)), ⟨⟩⟩]
  show XL _ _ _ _ _ _ _ (cellsH ub (arv :: bs) 144 :: L)
  refine qq (t := 9) rfl (vT h1) (jU (i := (-1) - (u.getD 0 0)) (((-1) - (u.getD 0 0)).toNat) (1 + (((-1) - (u.getD 0 0)).toNat)) jQ qr rfl rfl (by omega) (by omega) (by omega) ?_)
  obtain ⟨a1, ha1, hn1, he1⟩ := hbc.get (i := ((-1) - (u.getD 0 0)).toNat) (by omega)
  refine qq (t := 9) rfl (vT h1) (qi qP rfl (Rd.own [] rfl (get_1 he1)) (qq (t := 9) rfl (vT h1) (XOp.neNil qd rfl rfl (qG ha1) (cX (qR (.bool (!isNil a1)) (vT h1) rfl (qb ?_))))))
  refine X.cond (t := !isNil a1) rfl (fun h2 => ?_) (fun h2 => ?_)
  ·have hbn := ne_of_notNil hn1 h2
   have hnb : isNil a1 = false := by rw [hn1]; exact decide_eq_false hbn
   refine qw (qF ?_)
   refine jn [cellsH ub (arv :: bs) 144] L 7 [] [[], [], [1], [2], [3], [0], [5]] (phiL [qe (ptr ub 0), qe uv, qe (.pointer (some (elemA uv (0)))), qe (ii (u.getD 0 0)), qe (ii ((-1) - (u.getD 0 0))), qe (ptr ub 0), qe (ptr ub 1)]) (ownL []) mixed rfl rfl (by kernel_rfl) ?_ ?_
   ·refine pD (fun W R z9 => ?_) ?_
    ·refine qh (qj (ptr ub 0) rfl ?_)
     exact ⟨rfl, rfl, rfl⟩
    refine pD (fun W R z9 => ?_) ?_
    ·refine qh (qj (uv) rfl ?_)
     exact ⟨rfl, rfl, rfl⟩
    refine pD (fun W R z9 => ?_) ?_
    ·rw [eS (l := [(1, _)]) ⟨z9 1 rfl, ⟨⟩⟩]
     refine qh (ql 0 qd qo rfl rfl rfl huv.slv (by omega) (Nat.mul_one _) ?_)
     exact ⟨rfl, rfl, rfl⟩
    refine pD (fun W R z9 => ?_) ?_
    ·rw [eS (l := [(2, _)]) ⟨z9 2 rfl, ⟨⟩⟩]
     refine qh (qi qK rfl (huv.rd (by omega)) ?_)
     exact ⟨rfl, rfl, rfl⟩
    refine pD (fun W R z9 => ?_) ?_
    ·rw [eS (l := [(3, _)]) ⟨z9 3 rfl, ⟨⟩⟩]
     refine qh (qY ((-1) - (u.getD 0 0)) rfl rfl (by omega) (by omega) ?_)
     exact ⟨rfl, rfl, rfl⟩
    refine pD (fun W R z9 => ?_) ?_
    ·rw [eS (l := [(0, _)]) ⟨z9 0 rfl, ⟨⟩⟩]
     refine qh (jc rfl ?_)
     exact ⟨rfl, rfl, rfl⟩
    refine pD (fun W R z9 => ?_) ?_
    ·rw [eS (l := [(5, _)]) ⟨z9 5 rfl, ⟨⟩⟩]
     refine qh (qn (1) ju rfl sizeOf142 (by decide) rfl rfl ?_)
     exact ⟨rfl, rfl, rfl⟩
    exact stepsP.nil
   intro W hphi
   rw [eS (l := [(4, _), (6, _)]) ⟨(hphi 4 (by decide)), (hphi 6 (by decide)), ⟨⟩⟩]
   show XL _ _ _ _ _ _ _ (cellsH ub (arv :: bs) 144 :: L)
   refine cX (jU (i := (-1) - (u.getD 0 0)) (((-1) - (u.getD 0 0)).toNat) (1 + (((-1) - (u.getD 0 0)).toNat)) jQ qr rfl rfl (by omega) (by omega) (by omega) (cX (qi qP rfl (Rd.own [] rfl (get_1 he1)) (qg (a1) rfl (qb ?_)))))
   exact ⟨(a1, (bl.getD (((-1) - (u.getD 0 0)).toNat) [])), _, FLe.refl _, rF, ⟨rfl, rfl, ⟨⟩⟩, (sC sR), ⟨rfl, (ha1), (hnb), (hrt.next hb hx0 hbn)⟩, (rootMu_lt hρ hb hx0 hbn)⟩
  have hbe := eq_of_isNil hn1 h2
  have htop : 0 ≤ u.getD 0 0 ∨ bl.getD (varIx (u.getD 0 0)) [] = [] := .inr hbe
  refine ja (qu (qu (qJ (qc (qa (qf (uv) rfl (qg (uv) rfl (qb (qy (qs (L' := cellsH ub (arv :: bs) 144 :: L) [uv] (uv) (.tmp rfl .nil) rfl rF rF (sC sR) ?_))))))))))
  exact ⟨_, huv, hun, hrt.done htop, rfl, rfl⟩
 have htop : 0 ≤ u.getD 0 0 ∨ bl.getD (varIx (u.getD 0 0)) [] = [] := .inl (by omega)
 refine jn [cellsH ub (arv :: bs) 144] L 12 [] [[], [0], [1], [2], [3], [4], [4], [4, 6], [4, 7], [4, 8], [4, 5], [4, 10]] (phiL [qe uv, qe (.pointer (some (elemA uv (0)))), qe (ii (u.getD 0 0)), qe (.bool (decide ((u.getD 0 0 : Int) < 0)) : Value), qe (.bool (decide ((u.getD 0 0 : Int) < 0)) : Value), qe undef, qe undef, qe undef, qe undef, qe undef, qe undef, qe undef]) (ownL []) mixed rfl rfl (by kernel_rfl) ?_ ?_
 ·refine pD (fun W R z9 => ?_) ?_
  ·refine qh (qj (uv) rfl ?_)
   exact ⟨rfl, rfl, rfl⟩
  refine pD (fun W R z9 => ?_) ?_
  ·rw [eS (l := [(0, _)]) ⟨z9 0 rfl, ⟨⟩⟩]
   refine qh (ql 0 qd qo rfl rfl rfl huv.slv (by omega) (Nat.mul_one _) ?_)
   exact ⟨rfl, rfl, rfl⟩
  refine pD (fun W R z9 => ?_) ?_
  ·rw [eS (l := [(1, _)]) ⟨z9 1 rfl, ⟨⟩⟩]
   refine qh (qi qK rfl (huv.rd (by omega)) ?_)
   exact ⟨rfl, rfl, rfl⟩
  refine pD (fun W R z9 => ?_) ?_
  ·rw [eS (l := [(2, _)]) ⟨z9 2 rfl, ⟨⟩⟩]
   refine qh (qL rfl rfl ?_)
   exact ⟨rfl, rfl, rfl⟩
  refine pD (fun W R z9 => ?_) ?_
  ·rw [eS (l := [(3, _)]) ⟨z9 3 rfl, ⟨⟩⟩]
   refine qh (qj (.bool (decide ((u.getD 0 0 : Int) < 0))) rfl ?_)
   exact ⟨rfl, rfl, rfl⟩
  refine pD (fun W R z9 => ?_) ?_
  ·rw [eS (l := [(4, _)]) ⟨z9 4 rfl, ⟨⟩⟩]
   exact jd (t := 9) rfl (vF h1) ⟨rfl, rfl, rfl⟩
  refine pD (fun W R z9 => ?_) ?_
  ·rw [eS (l := [(4, _)]) ⟨z9 4 rfl, ⟨⟩⟩]
   exact jd (t := 9) rfl (vF h1) ⟨rfl, rfl, rfl⟩
  refine pD (fun W R z9 => ?_) ?_
  ·rw [eS (l := [(4, _), (6, undef)]) ⟨z9 4 rfl, z9 6 rfl, ⟨⟩⟩]
   exact jd (t := 9) rfl (vF h1) ⟨rfl, rfl, rfl⟩
  refine pD (fun W R z9 => ?_) ?_
  ·rw [eS (l := [(4, _), (7, undef)]) ⟨z9 4 rfl, z9 7 rfl, ⟨⟩⟩]
   exact jd (t := 9) rfl (vF h1) ⟨rfl, rfl, rfl⟩
  refine pD (fun W R z9 => ?_) ?_
  ·rw [eS (l := [(4, _), (8, undef)]) ⟨z9 4 rfl, z9 8 rfl, ⟨⟩⟩]
   exact jd (t := 9) rfl (vF h1) ⟨rfl, rfl, rfl⟩
  refine pD (fun W R z9 => ?_) ?_
  ·rw [eS (l := [(4, _), (5, undef)]) ⟨z9 4 rfl, z9 5 rfl, ⟨⟩⟩]
   exact jd (t := 9) rfl (vF h1) ⟨rfl, rfl, rfl⟩
  refine pD (fun W R z9 => ?_) ?_
  ·rw [eS (l := [(4, _), (10, undef)]) ⟨z9 4 rfl, z9 10 rfl, ⟨⟩⟩]
   exact jd (t := 9) rfl (vF h1) ⟨rfl, rfl, rfl⟩
  exact stepsP.nil
 intro W hphi
 rw [eS (l := [(4, _), (9, undef), (11, undef)]) ⟨(hphi 4 (by decide)), (hphi 9 (by decide)), (hphi 11 (by decide)), ⟨⟩⟩]
 show XL _ _ _ _ _ _ _ (cellsH ub (arv :: bs) 144 :: L)
 refine qp (t := 9) rfl (vF h1) (qp (t := 9) rfl (vF h1) (qp (t := 9) rfl (vF h1) (cX (qS (.bool (false)) (vF h1) rfl (qb (jz rfl (ja (qu (qu (qJ (qc (qa (qf (uv) rfl (qg (uv) rfl ?_))))))))))))))
 refine qb (qy (qs (L' := cellsH ub (arv :: bs) 144 :: L) [uv] (uv) (.tmp rfl .nil) rfl rF rF (sC sR) ?_))
 exact ⟨_, huv, hun, hrt.done htop, rfl, rfl⟩

/- (*impl.unifier).occurs -/
set_option maxHeartbeats 1000000 in
theorem occurs_step {k : Nat} (ih : ∀ k9 : Nat, k9 < k → ∀ {F : FH} {L : List HP} {ub : Nat} {arv : Value} {ar : List Int} {bs : List Value} {bl : RowL} (har : IntsF F arv ar) (hbc : BindC F bs bl) (hb : BOk ar bl) {sb : Nat} {σ : Sbs} {ρ : Int → Nat} {n : Int} {tv : Value} {t : List Int} (ht : IntsF F tv t) {sn : List Bool} (hσ : Sol bl σ) (hρ : Acyc bl ρ) (hn : n < 0) (hnf : lkN bl n = []) (htk : ∀ m ∈ t, m < 0 → ρ m < k9) (htg : ∀ i, i < t.length → -48 ≤ t.getD i 0) (htl : t.length ≤ 60) (hsl : sn.length = 48) (hcl : ClearM σ ρ n k9 sn), Does prog 212 [ptr ub 0, ii (n), tv, ptr sb 0] F (cellsH ub (arv :: bs) 144 :: cellsH sb (bools sn) 248 :: L) (fun v F' L' => ∃ s9 : List Bool, (.bool (decide (n ∈ ap σ t)) : Value) = v ∧ s9.length = 48 ∧ (n ∉ ap σ t → MarkR σ n sn s9) ∧ F = F' ∧ cellsH ub (arv :: bs) 144 :: cellsH sb (bools s9) 248 :: L = L')) {F : FH} {L : List HP} {ub : Nat} {arv : Value} {ar : List Int} {bs : List Value} {bl : RowL} (har : IntsF F arv ar) (hbc : BindC F bs bl) (hb : BOk ar bl) {sb : Nat} {σ : Sbs} {ρ : Int → Nat} {n : Int} {tv : Value} {t : List Int} (ht : IntsF F tv t) {sn : List Bool} (hσ : Sol bl σ) (hρ : Acyc bl ρ) (hn : n < 0) (hnf : lkN bl n = []) (htk : ∀ m ∈ t, m < 0 → ρ m < k) (htg : ∀ i, i < t.length → -48 ≤ t.getD i 0) (htl : t.length ≤ 60) (hsl : sn.length = 48) (hcl : ClearM σ ρ n k sn) :
    Does prog 212 [ptr ub 0, ii (n), tv, ptr sb 0] F (cellsH ub (arv :: bs) 144 :: cellsH sb (bools sn) 248 :: L) (fun v F' L' => ∃ s9 : List Bool, (.bool (decide (n ∈ ap σ t)) : Value) = v ∧ s9.length = 48 ∧ (n ∉ ap σ t → MarkR σ n sn s9) ∧ F = F' ∧ cellsH ub (arv :: bs) 144 :: cellsH sb (bools s9) 248 :: L = L') := by
 refine qD func212 rfl rfl rfl ?_
 have hbl := hb.len
 refine qc (qa (qg (.bool (false)) rfl (qb (qc (qc (qa (qf (tv) rfl (cX (qC qd rfl ht.slv (qf (ii (0)) rfl (qb (qF (jj (α := Nat × List Bool) (fun xQ => [(0, ptr ub 0), (1, ii (n)), (3, ptr sb 0), (12, tv), (13, ii ((t.length : Int))), (14, ii (((xQ.1 : Nat) : Int)))]) (fun xQ => cellsH ub (arv :: bs) 144 :: cellsH sb (bools xQ.2) 248 :: L) (fun xQ F' => F = F' ∧ (xQ.1 ≤ t.length) ∧ (xQ.2.length = 48) ∧ (MarkR σ n sn xQ.2) ∧ (∀ i, i < xQ.1 → n ∉ σ (t.getD i 0))) (fun xQ => t.length - xQ.1) (0, sn) ⟨rfl, rfl, rfl, rfl, rfl, rfl, ⟨⟩⟩ (sC (sC sR)) ⟨rfl, (by (try dsimp only) <;> omega), (hsl), (MarkR.refl), (fun i hi => absurd hi (by omega))⟩ ?_)))))))))))))
 rintro ⟨j, sm⟩ rE _ _ ⟨rfl, hj, hml, hmr, hno⟩
 show X _ _ _ _ (envs [(0, ptr ub 0), (1, ii (n)), (3, ptr sb 0), (12, tv), (13, ii ((t.length : Int))), (14, ii ((j : Int)))] rE) _ (cellsH ub (arv :: bs) 144 :: cellsH sb (bools sm) 248 :: L)
 dsimp only at hj hml hmr hno
 have hgj := fun h : j < t.length => htg j h
 refine qc (qa (cX (qL rfl rfl (qb (qc ?_)))))
 refine qx (p := (j : Int) < (t.length : Int)) rfl (fun h1 => ?_) (fun h1 => ?_)
 ·refine qw (qc (qF (qc (qa (cX (ql j qd qo rfl rfl rfl ht.slv (by omega) (Nat.mul_one _) (cX (qi qK rfl (ht.rd (by omega)) (qg (ii (t.getD j 0)) rfl (qb (qc (qc (qa (qf (ii (t.getD j 0)) rfl (qf (ii (n)) rfl (cX (jI rfl rfl (qb ?_))))))))))))))))))
  refine qx (p := (t.getD j 0 : Int) = n) rfl (fun h2 => ?_) (fun h2 => ?_)
  ·refine qc (qa (qg (.bool (true)) rfl (qb (qy (qk (qz (qk (qk (qz (qk (qs (L' := cellsH ub (arv :: bs) 144 :: cellsH sb (bools sm) 248 :: L) [.bool (true)] (.bool (true)) (.tmp rfl .nil) rfl rF rF (sC (sC sR)) ?_)))))))))))
   have hnt : decide (n ∈ ap σ t) = true := decide_eq_true (occ_here (j := j) hnf hσ (by omega) (by assumption))
   exact ⟨_, congrArg Value.bool hnt, hml, fun h9 => absurd (of_decide_eq_true hnt) h9, rfl, rfl⟩
  have hne : t.getD j 0 ≠ n := h2
  refine qw (qc (qc (qa (qf (ii (t.getD j 0)) rfl (cX (jT rfl rfl (qf (.bool (decide ((t.getD j 0 : Int) ≥ 0))) rfl ?_)))))))
  by_cases h3 : (t.getD j 0 : Int) ≥ 0
  ·have hnx : n ∉ σ (t.getD j 0) := sym_no hσ hn (by omega)
   have hmk := hmr
   refine qp (t := 23) rfl (vT h3) (qp (t := 23) rfl (vT h3) (qp (t := 23) rfl (vT h3) (qp (t := 23) rfl (vT h3) (qp (t := 23) rfl (vT h3) (qp (t := 23) rfl (vT h3) (cX (qR (.bool (true)) (vT h3) rfl (qb (jB rfl (ja (qu (qJ ?_))))))))))))
   refine qa (cX (qI (((j + 1 : Nat) : Int)) rfl rfl (by omega) (by omega) (qf (ii (((j + 1 : Nat) : Int))) rfl (qb ?_))))
   exact ⟨(j + 1, sm), _, FLe.refl _, rF, ⟨rfl, rfl, rfl, rfl, rfl, rfl, ⟨⟩⟩, (sC (sC sR)), ⟨rfl, (by (try dsimp only) <;> omega), (hml), (hmk), (fun i hi => (Nat.lt_or_ge i j).elim (fun h => hno i h) (fun h => by obtain rfl : i = j := (by omega); exact hnx))⟩, (by omega)⟩
  have hj0 : t.getD j 0 < 0 := by omega
  have hgj2 := hgj (by omega)
  have hrj := htk _ (mem_of_getD (k := j) (by omega) rfl) hj0
  refine qq (t := 23) rfl (vF h3) (qj (ptr sb 0) rfl (qq (t := 23) rfl (vF h3) (qj (ii (t.getD j 0)) rfl (qq (t := 23) rfl (vF h3) (qY ((-1) - (t.getD j 0)) rfl rfl (by omega) (by omega) (qq (t := 23) rfl (vF h3) (jc rfl (qq (t := 23) rfl (vF h3) (jU (i := (-1) - (t.getD j 0)) (((-1) - (t.getD j 0)).toNat) (((-1) - (t.getD j 0)).toNat) runUnderlying248 sizeOf4 rfl rfl (by omega) (by omega) (by omega) (qq (t := 23) rfl (vF h3) (qi isAgg4 rfl (Rd.own [_] rfl (bools_get (by rw [hml]; omega))) (cX (qS (.bool (sm.getD (((-1) - (t.getD j 0)).toNat) false)) (vF h3) rfl (qb ?_))))))))))))))
  refine X.cond (t := sm.getD (((-1) - (t.getD j 0)).toNat) false) rfl (fun h4 => ?_) (fun h4 => ?_)
  ·have hnx : n ∉ σ (t.getD j 0) := hcl.seen hmr hj0 h4 hrj
   have hmk := hmr
   refine ja (qu (qJ (qa (cX (qI (((j + 1 : Nat) : Int)) rfl rfl (by omega) (by omega) (qf (ii (((j + 1 : Nat) : Int))) rfl (qb ?_)))))))
   exact ⟨(j + 1, sm), _, FLe.refl _, rF, ⟨rfl, rfl, rfl, rfl, rfl, rfl, ⟨⟩⟩, (sC (sC sR)), ⟨rfl, (by (try dsimp only) <;> omega), (hml), (hmk), (fun i hi => (Nat.lt_or_ge i j).elim (fun h => hno i h) (fun h => by obtain rfl : i = j := (by omega); exact hnx))⟩, (by omega)⟩
  have hun := h4
  refine qw (qc (qa (qf (ptr sb 0) rfl (qf (ii (t.getD j 0)) rfl (cX (qY ((-1) - (t.getD j 0)) rfl rfl (by omega) (by omega) (cX (jc rfl (cX (jU (i := (-1) - (t.getD j 0)) (((-1) - (t.getD j 0)).toNat) (((-1) - (t.getD j 0)).toNat) runUnderlying248 sizeOf4 rfl rfl (by omega) (by omega) (by omega) (cX (jq [_] _ (bools (sm.set (((-1) - (t.getD j 0)).toNat) true)) sizeOf4 rfl rfl rfl rfl (bools_blt (by rw [hml]; omega)) bools_set ?_))))))))))))
  have hl1 : (sm.set (((-1) - (t.getD j 0)).toNat) true).length = 48 := by rw [List.length_set]; exact hml
  refine qb (qc (qa (qf (ptr ub 0) rfl (qf (ii (t.getD j 0)) rfl (cX (qY ((-1) - (t.getD j 0)) rfl rfl (by omega) (by omega) (cX (jc rfl (cX (qn (1) ju rfl sizeOf142 (by decide) rfl rfl (cX (jU (i := (-1) - (t.getD j 0)) (((-1) - (t.getD j 0)).toNat) (1 + (((-1) - (t.getD j 0)).toNat)) jQ qr rfl rfl (by omega) (by omega) (by omega) ?_))))))))))))
  obtain ⟨a1, ha1, hn1, he1⟩ := hbc.get (i := ((-1) - (t.getD j 0)).toNat) (by omega)
  refine cX (qi qP rfl (Rd.own [] rfl (get_1 he1)) (qg (a1) rfl (qb (qc (qa (qf (a1) rfl (cX (XOp.neNil qd rfl rfl (qG ha1) (qf (.bool (!isNil a1)) rfl ?_)))))))))
  by_cases h5 : (!isNil a1) = true
  ·have hbn := ne_of_notNil hn1 h5
   have hnb : isNil a1 = false := by rw [hn1]; exact decide_eq_false hbn
   have hlj : lkN bl (t.getD j 0) ≠ [] := by rw [lkN_get hj0]; exact hbn
   have hwj := hb.wt _ hj0 hlj
   rw [lkN_get hj0] at hwj
   refine qq (t := 45) rfl (vB h5) (qj (ptr ub 0) rfl (qq (t := 45) rfl (vB h5) (qj (ii (n)) rfl (qq (t := 45) rfl (vB h5) (qj (a1) rfl (qq (t := 45) rfl (vB h5) (qj (ptr sb 0) rfl (ji (qE (A := [_])) ?_))))))))
   show XL _ _ _ _ _ _ _ (cellsH sb (bools ((sm.set (((-1) - (t.getD j 0)).toNat) true))) 248 :: cellsH ub (arv :: bs) 144 :: L)
   refine ji (qE (A := [_])) ?_
   show XL _ _ _ _ _ _ _ (cellsH ub (arv :: bs) 144 :: cellsH sb (bools ((sm.set (((-1) - (t.getD j 0)).toNat) true))) 248 :: L)
   refine qq (t := 45) rfl (vB h5) (qt (args := [ptr ub 0, ii (n), a1, ptr sb 0]) call212 rfl (ih _ hrj har hbc (by assumption) ha1 hσ hρ hn hnf (fun m hm h0 => by have := hρ _ hj0 m (by rw [lkN_get hj0]; exact hm) h0; exact this) (fun i hi => hwj.geD hi) hwj.len.2 hl1 (hcl.down hmr hml hj0 hgj2 hrj)) ?_)
   rintro _ _ _ _ ⟨s1, rfl, hs1, hm1, rfl, rfl⟩
   refine cX (qR (.bool (decide (n ∈ ap σ ((bl.getD (((-1) - (t.getD j 0)).toNat) []))))) (vB h5) rfl (qb ?_))
   refine qx (p := n ∈ ap σ ((bl.getD (((-1) - (t.getD j 0)).toNat) []))) rfl (fun h6 => ?_) (fun h6 => ?_)
   ·have hoc := h6
    refine qc (qa (qg (.bool (true)) rfl (qb (qy (qz (qk (qk (qz (qk (qs (L' := cellsH ub (arv :: bs) 144 :: cellsH sb (bools s1) 248 :: L) [.bool (true)] (.bool (true)) (.tmp rfl .nil) rfl rF rF (sC (sC sR)) ?_))))))))))
    have hnt : decide (n ∈ ap σ t) = true := decide_eq_true (occ_in (j := j) hσ (by omega) rfl hlj (by rw [lkN_get hj0]; exact hoc))
    exact ⟨_, congrArg Value.bool hnt, hs1, fun h9 => absurd (of_decide_eq_true hnt) h9, rfl, rfl⟩
   have hnx : n ∉ σ (t.getD j 0) := bound_no hσ hlj (by rw [lkN_get hj0]; exact h6)
   have hmk := hmr.step hml hj0 hgj2 (hm1 h6) hnx
   refine qw (qa (cX (qI (((j + 1 : Nat) : Int)) rfl rfl (by omega) (by omega) (qf (ii (((j + 1 : Nat) : Int))) rfl (qb ?_)))))
   exact ⟨(j + 1, s1), _, FLe.refl _, rF, ⟨rfl, rfl, rfl, rfl, rfl, rfl, ⟨⟩⟩, (sC (sC sR)), ⟨rfl, (by (try dsimp only) <;> omega), (hs1), (hmk), (fun i hi => (Nat.lt_or_ge i j).elim (fun h => hno i h) (fun h => by obtain rfl : i = j := (by omega); exact hnx))⟩, (by omega)⟩
  rw [Bool.not_eq_true] at h5
  have hbe := eq_of_isNil hn1 h5
  have hnx : n ∉ σ (t.getD j 0) := free_no hσ hne (by rw [lkN_get hj0]; exact hbe)
  have hmk := hmr.set hml hj0 hgj2 hnx
  refine qp (t := 45) rfl (vB h5) (qp (t := 45) rfl (vB h5) (qp (t := 45) rfl (vB h5) (qp (t := 45) rfl (vB h5) (qp (t := 45) rfl (vB h5) (cX (qS (.bool (false)) (vB h5) rfl (qb (jz rfl (qw (qa (cX (qI (((j + 1 : Nat) : Int)) rfl rfl (by omega) (by omega) ?_))))))))))))
  refine qf (ii (((j + 1 : Nat) : Int))) rfl (qb ?_)
  exact ⟨(j + 1, (sm.set (((-1) - (t.getD j 0)).toNat) true)), _, FLe.refl _, rF, ⟨rfl, rfl, rfl, rfl, rfl, rfl, ⟨⟩⟩, (sC (sC sR)), ⟨rfl, (by (try dsimp only) <;> omega), (hl1), (hmk), (fun i hi => (Nat.lt_or_ge i j).elim (fun h => hno i h) (fun h => by obtain rfl : i = j := (by omega); exact hnx))⟩, (by omega)⟩
 refine ja (qu (qu (qJ (qc (qa (qg (.bool (false)) rfl (qb (qy (qs (L' := cellsH ub (arv :: bs) 144 :: cellsH sb (bools sm) 248 :: L) [.bool (false)] (.bool (false)) (.tmp rfl .nil) rfl rF rF (sC (sC sR)) ?_)))))))))
 have hnt : n ∉ ap σ t := occ_not (fun i hi => hno i (by omega))
 exact ⟨_, congrArg Value.bool (decide_eq_false hnt), hml, fun _ => hmr, rfl, rfl⟩

theorem occurs_spec (k : Nat) : ∀ {F : FH} {L : List HP} {ub : Nat} {arv : Value} {ar : List Int} {bs : List Value} {bl : RowL} (har : IntsF F arv ar) (hbc : BindC F bs bl) (hb : BOk ar bl) {sb : Nat} {σ : Sbs} {ρ : Int → Nat} {n : Int} {tv : Value} {t : List Int} (ht : IntsF F tv t) {sn : List Bool} (hσ : Sol bl σ) (hρ : Acyc bl ρ) (hn : n < 0) (hnf : lkN bl n = []) (htk : ∀ m ∈ t, m < 0 → ρ m < k) (htg : ∀ i, i < t.length → -48 ≤ t.getD i 0) (htl : t.length ≤ 60) (hsl : sn.length = 48) (hcl : ClearM σ ρ n k sn), Does prog 212 [ptr ub 0, ii (n), tv, ptr sb 0] F (cellsH ub (arv :: bs) 144 :: cellsH sb (bools sn) 248 :: L) (fun v F' L' => ∃ s9 : List Bool, (.bool (decide (n ∈ ap σ t)) : Value) = v ∧ s9.length = 48 ∧ (n ∉ ap σ t → MarkR σ n sn s9) ∧ F = F' ∧ cellsH ub (arv :: bs) 144 :: cellsH sb (bools s9) 248 :: L = L') := by
  induction k using Nat.strongRecOn with
  | _ k ih =>
    intros
    exact occurs_step ih (by assumption) (by assumption) (by assumption) (by assumption) (by assumption) (by assumption) (by assumption) (by assumption) (by assumption) (by assumption) (by assumption) (by assumption) (by assumption)


/- (*impl.unifier).equate -/
set_option maxHeartbeats 2000000 in
set_option maxRecDepth 20000 in
theorem equate_step {k N : Nat} (ih : ∀ (k1 N1 : Nat), (k1 < k ∨ k1 = k ∧ N1 < N) → ∀ {F : FH} {L : List HP} {ub : Nat} {arv : Value} {ar : List Int} {bs : List Value} {bl : RowL} (har : IntsF F arv ar) (hbc : BindC F bs bl) (hb : BOk ar bl) {σ : Sbs} {av : Value} {a : List Int} (ha : IntsF F av a) {cv : Value} {c : List Int} (hc : IntsF F cv c) (hσ : Sol bl σ) (hoa : TermW ar a) (hoc : TermW ar c) (hna : isNil av = false) (hnc : isNil cv = false) (hk : unb bl ≤ k1) (hN : (ap σ a).length ≤ N1), DoesP prog 168 [ptr ub 0, av, cv] F (cellsH ub (arv :: bs) 144 :: L) (fun v F' L' => ∃ (b9 : List Value) (l9 : RowL), (.tuple #[] : Value) = v ∧ BindC F' b9 l9 ∧ Solves ar bl l9 (fun θ => ap θ a = ap θ c) ∧ cellsH ub (arv :: b9) 144 :: L = L') (fun ch F' L' => ∃ (b9 : List Value) (l9 : RowL), ch = [{ v := .iface 202 (.agg #[]), recovered := false }] ∧ BindC F' b9 l9 ∧ (∀ θ, GoodS ar θ → SatB bl θ → ap θ a ≠ ap θ c) ∧ cellsH ub (arv :: b9) 144 :: L = L')) {F : FH} {L : List HP} {ub : Nat} {arv : Value} {ar : List Int} {bs : List Value} {bl : RowL} (har : IntsF F arv ar) (hbc : BindC F bs bl) (hb : BOk ar bl) {σ : Sbs} {av : Value} {a : List Int} (ha : IntsF F av a) {cv : Value} {c : List Int} (hc : IntsF F cv c) (hσ : Sol bl σ) (hoa : TermW ar a) (hoc : TermW ar c) (hna : isNil av = false) (hnc : isNil cv = false) (hk : unb bl ≤ k) (hN : (ap σ a).length ≤ N) :
    DoesP prog 168 [ptr ub 0, av, cv] F (cellsH ub (arv :: bs) 144 :: L) (fun v F' L' => ∃ (b9 : List Value) (l9 : RowL), (.tuple #[] : Value) = v ∧ BindC F' b9 l9 ∧ Solves ar bl l9 (fun θ => ap θ a = ap θ c) ∧ cellsH ub (arv :: b9) 144 :: L = L') (fun ch F' L' => ∃ (b9 : List Value) (l9 : RowL), ch = [{ v := .iface 202 (.agg #[]), recovered := false }] ∧ BindC F' b9 l9 ∧ (∀ θ, GoodS ar θ → SatB bl θ → ap θ a ≠ ap θ c) ∧ cellsH ub (arv :: b9) 144 :: L = L') := by
 refine DoesP.of_X func168 rfl rfl rfl (qc (qa (qf (ptr ub 0) rfl (qf (av) rfl (cX (qt (args := [ptr ub 0, av]) call211 rfl (root_spec har hbc (by assumption) ha (ho := by assumption) (hnn := by assumption)) ?_))))))
 rintro v1 _ _ _ ⟨u1, hv1, hn1, hru1, rfl, rfl⟩
 refine qf (ptr ub 0) rfl (qf (cv) rfl (cX (qt (args := [ptr ub 0, cv]) call211 rfl (root_spec har hbc (by assumption) hc (ho := by assumption) (hnn := by assumption)) ?_)))
 rintro v2 _ _ _ ⟨u2, hv2, hn2, hru2, rfl, rfl⟩
 refine qg (v1) rfl (qg (v2) rfl ?_)
 have hl1 := hru1.w.len
 have hl2 := hru2.w.len
 refine qb (qc (qc ?_))
 refine jn [cellsH ub (arv :: bs) 144] L 6 [] [[], [0], [1], [], [3], [4]] (phiL [qe v1, qe (.pointer (some (elemA v1 (0)))), qe (ii (u1.getD 0 0)), qe v2, qe (.pointer (some (elemA v2 (0)))), qe (ii (u2.getD 0 0))]) (ownL []) mixed rfl rfl (by kernel_rfl) ?_ ?_
 ·refine pD (fun W R z9 => ?_) ?_
  ·refine qh (qj (v1) rfl ?_)
   exact ⟨rfl, rfl, rfl⟩
  refine pD (fun W R z9 => ?_) ?_
  ·rw [eS (l := [(0, _)]) ⟨z9 0 rfl, ⟨⟩⟩]
   refine qh (ql 0 qd qo rfl rfl rfl hv1.slv (by omega) (Nat.mul_one _) ?_)
   exact ⟨rfl, rfl, rfl⟩
  refine pD (fun W R z9 => ?_) ?_
  ·rw [eS (l := [(1, _)]) ⟨z9 1 rfl, ⟨⟩⟩]
   refine qh (qi qK rfl (hv1.rd (by omega)) ?_)
   exact ⟨rfl, rfl, rfl⟩
  refine pD (fun W R z9 => ?_) ?_
  ·refine qh (qj (v2) rfl ?_)
   exact ⟨rfl, rfl, rfl⟩
  refine pD (fun W R z9 => ?_) ?_
  ·rw [eS (l := [(3, _)]) ⟨z9 3 rfl, ⟨⟩⟩]
   refine qh (ql 0 qd qo rfl rfl rfl hv2.slv (by omega) (Nat.mul_one _) ?_)
   exact ⟨rfl, rfl, rfl⟩
  refine pD (fun W R z9 => ?_) ?_
  ·rw [eS (l := [(4, _)]) ⟨z9 4 rfl, ⟨⟩⟩]
   refine qh (qi qK rfl (hv2.rd (by omega)) ?_)
   exact ⟨rfl, rfl, rfl⟩
  exact stepsP.nil
 intro W hphi
 rw [eS (l := [(2, _), (5, _)]) ⟨(hphi 2 (by decide)), (hphi 5 (by decide)), ⟨⟩⟩]
 show XL _ _ _ _ _ _ _ (cellsH ub (arv :: bs) 144 :: L)
 refine cX (jI rfl rfl (qf (.bool (decide ((u1.getD 0 0 : Int) = u2.getD 0 0))) rfl ?_))
 by_cases h1 : (u1.getD 0 0 : Int) = u2.getD 0 0
 ·refine qq (t := 22) rfl (vT h1) (qj (v1) rfl (qq (t := 22) rfl (vT h1) (ql 0 qd qo rfl rfl rfl hv1.slv (by omega) (Nat.mul_one _) (qq (t := 22) rfl (vT h1) (qi qK rfl (hv1.rd (by omega)) (qq (t := 22) rfl (vT h1) (qL rfl rfl (cX (qR (.bool (decide ((u1.getD 0 0 : Int) < 0))) (vT h1) rfl (qb ?_))))))))))
  refine qx (p := (u1.getD 0 0 : Int) < 0) rfl (fun h2 => ?_) (fun h2 => ?_)
  ·refine qy (qk (retEndP (L' := cellsH ub (arv :: bs) 144 :: L) [] (.tuple #[]) (by exact .nil) rfl rF rF (sC sR) ?_))
   exact ⟨_, _, rfl, hbc, same_eq hb hru1 hru2 (by omega) (by omega), rfl⟩
  refine qw (qc (qc ?_))
  by_cases h3 : (u2.getD 0 0 : Int) < 0
  ·exfalso
   omega
  refine jn [cellsH ub (arv :: bs) 144] L 16 [] [[], [0], [1], [2], [3], [4], [4, 5], [4, 6], [4, 7], [4, 8], [9], [9, 10], [9, 11], [9], [9, 13], [9, 14]] (phiL [qe v2, qe (.pointer (some (elemA v2 (0)))), qe (ii (u2.getD 0 0)), qe (.bool (decide ((u2.getD 0 0 : Int) < 0)) : Value), qe (.bool (decide ((u2.getD 0 0 : Int) < 0)) : Value), qe undef, qe undef, qe undef, qe undef, qe undef, qe undef, qe undef, qe undef, qe undef, qe undef, qe undef]) (ownL []) mixed rfl rfl (by kernel_rfl) ?_ ?_
  ·refine pD (fun W R z9 => ?_) ?_
   ·refine qh (qj (v2) rfl ?_)
    exact ⟨rfl, rfl, rfl⟩
   refine pD (fun W R z9 => ?_) ?_
   ·rw [eS (l := [(0, _)]) ⟨z9 0 rfl, ⟨⟩⟩]
    refine qh (ql 0 qd qo rfl rfl rfl hv2.slv (by omega) (Nat.mul_one _) ?_)
    exact ⟨rfl, rfl, rfl⟩
   refine pD (fun W R z9 => ?_) ?_
   ·rw [eS (l := [(1, _)]) ⟨z9 1 rfl, ⟨⟩⟩]
    refine qh (qi qK rfl (hv2.rd (by omega)) ?_)
    exact ⟨rfl, rfl, rfl⟩
   refine pD (fun W R z9 => ?_) ?_
   ·rw [eS (l := [(2, _)]) ⟨z9 2 rfl, ⟨⟩⟩]
    refine qh (qL rfl rfl ?_)
    exact ⟨rfl, rfl, rfl⟩
   refine pD (fun W R z9 => ?_) ?_
   ·rw [eS (l := [(3, _)]) ⟨z9 3 rfl, ⟨⟩⟩]
    refine qh (qj (.bool (decide ((u2.getD 0 0 : Int) < 0))) rfl ?_)
    exact ⟨rfl, rfl, rfl⟩
   refine pD (fun W R z9 => ?_) ?_
   ·rw [eS (l := [(4, _)]) ⟨z9 4 rfl, ⟨⟩⟩]
    exact jd (t := 32) rfl (vF h3) ⟨rfl, rfl, rfl⟩
   refine pD (fun W R z9 => ?_) ?_
   ·rw [eS (l := [(4, _), (5, undef)]) ⟨z9 4 rfl, z9 5 rfl, ⟨⟩⟩]
    exact jd (t := 32) rfl (vF h3) ⟨rfl, rfl, rfl⟩
   refine pD (fun W R z9 => ?_) ?_
   ·rw [eS (l := [(4, _), (6, undef)]) ⟨z9 4 rfl, z9 6 rfl, ⟨⟩⟩]
    exact jd (t := 32) rfl (vF h3) ⟨rfl, rfl, rfl⟩
   refine pD (fun W R z9 => ?_) ?_
   ·rw [eS (l := [(4, _), (7, undef)]) ⟨z9 4 rfl, z9 7 rfl, ⟨⟩⟩]
    exact jd (t := 32) rfl (vF h3) ⟨rfl, rfl, rfl⟩
   refine pD (fun W R z9 => ?_) ?_
   ·rw [eS (l := [(4, _), (8, undef)]) ⟨z9 4 rfl, z9 8 rfl, ⟨⟩⟩]
    exact jd (t := 32) rfl (vF h3) ⟨rfl, rfl, rfl⟩
   refine pD (fun W R z9 => ?_) ?_
   ·rw [eS (l := [(9, undef)]) ⟨z9 9 rfl, ⟨⟩⟩]
    exact XG.noU (t := 37) rfl rfl ⟨rfl, rfl, rfl⟩
   refine pD (fun W R z9 => ?_) ?_
   ·rw [eS (l := [(9, undef), (10, undef)]) ⟨z9 9 rfl, z9 10 rfl, ⟨⟩⟩]
    exact XG.noU (t := 37) rfl rfl ⟨rfl, rfl, rfl⟩
   refine pD (fun W R z9 => ?_) ?_
   ·rw [eS (l := [(9, undef), (11, undef)]) ⟨z9 9 rfl, z9 11 rfl, ⟨⟩⟩]
    exact XG.noU (t := 37) rfl rfl ⟨rfl, rfl, rfl⟩
   refine pD (fun W R z9 => ?_) ?_
   ·rw [eS (l := [(9, undef)]) ⟨z9 9 rfl, ⟨⟩⟩]
    exact XG.noU (t := 37) rfl rfl ⟨rfl, rfl, rfl⟩
   refine pD (fun W R z9 => ?_) ?_
   ·rw [eS (l := [(9, undef), (13, undef)]) ⟨z9 9 rfl, z9 13 rfl, ⟨⟩⟩]
    exact XG.noU (t := 37) rfl rfl ⟨rfl, rfl, rfl⟩
   refine pD (fun W R z9 => ?_) ?_
   ·rw [eS (l := [(9, undef), (14, undef)]) ⟨z9 9 rfl, z9 14 rfl, ⟨⟩⟩]
    exact XG.noU (t := 37) rfl rfl ⟨rfl, rfl, rfl⟩
   exact stepsP.nil
  intro W hphi
  rw [eS (l := [(4, _), (9, undef), (12, undef), (15, undef)]) ⟨(hphi 4 (by decide)), (hphi 9 (by decide)), (hphi 12 (by decide)), (hphi 15 (by decide)), ⟨⟩⟩]
  show XL _ _ _ _ _ _ _ (cellsH ub (arv :: bs) 144 :: L)
  refine XL.noU (t := 37) rfl rfl (qp (t := 32) rfl (vF h3) (cX (qS (.bool (false)) (vF h3) rfl (qb (jz rfl (qw (qc (qc (qa ?_)))))))))
  have hrx := hru1
  have hry := hru2
  have hnx := hn1
  have hny := hn2
  have hwx := hrx.w
  have hwy := hry.w
  have hxl := hrx.w.len
  have hyl := hry.w.len
  have hxg := hrx.w.geD (p := 0) (by omega)
  have hyg := hry.w.geD (p := 0) (by omega)
  have hbl := hb.len
  skip
  refine qf (v1) rfl (cX (ql 0 qd qo rfl rfl rfl hv1.slv (by omega) (Nat.mul_one _) (cX (qi qK rfl (hv1.rd (by omega)) (cX (qL rfl rfl (qb (jz (vF h2) (qw (qc (qc ?_)))))))))))
  refine jn [cellsH ub (arv :: bs) 144] L 6 [] [[], [0], [1], [], [3], [4]] (phiL [qe v1, qe (.pointer (some (elemA v1 (0)))), qe (ii (u1.getD 0 0)), qe v2, qe (.pointer (some (elemA v2 (0)))), qe (ii (u2.getD 0 0))]) (ownL []) mixed rfl rfl (by kernel_rfl) ?_ ?_
  ·refine pD (fun W R z9 => ?_) ?_
   ·refine qh (qj (v1) rfl ?_)
    exact ⟨rfl, rfl, rfl⟩
   refine pD (fun W R z9 => ?_) ?_
   ·rw [eS (l := [(0, _)]) ⟨z9 0 rfl, ⟨⟩⟩]
    refine qh (ql 0 qd qo rfl rfl rfl hv1.slv (by omega) (Nat.mul_one _) ?_)
    exact ⟨rfl, rfl, rfl⟩
   refine pD (fun W R z9 => ?_) ?_
   ·rw [eS (l := [(1, _)]) ⟨z9 1 rfl, ⟨⟩⟩]
    refine qh (qi qK rfl (hv1.rd (by omega)) ?_)
    exact ⟨rfl, rfl, rfl⟩
   refine pD (fun W R z9 => ?_) ?_
   ·refine qh (qj (v2) rfl ?_)
    exact ⟨rfl, rfl, rfl⟩
   refine pD (fun W R z9 => ?_) ?_
   ·rw [eS (l := [(3, _)]) ⟨z9 3 rfl, ⟨⟩⟩]
    refine qh (ql 0 qd qo rfl rfl rfl hv2.slv (by omega) (Nat.mul_one _) ?_)
    exact ⟨rfl, rfl, rfl⟩
   refine pD (fun W R z9 => ?_) ?_
   ·rw [eS (l := [(4, _)]) ⟨z9 4 rfl, ⟨⟩⟩]
    refine qh (qi qK rfl (hv2.rd (by omega)) ?_)
    exact ⟨rfl, rfl, rfl⟩
   exact stepsP.nil
  intro W hphi
  rw [eS (l := [(2, _), (5, _)]) ⟨(hphi 2 (by decide)), (hphi 5 (by decide)), ⟨⟩⟩]
  show XL _ _ _ _ _ _ _ (cellsH ub (arv :: bs) 144 :: L)
  refine cX (XOp.neq rfl rfl (qb ?_))
  refine qx (p := (u1.getD 0 0 : Int) ≠ u2.getD 0 0) rfl (fun h4 => ?_) (fun h4 => ?_)
  ·refine qa ?_
   skip
   refine cX (jw [] [] [] [] jR zeroValue202 rfl PlacesAre.nil rfl CellsAre.nil (cX (XOp.iface jR rfl (ji ((sC sR)) (XL.panicI rfl ?_)))))
   exact .inr ⟨_, rfl, _, _, rfl, hbc, (heads_ne hrx hry (by omega) (by omega) (by omega)), rfl⟩
  have hhd : u1.getD 0 0 = u2.getD 0 0 := by omega
  refine qw (qc ?_)
  refine X.drawG [cellsH ub (arv :: bs) 144] L 11 [] [[], [0], [1], [2], [], [3, 4], [], [6], [7], [8]] [] (phiG [pe (ptr ub 0), pe (ptr ub 0), pe (ptr ub 0), pe (.agg #[arv]), pe v1, fun FF us v => ((v) : Value) = v ∧ (IntsF FF (v) (argsL ar u1 0)), pe (ptr ub 0), pe (ptr ub 0), pe (ptr ub 0), pe (.agg #[arv]), pe v2]) (ownL []) mixed rfl rfl (by kernel_rfl) (by kernel_rfl) (MonoG.get (m1 (m1 (m1 (m1 (m1 (mC (fun le h => ⟨h.1, h.2.mono le⟩) (m1 (m1 (m1 (m1 (m1 MonoG.nil)))))))))))) ?_ ?_
  ·refine gD (fun W Fs R lF z9 => ?_) ?_
   ·refine qh (qj (ptr ub 0) rfl ?_)
    exact ⟨rfl, rfl⟩
   refine gD (fun W Fs R lF z9 => ?_) ?_
   ·replace har := har.mono lF
    replace hbc := hbc.mono lF
    replace hv1 := hv1.mono lF
    replace hv2 := hv2.mono lF
    rw [eS (l := [(0, _)]) ⟨z9 0 rfl, ⟨⟩⟩]
    refine qh (jc rfl ?_)
    exact ⟨rfl, rfl⟩
   refine gD (fun W Fs R lF z9 => ?_) ?_
   ·rw [eS (l := [(1, _)]) ⟨z9 1 rfl, ⟨⟩⟩]
    refine qh (qn (0) ju rfl qN (by decide) rfl rfl ?_)
    exact ⟨rfl, rfl⟩
   refine gD (fun W Fs R lF z9 => ?_) ?_
   ·replace har := har.mono lF
    replace hbc := hbc.mono lF
    replace hv1 := hv1.mono lF
    replace hv2 := hv2.mono lF
    rw [eS (l := [(2, _)]) ⟨z9 2 rfl, ⟨⟩⟩]
    refine qh (qB [arv] je qN rfl rfl (Rd.ownN [] rfl rfl) ?_)
    exact ⟨rfl, rfl⟩
   refine gD (fun W Fs R lF z9 => ?_) ?_
   ·refine qh (qj (v1) rfl ?_)
    exact ⟨rfl, rfl⟩
   refine gD (fun W Fs R lF z9 => ?_) ?_
   ·replace har := har.mono lF
    replace hbc := hbc.mono lF
    replace hv1 := hv1.mono lF
    replace hv2 := hv2.mono lF
    rw [eS (l := [(3, _), (4, _)]) ⟨z9 3 rfl, z9 4 rfl, ⟨⟩⟩]
    refine qh (jK <| qt (args := [.agg #[arv], v1, ii ((0 : Nat) : Int)]) call156 rfl (argsAtW_spec (p := 0) har hv1 (ho := (by first | assumption | rfl | omega | simp)) (hp := (by first | assumption | rfl | omega | simp))) ?_)
    rintro v4 _ _ _ ⟨rfl, hs2, rfl⟩
    refine ⟨_, _, rfl, fun F1 le1 hz1 => ?_⟩
    replace har := har.mono le1
    replace hbc := hbc.mono le1
    replace hv1 := hv1.mono le1
    replace hv2 := hv2.mono le1
    have hf1 : IntsF F1 v4 ((argsL ar u1 0)) := intsH.fz (xs := (argsL ar u1 0)) hz1.fz
    exact ⟨⟨rfl, hf1⟩, rfl⟩
   refine gD (fun W Fs R lF z9 => ?_) ?_
   ·refine qh (qj (ptr ub 0) rfl ?_)
    exact ⟨rfl, rfl⟩
   refine gD (fun W Fs R lF z9 => ?_) ?_
   ·replace har := har.mono lF
    replace hbc := hbc.mono lF
    replace hv1 := hv1.mono lF
    replace hv2 := hv2.mono lF
    rw [eS (l := [(6, _)]) ⟨z9 6 rfl, ⟨⟩⟩]
    refine qh (jc rfl ?_)
    exact ⟨rfl, rfl⟩
   refine gD (fun W Fs R lF z9 => ?_) ?_
   ·rw [eS (l := [(7, _)]) ⟨z9 7 rfl, ⟨⟩⟩]
    refine qh (qn (0) ju rfl qN (by decide) rfl rfl ?_)
    exact ⟨rfl, rfl⟩
   refine gD (fun W Fs R lF z9 => ?_) ?_
   ·replace har := har.mono lF
    replace hbc := hbc.mono lF
    replace hv1 := hv1.mono lF
    replace hv2 := hv2.mono lF
    rw [eS (l := [(8, _)]) ⟨z9 8 rfl, ⟨⟩⟩]
    refine qh (qB [arv] je qN rfl rfl (Rd.ownN [] rfl rfl) ?_)
    exact ⟨rfl, rfl⟩
   refine gD (fun W Fs R lF z9 => ?_) ?_
   ·refine qh (qj (v2) rfl ?_)
    exact ⟨rfl, rfl⟩
   exact stepsG.nil
  intro W F2 le2 hphi
  obtain ⟨e5, f5_5ha⟩ := hphi 5 (by decide)
  generalize hu1 : ((W 5)) = u3 at e5 f5_5ha
  rw [eS (l := [(5, u3), (9, _), (10, _)]) ⟨hu1, (hphi 9 (by decide)), (hphi 10 (by decide)), ⟨⟩⟩]
  replace har := har.mono le2
  replace hbc := hbc.mono le2
  replace hv1 := hv1.mono le2
  replace hv2 := hv2.mono le2
  show XL _ _ _ _ _ _ _ (cellsH ub (arv :: bs) 144 :: L)
  refine cX (jK <| qt (args := [.agg #[arv], v2, ii ((0 : Nat) : Int)]) call156 rfl (argsAtW_spec (p := 0) har hv2 (ho := (by first | assumption | rfl | omega | simp)) (hp := (by first | assumption | rfl | omega | simp))) ?_)
  rintro v5 _ _ _ ⟨rfl, hs3, rfl⟩
  refine ⟨_, _, rfl, fun F3 le3 hz2 => ?_⟩
  replace har := har.mono le3
  replace hbc := hbc.mono le3
  replace hv1 := hv1.mono le3
  replace hv2 := hv2.mono le3
  replace f5_5ha := f5_5ha.mono le3
  have hf2 : IntsF F3 v5 ((argsL ar u2 0)) := intsH.fz (xs := (argsL ar u2 0)) hz2.fz
  refine qg (u3) rfl (qg (v5) rfl (qb (qc (qa (qf (u3) rfl (cX (qC jV rfl f5_5ha.slv (qf (ii (0)) rfl (qb (qF (jj (α := Nat × List Value × RowL × FH) (fun xQ => [(0, ptr ub 0), (1, v1), (2, v2), (6, u3), (7, v5), (100, ii (((((argsL ar u1 0)).length : Nat) : Int))), (101, ii (((xQ.1 : Nat) : Int)))]) (fun xQ => cellsH ub (arv :: xQ.2.1) 144 :: L) (fun xQ F' => xQ.2.2.2 = F' ∧ F3 ≤ xQ.2.2.2 ∧ (BindC xQ.2.2.2 xQ.2.1 xQ.2.2.1) ∧ (xQ.1 ≤ (argsL ar u1 0).length) ∧ (Solves ar bl xQ.2.2.1 (EqTo ar u1 u2 xQ.1))) (fun xQ => (argsL ar u1 0).length - xQ.1) (0, bs, bl, F3) ⟨rfl, rfl, rfl, rfl, rfl, rfl, rfl, ⟨⟩⟩ (sC sR) ⟨rfl, FLe.refl _, (hbc), (Nat.zero_le _), (EqTo.start hb)⟩ ?_)))))))))))
  rintro ⟨j, bj, lj, G1⟩ rE _ _ ⟨rfl, leG, hbj, hj, hso⟩
  show X _ _ _ _ (envs [(0, ptr ub 0), (1, v1), (2, v2), (6, u3), (7, v5), (100, ii (((((argsL ar u1 0)).length : Nat) : Int))), (101, ii ((j : Int)))] rE) _ (cellsH ub (arv :: bj) 144 :: L)
  replace leG : F3 ≤ G1 := leG
  dsimp only at hbj hj hso
  have hajx := fun h : j < (argsL ar u1 0).length => hrx.w.args_in (p := 0) (by omega) h
  have hajy := fun h : j < (argsL ar u2 0).length => hry.w.args_in (p := 0) (by omega) h
  have hlax := args_same (ar := ar) hhd
  have hla3 := hrx.w.args_le (p := 0) (by omega)
  have hex0 := hrx.w.end0
  have hey0 := hry.w.end0
  have leG1 := leG
  replace har := har.mono leG1
  replace hbc := hbc.mono leG1
  replace hv1 := hv1.mono leG1
  replace hv2 := hv2.mono leG1
  replace f5_5ha := f5_5ha.mono leG1
  replace hf2 := hf2.mono leG1
  refine qc (qa (cX (qL rfl rfl (qb (qc ?_)))))
  refine qx (p := (j : Int) < ((((argsL ar u1 0)).length : Nat) : Int)) rfl (fun h5 => ?_) (fun h5 => ?_)
  ·have hjx : j < (argsL ar u1 0).length := by omega
   have hjy : j < (argsL ar u2 0).length := by omega
   obtain ⟨σ1, k1, N1, hσ1, hk1, hN1, hless⟩ := EqTo.less hso hb hσ hrx (by rw [parts_args]; exact hjx) hk hN
   have hpx := parts_W hrx.w hjx
   have hpy := parts_W hry.w hjy
   have hb2 := hso.ok
   rw [parts_get hjx] at hpx hN1
   rw [parts_get hjy] at hpy
   refine qw (qc (qF (qc (qa (qf (ii ((j : Int))) rfl (qg (ii ((j : Int))) rfl (qb ?_)))))))
   refine X.drawG [cellsH ub (arv :: bj) 144] L 21 [] [[], [], [1], [2], [3], [], [], [], [6, 7], [8], [4, 5, 9], [], [11], [12], [13], [], [], [], [16, 17], [18], [14, 15, 19]] [] (phiG [pe (ptr ub 0), pe (ptr ub 0), pe (ptr ub 0), pe (ptr ub 0), pe (.agg #[arv]), pe v1, pe u3, pe (ii ((j : Int)) : Value), pe (.pointer (some (elemA u3 (j)))), pe (ii (((argsL ar u1 0)).getD j 0)), fun FF us v => ((v) : Value) = v ∧ (IntsF FF (v) (sub ar u1 ((((argsL ar u1 0)).getD j 0).toNat))) ∧ (isNil (v) = false), pe (ptr ub 0), pe (ptr ub 0), pe (ptr ub 0), pe (.agg #[arv]), pe v2, pe v5, pe (ii ((j : Int)) : Value), pe (.pointer (some (elemA v5 (j)))), pe (ii (((argsL ar u2 0)).getD j 0)), fun FF us v => ((v) : Value) = v ∧ (IntsF FF (v) (sub ar u2 ((((argsL ar u2 0)).getD j 0).toNat))) ∧ (isNil (v) = false)]) (ownL []) mixed rfl rfl (by kernel_rfl) (by kernel_rfl) (MonoG.get (m1 (m1 (m1 (m1 (m1 (m1 (m1 (m1 (m1 (m1 (mC (fun le h => ⟨h.1, h.2.1.mono le, h.2.2⟩) (m1 (m1 (m1 (m1 (m1 (m1 (m1 (m1 (m1 (mC (fun le h => ⟨h.1, h.2.1.mono le, h.2.2⟩) MonoG.nil)))))))))))))))))))))) ?_ ?_
   ·refine gD (fun W Fs R lF z9 => ?_) ?_
    ·refine qh (qj (ptr ub 0) rfl ?_)
     exact ⟨rfl, rfl⟩
    refine gD (fun W Fs R lF z9 => ?_) ?_
    ·refine qh (qj (ptr ub 0) rfl ?_)
     exact ⟨rfl, rfl⟩
    refine gD (fun W Fs R lF z9 => ?_) ?_
    ·replace har := har.mono lF
     replace hbc := hbc.mono lF
     replace hv1 := hv1.mono lF
     replace hv2 := hv2.mono lF
     replace f5_5ha := f5_5ha.mono lF
     replace hf2 := hf2.mono lF
     replace hbj := hbj.mono lF
     rw [eS (l := [(1, _)]) ⟨z9 1 rfl, ⟨⟩⟩]
     refine qh (jc rfl ?_)
     exact ⟨rfl, rfl⟩
    refine gD (fun W Fs R lF z9 => ?_) ?_
    ·rw [eS (l := [(2, _)]) ⟨z9 2 rfl, ⟨⟩⟩]
     refine qh (qn (0) ju rfl qN (by decide) rfl rfl ?_)
     exact ⟨rfl, rfl⟩
    refine gD (fun W Fs R lF z9 => ?_) ?_
    ·replace har := har.mono lF
     replace hbc := hbc.mono lF
     replace hv1 := hv1.mono lF
     replace hv2 := hv2.mono lF
     replace f5_5ha := f5_5ha.mono lF
     replace hf2 := hf2.mono lF
     replace hbj := hbj.mono lF
     rw [eS (l := [(3, _)]) ⟨z9 3 rfl, ⟨⟩⟩]
     refine qh (qB [arv] je qN rfl rfl (Rd.ownN [] rfl rfl) ?_)
     exact ⟨rfl, rfl⟩
    refine gD (fun W Fs R lF z9 => ?_) ?_
    ·refine qh (qj (v1) rfl ?_)
     exact ⟨rfl, rfl⟩
    refine gD (fun W Fs R lF z9 => ?_) ?_
    ·refine qh (qj (u3) rfl ?_)
     exact ⟨rfl, rfl⟩
    refine gD (fun W Fs R lF z9 => ?_) ?_
    ·refine qh (qj (ii ((j : Int))) rfl ?_)
     exact ⟨rfl, rfl⟩
    refine gD (fun W Fs R lF z9 => ?_) ?_
    ·replace har := har.mono lF
     replace hbc := hbc.mono lF
     replace hv1 := hv1.mono lF
     replace hv2 := hv2.mono lF
     replace f5_5ha := f5_5ha.mono lF
     replace hf2 := hf2.mono lF
     replace hbj := hbj.mono lF
     rw [eS (l := [(6, _), (7, _)]) ⟨z9 6 rfl, z9 7 rfl, ⟨⟩⟩]
     refine qh (ql j jV ya rfl rfl rfl f5_5ha.slv (by omega) (Nat.mul_one _) ?_)
     exact ⟨rfl, rfl⟩
    refine gD (fun W Fs R lF z9 => ?_) ?_
    ·replace har := har.mono lF
     replace hbc := hbc.mono lF
     replace hv1 := hv1.mono lF
     replace hv2 := hv2.mono lF
     replace f5_5ha := f5_5ha.mono lF
     replace hf2 := hf2.mono lF
     replace hbj := hbj.mono lF
     rw [eS (l := [(8, _)]) ⟨z9 8 rfl, ⟨⟩⟩]
     refine qh (qi isAgg3 rfl (f5_5ha.rd (by omega)) ?_)
     exact ⟨rfl, rfl⟩
    refine gD (fun W Fs R lF z9 => ?_) ?_
    ·replace har := har.mono lF
     replace hbc := hbc.mono lF
     replace hv1 := hv1.mono lF
     replace hv2 := hv2.mono lF
     replace hf2 := hf2.mono lF
     replace hbj := hbj.mono lF
     rw [eS (l := [(4, _), (5, _), (9, _)]) ⟨z9 4 rfl, z9 5 rfl, z9 9 rfl, ⟨⟩⟩]
     refine qh (qt (args := [.agg #[arv], v1, ii (((((argsL ar u1 0)).getD j 0).toNat : Nat) : Int)]) call55 (by rw [show (((((argsL ar u1 0)).getD j 0).toNat : Nat) : Int) = ((argsL ar u1 0)).getD j 0 from by omega]; rfl) (subAtW_spec (p := (((argsL ar u1 0)).getD j 0).toNat) har hv1 (ho := (by first | assumption | rfl | omega | simp)) (hp := (by first | assumption | rfl | omega | simp)) (hnn := (by first | assumption | rfl | omega | simp))) ?_)
     rintro v8 _ _ _ ⟨rfl, rfl, hv5, hn5⟩
     exact ⟨⟨rfl, hv5, hn5⟩, rfl⟩
    refine gD (fun W Fs R lF z9 => ?_) ?_
    ·refine qh (qj (ptr ub 0) rfl ?_)
     exact ⟨rfl, rfl⟩
    refine gD (fun W Fs R lF z9 => ?_) ?_
    ·replace har := har.mono lF
     replace hbc := hbc.mono lF
     replace hv1 := hv1.mono lF
     replace hv2 := hv2.mono lF
     replace hf2 := hf2.mono lF
     replace hbj := hbj.mono lF
     rw [eS (l := [(11, _)]) ⟨z9 11 rfl, ⟨⟩⟩]
     refine qh (jc rfl ?_)
     exact ⟨rfl, rfl⟩
    refine gD (fun W Fs R lF z9 => ?_) ?_
    ·rw [eS (l := [(12, _)]) ⟨z9 12 rfl, ⟨⟩⟩]
     refine qh (qn (0) ju rfl qN (by decide) rfl rfl ?_)
     exact ⟨rfl, rfl⟩
    refine gD (fun W Fs R lF z9 => ?_) ?_
    ·replace har := har.mono lF
     replace hbc := hbc.mono lF
     replace hv1 := hv1.mono lF
     replace hv2 := hv2.mono lF
     replace hf2 := hf2.mono lF
     replace hbj := hbj.mono lF
     rw [eS (l := [(13, _)]) ⟨z9 13 rfl, ⟨⟩⟩]
     refine qh (qB [arv] je qN rfl rfl (Rd.ownN [] rfl rfl) ?_)
     exact ⟨rfl, rfl⟩
    refine gD (fun W Fs R lF z9 => ?_) ?_
    ·refine qh (qj (v2) rfl ?_)
     exact ⟨rfl, rfl⟩
    refine gD (fun W Fs R lF z9 => ?_) ?_
    ·refine qh (qj (v5) rfl ?_)
     exact ⟨rfl, rfl⟩
    refine gD (fun W Fs R lF z9 => ?_) ?_
    ·refine qh (qj (ii ((j : Int))) rfl ?_)
     exact ⟨rfl, rfl⟩
    refine gD (fun W Fs R lF z9 => ?_) ?_
    ·replace har := har.mono lF
     replace hbc := hbc.mono lF
     replace hv1 := hv1.mono lF
     replace hv2 := hv2.mono lF
     replace hf2 := hf2.mono lF
     replace hbj := hbj.mono lF
     rw [eS (l := [(16, _), (17, _)]) ⟨z9 16 rfl, z9 17 rfl, ⟨⟩⟩]
     refine qh (ql j jV ya rfl rfl rfl hf2.slv (by omega) (Nat.mul_one _) ?_)
     exact ⟨rfl, rfl⟩
    refine gD (fun W Fs R lF z9 => ?_) ?_
    ·replace har := har.mono lF
     replace hbc := hbc.mono lF
     replace hv1 := hv1.mono lF
     replace hv2 := hv2.mono lF
     replace hf2 := hf2.mono lF
     replace hbj := hbj.mono lF
     rw [eS (l := [(18, _)]) ⟨z9 18 rfl, ⟨⟩⟩]
     refine qh (qi isAgg3 rfl (hf2.rd (by omega)) ?_)
     exact ⟨rfl, rfl⟩
    refine gD (fun W Fs R lF z9 => ?_) ?_
    ·replace har := har.mono lF
     replace hbc := hbc.mono lF
     replace hv1 := hv1.mono lF
     replace hv2 := hv2.mono lF
     replace hbj := hbj.mono lF
     rw [eS (l := [(14, _), (15, _), (19, _)]) ⟨z9 14 rfl, z9 15 rfl, z9 19 rfl, ⟨⟩⟩]
     refine qh (qt (args := [.agg #[arv], v2, ii (((((argsL ar u2 0)).getD j 0).toNat : Nat) : Int)]) call55 (by rw [show (((((argsL ar u2 0)).getD j 0).toNat : Nat) : Int) = ((argsL ar u2 0)).getD j 0 from by omega]; rfl) (subAtW_spec (p := (((argsL ar u2 0)).getD j 0).toNat) har hv2 (ho := (by first | assumption | rfl | omega | simp)) (hp := (by first | assumption | rfl | omega | simp)) (hnn := (by first | assumption | rfl | omega | simp))) ?_)
     rintro v9 _ _ _ ⟨rfl, rfl, hv6, hn6⟩
     exact ⟨⟨rfl, hv6, hn6⟩, rfl⟩
    exact stepsG.nil
   intro W F4 le4 hphi
   obtain ⟨e10, f10_6ha, f10_6hn⟩ := hphi 10 (by decide)
   obtain ⟨e20, f20_6ha, f20_6hn⟩ := hphi 20 (by decide)
   generalize hu2 : ((W 10)) = u4 at e10 f10_6ha f10_6hn e20 f20_6ha f20_6hn
   generalize hu3 : ((W 20)) = u5 at e10 f10_6ha f10_6hn e20 f20_6ha f20_6hn
   rw [eS (l := [(0, _), (10, u4), (20, u5)]) ⟨(hphi 0 (by decide)), hu2, hu3, ⟨⟩⟩]
   replace har := har.mono le4
   replace hbc := hbc.mono le4
   replace hv1 := hv1.mono le4
   replace hv2 := hv2.mono le4
   replace hbj := hbj.mono le4
   show XL _ _ _ _ _ _ _ (cellsH ub (arv :: bj) 144 :: L)
   refine XL.callP [ptr ub 0, u4, u5] call168 rfl (ih k1 N1 hless har hbj hb2 f10_6ha f20_6ha hσ1 hpx hpy (by assumption) (by assumption) hk1 hN1) ?_ ?_
   ·rintro _ _ _ _ ⟨b9, l9, rfl, hb9, hne9, rfl⟩
    rw [← parts_get hjx, ← parts_get hjy] at hne9
    exact .inr ⟨_, rfl, b9, l9, rfl, hb9, (EqTo.stop hso hrx hry (by rw [parts_args]; exact hjx) (by omega) hhd hne9), rfl⟩
   rintro _ F5 _ le5 ⟨b1, l1, rfl, hb1, hso1, rfl⟩
   replace har := har.mono le5
   replace hbc := hbc.mono le5
   replace hv1 := hv1.mono le5
   replace hv2 := hv2.mono le5
   replace hbj := hbj.mono le5
   rw [← parts_get hjx, ← parts_get hjy] at hso1
   have hso2 := EqTo.next hso hso1
   refine qb (qa (cX (qI (((j + 1 : Nat) : Int)) rfl rfl (by omega) (by omega) (qf (ii (((j + 1 : Nat) : Int))) rfl (qb ?_)))))
   exact ⟨(j + 1, b1, l1, F5), _, (qm (qm leG1 le4) le5), rF, ⟨rfl, rfl, rfl, rfl, rfl, rfl, rfl, ⟨⟩⟩, (sC sR), ⟨rfl, (qm (qm leG1 le4) le5), (hb1), (by (try dsimp only) <;> omega), (hso2)⟩, (by omega)⟩
  refine ja (qu (qu (qJ (id (retEndNP (L' := cellsH ub (arv :: bj) 144 :: L) [] (.tuple #[]) (by exact .nil) rfl (qm (qm le2 le3) leG1) rF (sC sR) ?_)))))
  exact ⟨_, _, rfl, hbj, (EqTo.done hso hrx hry (by rw [parts_args]; omega) (by omega) hhd), rfl⟩
 refine qp (t := 22) rfl (vF h1) (qp (t := 22) rfl (vF h1) (qp (t := 22) rfl (vF h1) (qp (t := 22) rfl (vF h1) (cX (qS (.bool (false)) (vF h1) rfl (qb (jz rfl (qw (qc (qc ?_))))))))))
 by_cases h6 : (u2.getD 0 0 : Int) < 0
 ·by_cases h7 : (u1.getD 0 0 : Int) ≥ 0
  ·refine jn [cellsH ub (arv :: bs) 144] L 16 [] [[], [0], [1], [2], [3], [4], [4, 5], [4, 6], [4, 7], [4, 8], [9], [9, 10], [9, 11], [9], [9, 13], [9, 14]] (phiL [qe v2, qe (.pointer (some (elemA v2 (0)))), qe (ii (u2.getD 0 0)), qe (.bool (decide ((u2.getD 0 0 : Int) < 0)) : Value), qe (.bool (decide ((u2.getD 0 0 : Int) < 0)) : Value), qe v1, qe (.pointer (some (elemA v1 (0)))), qe (ii (u1.getD 0 0)), qe (.bool (decide ((u1.getD 0 0 : Int) ≥ 0)) : Value), qe (.bool (decide ((u1.getD 0 0 : Int) ≥ 0)) : Value), qe undef, qe undef, qe undef, qe undef, qe undef, qe undef]) (ownL []) mixed rfl rfl (by kernel_rfl) ?_ ?_
   ·refine pD (fun W R z9 => ?_) ?_
    ·refine qh (qj (v2) rfl ?_)
     exact ⟨rfl, rfl, rfl⟩
    refine pD (fun W R z9 => ?_) ?_
    ·rw [eS (l := [(0, _)]) ⟨z9 0 rfl, ⟨⟩⟩]
     refine qh (ql 0 qd qo rfl rfl rfl hv2.slv (by omega) (Nat.mul_one _) ?_)
     exact ⟨rfl, rfl, rfl⟩
    refine pD (fun W R z9 => ?_) ?_
    ·rw [eS (l := [(1, _)]) ⟨z9 1 rfl, ⟨⟩⟩]
     refine qh (qi qK rfl (hv2.rd (by omega)) ?_)
     exact ⟨rfl, rfl, rfl⟩
    refine pD (fun W R z9 => ?_) ?_
    ·rw [eS (l := [(2, _)]) ⟨z9 2 rfl, ⟨⟩⟩]
     refine qh (qL rfl rfl ?_)
     exact ⟨rfl, rfl, rfl⟩
    refine pD (fun W R z9 => ?_) ?_
    ·rw [eS (l := [(3, _)]) ⟨z9 3 rfl, ⟨⟩⟩]
     refine qh (qj (.bool (decide ((u2.getD 0 0 : Int) < 0))) rfl ?_)
     exact ⟨rfl, rfl, rfl⟩
    refine pD (fun W R z9 => ?_) ?_
    ·rw [eS (l := [(4, _)]) ⟨z9 4 rfl, ⟨⟩⟩]
     refine qW (t := 32) rfl (vT h6) (qj (v1) rfl ?_)
     exact ⟨rfl, rfl, rfl⟩
    refine pD (fun W R z9 => ?_) ?_
    ·rw [eS (l := [(4, _), (5, _)]) ⟨z9 4 rfl, z9 5 rfl, ⟨⟩⟩]
     refine qW (t := 32) rfl (vT h6) (ql 0 qd qo rfl rfl rfl hv1.slv (by omega) (Nat.mul_one _) ?_)
     exact ⟨rfl, rfl, rfl⟩
    refine pD (fun W R z9 => ?_) ?_
    ·rw [eS (l := [(4, _), (6, _)]) ⟨z9 4 rfl, z9 6 rfl, ⟨⟩⟩]
     refine qW (t := 32) rfl (vT h6) (qi qK rfl (hv1.rd (by omega)) ?_)
     exact ⟨rfl, rfl, rfl⟩
    refine pD (fun W R z9 => ?_) ?_
    ·rw [eS (l := [(4, _), (7, _)]) ⟨z9 4 rfl, z9 7 rfl, ⟨⟩⟩]
     refine qW (t := 32) rfl (vT h6) (jT rfl rfl ?_)
     exact ⟨rfl, rfl, rfl⟩
    refine pD (fun W R z9 => ?_) ?_
    ·rw [eS (l := [(4, _), (8, _)]) ⟨z9 4 rfl, z9 8 rfl, ⟨⟩⟩]
     refine qW (t := 32) rfl (vT h6) (qj (.bool (decide ((u1.getD 0 0 : Int) ≥ 0))) rfl ?_)
     exact ⟨rfl, rfl, rfl⟩
    refine pD (fun W R z9 => ?_) ?_
    ·rw [eS (l := [(9, _)]) ⟨z9 9 rfl, ⟨⟩⟩]
     exact jd (t := 37) rfl (vT h7) ⟨rfl, rfl, rfl⟩
    refine pD (fun W R z9 => ?_) ?_
    ·rw [eS (l := [(9, _), (10, undef)]) ⟨z9 9 rfl, z9 10 rfl, ⟨⟩⟩]
     exact jd (t := 37) rfl (vT h7) ⟨rfl, rfl, rfl⟩
    refine pD (fun W R z9 => ?_) ?_
    ·rw [eS (l := [(9, _), (11, undef)]) ⟨z9 9 rfl, z9 11 rfl, ⟨⟩⟩]
     exact jd (t := 37) rfl (vT h7) ⟨rfl, rfl, rfl⟩
    refine pD (fun W R z9 => ?_) ?_
    ·rw [eS (l := [(9, _)]) ⟨z9 9 rfl, ⟨⟩⟩]
     exact jd (t := 37) rfl (vT h7) ⟨rfl, rfl, rfl⟩
    refine pD (fun W R z9 => ?_) ?_
    ·rw [eS (l := [(9, _), (13, undef)]) ⟨z9 9 rfl, z9 13 rfl, ⟨⟩⟩]
     exact jd (t := 37) rfl (vT h7) ⟨rfl, rfl, rfl⟩
    refine pD (fun W R z9 => ?_) ?_
    ·rw [eS (l := [(9, _), (14, undef)]) ⟨z9 9 rfl, z9 14 rfl, ⟨⟩⟩]
     exact jd (t := 37) rfl (vT h7) ⟨rfl, rfl, rfl⟩
    exact stepsP.nil
   intro W hphi
   rw [eS (l := [(4, _), (9, _), (12, undef), (15, undef)]) ⟨(hphi 4 (by decide)), (hphi 9 (by decide)), (hphi 12 (by decide)), (hphi 15 (by decide)), ⟨⟩⟩]
   show XL _ _ _ _ _ _ _ (cellsH ub (arv :: bs) 144 :: L)
   refine qp (t := 37) rfl (vT h7) (qq (t := 32) rfl (vT h6) (qR (.bool (true)) (vT h7) rfl (cX (qR (.bool (true)) (vT h6) rfl (qb (jB rfl (qa (qf (v2) rfl (qf (v1) rfl (qg (v2) rfl (qg (v1) rfl ?_)))))))))))
   refine qb (qc (qc (qa ?_)))
   have hrx := hru2
   have hry := hru1
   have hnx := hn2
   have hny := hn1
   have hwx := hrx.w
   have hwy := hry.w
   have hxl := hrx.w.len
   have hyl := hry.w.len
   have hxg := hrx.w.geD (p := 0) (by omega)
   have hyg := hry.w.geD (p := 0) (by omega)
   have hbl := hb.len
   skip
   refine qf (v2) rfl (cX (ql 0 qd qo rfl rfl rfl hv2.slv (by omega) (Nat.mul_one _) (cX (qi qK rfl (hv2.rd (by omega)) (cX (qL rfl rfl (qb (jB (vT h6) (qc (qc (qa (qf (v1) rfl (cX (ql 0 qd qo rfl rfl rfl hv1.slv (by omega) (Nat.mul_one _) (cX (qi qK rfl (hv1.rd (by omega)) ?_))))))))))))))))
   refine cX (jT rfl rfl (qf (.bool (decide ((u1.getD 0 0 : Int) ≥ 0))) rfl (qq (t := 57) rfl (vT h7) (qj (ptr ub 0) rfl (qq (t := 57) rfl (vT h7) (qj (v2) rfl (qq (t := 57) rfl (vT h7) (ql 0 qd qo rfl rfl rfl hv2.slv (by omega) (Nat.mul_one _) (qq (t := 57) rfl (vT h7) (qi qK rfl (hv2.rd (by omega)) (qq (t := 57) rfl (vT h7) (qj (v1) rfl (qq (t := 57) rfl (vT h7) (XOp.build0 (bools (List.replicate 48 false)) runUnderlying248 ⟨_, sizeOf4⟩ zeroValue248 rfl (qq (t := 57) rfl (vT h7) (qV (bools (List.replicate 48 false)) rfl rfl ?_))))))))))))))))
   intro b2
   have hl1 : (List.replicate 48 false).length = 48 := rfl
   have hx0 : u2.getD 0 0 < 0 := by omega
   obtain ⟨ρ9, hρ9⟩ := hb.acyc
   obtain ⟨k9, hk9⟩ := maxRank u1 ρ9
   refine ji (qE (A := [_])) ?_
   show XL _ _ _ _ _ _ _ (cellsH ub (arv :: bs) 144 :: cellsH b2 (bools ((List.replicate 48 false))) 248 :: L)
   refine qq (t := 57) rfl (vT h7) (qt (args := [ptr ub 0, ii (u2.getD 0 0), v1, ptr b2 0]) call212 rfl (occurs_spec k9 har hbc (by assumption) hv1 hσ hρ9 hx0 (hrx.top.resolve_left (by omega)) (fun m hm _ => hk9 m hm) (fun i hi => hry.w.geD hi) hyl.2 hl1 ClearM.nils) ?_)
   rintro _ _ _ _ ⟨s1, rfl, hs4, hm1, rfl, rfl⟩
   refine cX (qR (.bool (decide (u2.getD 0 0 ∈ ap σ u1))) (vT h7) rfl (qb ?_))
   refine qx (p := u2.getD 0 0 ∈ ap σ u1) rfl (fun h8 => ?_) (fun h8 => ?_)
   ·have hoy := h8
    refine qa ?_
    skip
    refine cX (jw [] [] [] [] jR zeroValue202 rfl PlacesAre.nil rfl CellsAre.nil (cX (XOp.iface jR rfl (ji ((sC (sD sR))) (XL.panicI rfl ?_)))))
    exact .inr ⟨_, rfl, _, _, rfl, hbc, (no_swap (occ_eq hb hσ hrx hry (by omega) (by omega) hoy)), rfl⟩
   have hoy := h8
   refine qw (qc ?_)
   refine jn [cellsH ub (arv :: bs) 144, cellsH b2 (bools s1) 248] L 8 [] [[], [], [1], [2], [3], [], [0], [6]] (phiL [qe (ptr ub 0), qe v2, qe (.pointer (some (elemA v2 (0)))), qe (ii (u2.getD 0 0)), qe (ii ((-1) - (u2.getD 0 0))), qe v1, qe (ptr ub 0), qe (ptr ub 1)]) (ownL []) mixed rfl rfl (by kernel_rfl) ?_ ?_
   ·refine pD (fun W R z9 => ?_) ?_
    ·refine qh (qj (ptr ub 0) rfl ?_)
     exact ⟨rfl, rfl, rfl⟩
    refine pD (fun W R z9 => ?_) ?_
    ·refine qh (qj (v2) rfl ?_)
     exact ⟨rfl, rfl, rfl⟩
    refine pD (fun W R z9 => ?_) ?_
    ·rw [eS (l := [(1, _)]) ⟨z9 1 rfl, ⟨⟩⟩]
     refine qh (ql 0 qd qo rfl rfl rfl hv2.slv (by omega) (Nat.mul_one _) ?_)
     exact ⟨rfl, rfl, rfl⟩
    refine pD (fun W R z9 => ?_) ?_
    ·rw [eS (l := [(2, _)]) ⟨z9 2 rfl, ⟨⟩⟩]
     refine qh (qi qK rfl (hv2.rd (by omega)) ?_)
     exact ⟨rfl, rfl, rfl⟩
    refine pD (fun W R z9 => ?_) ?_
    ·rw [eS (l := [(3, _)]) ⟨z9 3 rfl, ⟨⟩⟩]
     refine qh (qY ((-1) - (u2.getD 0 0)) rfl rfl (by omega) (by omega) ?_)
     exact ⟨rfl, rfl, rfl⟩
    refine pD (fun W R z9 => ?_) ?_
    ·refine qh (qj (v1) rfl ?_)
     exact ⟨rfl, rfl, rfl⟩
    refine pD (fun W R z9 => ?_) ?_
    ·rw [eS (l := [(0, _)]) ⟨z9 0 rfl, ⟨⟩⟩]
     refine qh (jc rfl ?_)
     exact ⟨rfl, rfl, rfl⟩
    refine pD (fun W R z9 => ?_) ?_
    ·rw [eS (l := [(6, _)]) ⟨z9 6 rfl, ⟨⟩⟩]
     refine qh (qn (1) ju rfl sizeOf142 (by decide) rfl rfl ?_)
     exact ⟨rfl, rfl, rfl⟩
    exact stepsP.nil
   intro W hphi
   rw [eS (l := [(4, _), (5, _), (7, _)]) ⟨(hphi 4 (by decide)), (hphi 5 (by decide)), (hphi 7 (by decide)), ⟨⟩⟩]
   show XL _ _ _ _ _ _ _ (cellsH ub (arv :: bs) 144 :: cellsH b2 (bools s1) 248 :: L)
   refine cX (jU (i := (-1) - (u2.getD 0 0)) (((-1) - (u2.getD 0 0)).toNat) (1 + (((-1) - (u2.getD 0 0)).toNat)) jQ qr rfl rfl (by omega) (by omega) (by omega) (cX (jq [] _ (arv :: (bs.set (((-1) - (u2.getD 0 0)).toNat) v1)) qr rfl rfl (qZ (qG hv1)) rfl (blt_1 (by have := CO.len hbc; (try simp only [List.length_set, List.length_replicate] at this ⊢) <;> omega)) set_1 ?_)))
   have hc1 := hbc.set (((-1) - (u2.getD 0 0)).toNat) hv1 (by rw [hny]; exact (decide_eq_false hry.w.ne).symm)
   refine qb (qy (qk (retEndP (L' := cellsH ub (arv :: ((bs.set (((-1) - (u2.getD 0 0)).toNat) v1))) 144 :: L) [] (.tuple #[]) (by exact .nil) rfl rF rF (sC (sD sR)) ?_)))
   exact ⟨_, _, rfl, hc1, (Solves.swap (bind_eq hb hσ hrx hry (by omega) (by first | exact hoy | exact bind_var hσ hry (by omega) (by omega)))), rfl⟩
  refine jn [cellsH ub (arv :: bs) 144] L 16 [] [[], [0], [1], [2], [3], [4], [4, 5], [4, 6], [4, 7], [4, 8], [9], [9, 10], [9, 11], [9], [9, 13], [9, 14]] (phiL [qe v2, qe (.pointer (some (elemA v2 (0)))), qe (ii (u2.getD 0 0)), qe (.bool (decide ((u2.getD 0 0 : Int) < 0)) : Value), qe (.bool (decide ((u2.getD 0 0 : Int) < 0)) : Value), qe v1, qe (.pointer (some (elemA v1 (0)))), qe (ii (u1.getD 0 0)), qe (.bool (decide ((u1.getD 0 0 : Int) ≥ 0)) : Value), qe (.bool (decide ((u1.getD 0 0 : Int) ≥ 0)) : Value), qe v2, qe (.pointer (some (elemA v2 (0)))), qe (ii (u2.getD 0 0)), qe v1, qe (.pointer (some (elemA v1 (0)))), qe (ii (u1.getD 0 0))]) (ownL []) mixed rfl rfl (by kernel_rfl) ?_ ?_
  ·refine pD (fun W R z9 => ?_) ?_
   ·refine qh (qj (v2) rfl ?_)
    exact ⟨rfl, rfl, rfl⟩
   refine pD (fun W R z9 => ?_) ?_
   ·rw [eS (l := [(0, _)]) ⟨z9 0 rfl, ⟨⟩⟩]
    refine qh (ql 0 qd qo rfl rfl rfl hv2.slv (by omega) (Nat.mul_one _) ?_)
    exact ⟨rfl, rfl, rfl⟩
   refine pD (fun W R z9 => ?_) ?_
   ·rw [eS (l := [(1, _)]) ⟨z9 1 rfl, ⟨⟩⟩]
    refine qh (qi qK rfl (hv2.rd (by omega)) ?_)
    exact ⟨rfl, rfl, rfl⟩
   refine pD (fun W R z9 => ?_) ?_
   ·rw [eS (l := [(2, _)]) ⟨z9 2 rfl, ⟨⟩⟩]
    refine qh (qL rfl rfl ?_)
    exact ⟨rfl, rfl, rfl⟩
   refine pD (fun W R z9 => ?_) ?_
   ·rw [eS (l := [(3, _)]) ⟨z9 3 rfl, ⟨⟩⟩]
    refine qh (qj (.bool (decide ((u2.getD 0 0 : Int) < 0))) rfl ?_)
    exact ⟨rfl, rfl, rfl⟩
   refine pD (fun W R z9 => ?_) ?_
   ·rw [eS (l := [(4, _)]) ⟨z9 4 rfl, ⟨⟩⟩]
    refine qW (t := 32) rfl (vT h6) (qj (v1) rfl ?_)
    exact ⟨rfl, rfl, rfl⟩
   refine pD (fun W R z9 => ?_) ?_
   ·rw [eS (l := [(4, _), (5, _)]) ⟨z9 4 rfl, z9 5 rfl, ⟨⟩⟩]
    refine qW (t := 32) rfl (vT h6) (ql 0 qd qo rfl rfl rfl hv1.slv (by omega) (Nat.mul_one _) ?_)
    exact ⟨rfl, rfl, rfl⟩
   refine pD (fun W R z9 => ?_) ?_
   ·rw [eS (l := [(4, _), (6, _)]) ⟨z9 4 rfl, z9 6 rfl, ⟨⟩⟩]
    refine qW (t := 32) rfl (vT h6) (qi qK rfl (hv1.rd (by omega)) ?_)
    exact ⟨rfl, rfl, rfl⟩
   refine pD (fun W R z9 => ?_) ?_
   ·rw [eS (l := [(4, _), (7, _)]) ⟨z9 4 rfl, z9 7 rfl, ⟨⟩⟩]
    refine qW (t := 32) rfl (vT h6) (jT rfl rfl ?_)
    exact ⟨rfl, rfl, rfl⟩
   refine pD (fun W R z9 => ?_) ?_
   ·rw [eS (l := [(4, _), (8, _)]) ⟨z9 4 rfl, z9 8 rfl, ⟨⟩⟩]
    refine qW (t := 32) rfl (vT h6) (qj (.bool (decide ((u1.getD 0 0 : Int) ≥ 0))) rfl ?_)
    exact ⟨rfl, rfl, rfl⟩
   refine pD (fun W R z9 => ?_) ?_
   ·rw [eS (l := [(9, _)]) ⟨z9 9 rfl, ⟨⟩⟩]
    refine qW (t := 37) rfl (vF h7) (qj (v2) rfl ?_)
    exact ⟨rfl, rfl, rfl⟩
   refine pD (fun W R z9 => ?_) ?_
   ·rw [eS (l := [(9, _), (10, _)]) ⟨z9 9 rfl, z9 10 rfl, ⟨⟩⟩]
    refine qW (t := 37) rfl (vF h7) (ql 0 qd qo rfl rfl rfl hv2.slv (by omega) (Nat.mul_one _) ?_)
    exact ⟨rfl, rfl, rfl⟩
   refine pD (fun W R z9 => ?_) ?_
   ·rw [eS (l := [(9, _), (11, _)]) ⟨z9 9 rfl, z9 11 rfl, ⟨⟩⟩]
    refine qW (t := 37) rfl (vF h7) (qi qK rfl (hv2.rd (by omega)) ?_)
    exact ⟨rfl, rfl, rfl⟩
   refine pD (fun W R z9 => ?_) ?_
   ·rw [eS (l := [(9, _)]) ⟨z9 9 rfl, ⟨⟩⟩]
    refine qW (t := 37) rfl (vF h7) (qj (v1) rfl ?_)
    exact ⟨rfl, rfl, rfl⟩
   refine pD (fun W R z9 => ?_) ?_
   ·rw [eS (l := [(9, _), (13, _)]) ⟨z9 9 rfl, z9 13 rfl, ⟨⟩⟩]
    refine qW (t := 37) rfl (vF h7) (ql 0 qd qo rfl rfl rfl hv1.slv (by omega) (Nat.mul_one _) ?_)
    exact ⟨rfl, rfl, rfl⟩
   refine pD (fun W R z9 => ?_) ?_
   ·rw [eS (l := [(9, _), (14, _)]) ⟨z9 9 rfl, z9 14 rfl, ⟨⟩⟩]
    refine qW (t := 37) rfl (vF h7) (qi qK rfl (hv1.rd (by omega)) ?_)
    exact ⟨rfl, rfl, rfl⟩
   exact stepsP.nil
  intro W hphi
  rw [eS (l := [(4, _), (9, _), (12, _), (15, _)]) ⟨(hphi 4 (by decide)), (hphi 9 (by decide)), (hphi 12 (by decide)), (hphi 15 (by decide)), ⟨⟩⟩]
  show XL _ _ _ _ _ _ _ (cellsH ub (arv :: bs) 144 :: L)
  refine qq (t := 37) rfl (vF h7) (qL rfl rfl (qq (t := 32) rfl (vT h6) (qS (.bool (decide ((u2.getD 0 0 : Int) < u1.getD 0 0))) (vF h7) rfl (cX (qR (.bool (decide ((u2.getD 0 0 : Int) < u1.getD 0 0))) (vT h6) rfl (qb ?_))))))
  refine qx (p := (u2.getD 0 0 : Int) < u1.getD 0 0) rfl (fun h9 => ?_) (fun h9 => ?_)
  ·refine qa (qf (v2) rfl (qf (v1) rfl (qg (v2) rfl (qg (v1) rfl (qb (qc (qc (qa ?_))))))))
   have hrx := hru2
   have hry := hru1
   have hnx := hn2
   have hny := hn1
   have hwx := hrx.w
   have hwy := hry.w
   have hxl := hrx.w.len
   have hyl := hry.w.len
   have hxg := hrx.w.geD (p := 0) (by omega)
   have hyg := hry.w.geD (p := 0) (by omega)
   have hbl := hb.len
   skip
   refine qf (v2) rfl (cX (ql 0 qd qo rfl rfl rfl hv2.slv (by omega) (Nat.mul_one _) (cX (qi qK rfl (hv2.rd (by omega)) (cX (qL rfl rfl (qb (jB (vT h6) (qc (qc (qa (qf (v1) rfl (cX (ql 0 qd qo rfl rfl rfl hv1.slv (by omega) (Nat.mul_one _) (cX (qi qK rfl (hv1.rd (by omega)) ?_))))))))))))))))
   refine cX (jT rfl rfl (qf (.bool (decide ((u1.getD 0 0 : Int) ≥ 0))) rfl (qp (t := 57) rfl (vF h7) (qp (t := 57) rfl (vF h7) (qp (t := 57) rfl (vF h7) (qp (t := 57) rfl (vF h7) (qp (t := 57) rfl (vF h7) (qp (t := 57) rfl (vF h7) (qp (t := 57) rfl (vF h7) (qp (t := 57) rfl (vF h7) ?_))))))))))
   refine cX (qS (.bool (false)) (vF h7) rfl (qb (jz rfl (qw (qc ?_)))))
   refine jn [cellsH ub (arv :: bs) 144] L 8 [] [[], [], [1], [2], [3], [], [0], [6]] (phiL [qe (ptr ub 0), qe v2, qe (.pointer (some (elemA v2 (0)))), qe (ii (u2.getD 0 0)), qe (ii ((-1) - (u2.getD 0 0))), qe v1, qe (ptr ub 0), qe (ptr ub 1)]) (ownL []) mixed rfl rfl (by kernel_rfl) ?_ ?_
   ·refine pD (fun W R z9 => ?_) ?_
    ·refine qh (qj (ptr ub 0) rfl ?_)
     exact ⟨rfl, rfl, rfl⟩
    refine pD (fun W R z9 => ?_) ?_
    ·refine qh (qj (v2) rfl ?_)
     exact ⟨rfl, rfl, rfl⟩
    refine pD (fun W R z9 => ?_) ?_
    ·rw [eS (l := [(1, _)]) ⟨z9 1 rfl, ⟨⟩⟩]
     refine qh (ql 0 qd qo rfl rfl rfl hv2.slv (by omega) (Nat.mul_one _) ?_)
     exact ⟨rfl, rfl, rfl⟩
    refine pD (fun W R z9 => ?_) ?_
    ·rw [eS (l := [(2, _)]) ⟨z9 2 rfl, ⟨⟩⟩]
     refine qh (qi qK rfl (hv2.rd (by omega)) ?_)
     exact ⟨rfl, rfl, rfl⟩
    refine pD (fun W R z9 => ?_) ?_
    ·rw [eS (l := [(3, _)]) ⟨z9 3 rfl, ⟨⟩⟩]
     refine qh (qY ((-1) - (u2.getD 0 0)) rfl rfl (by omega) (by omega) ?_)
     exact ⟨rfl, rfl, rfl⟩
    refine pD (fun W R z9 => ?_) ?_
    ·refine qh (qj (v1) rfl ?_)
     exact ⟨rfl, rfl, rfl⟩
    refine pD (fun W R z9 => ?_) ?_
    ·rw [eS (l := [(0, _)]) ⟨z9 0 rfl, ⟨⟩⟩]
     refine qh (jc rfl ?_)
     exact ⟨rfl, rfl, rfl⟩
    refine pD (fun W R z9 => ?_) ?_
    ·rw [eS (l := [(6, _)]) ⟨z9 6 rfl, ⟨⟩⟩]
     refine qh (qn (1) ju rfl sizeOf142 (by decide) rfl rfl ?_)
     exact ⟨rfl, rfl, rfl⟩
    exact stepsP.nil
   intro W hphi
   rw [eS (l := [(4, _), (5, _), (7, _)]) ⟨(hphi 4 (by decide)), (hphi 5 (by decide)), (hphi 7 (by decide)), ⟨⟩⟩]
   show XL _ _ _ _ _ _ _ (cellsH ub (arv :: bs) 144 :: L)
   refine cX (jU (i := (-1) - (u2.getD 0 0)) (((-1) - (u2.getD 0 0)).toNat) (1 + (((-1) - (u2.getD 0 0)).toNat)) jQ qr rfl rfl (by omega) (by omega) (by omega) (cX (jq [] _ (arv :: (bs.set (((-1) - (u2.getD 0 0)).toNat) v1)) qr rfl rfl (qZ (qG hv1)) rfl (blt_1 (by have := CO.len hbc; (try simp only [List.length_set, List.length_replicate] at this ⊢) <;> omega)) set_1 ?_)))
   have hc2 := hbc.set (((-1) - (u2.getD 0 0)).toNat) hv1 (by rw [hny]; exact (decide_eq_false hry.w.ne).symm)
   refine qb (qy (qk (retEndP (L' := cellsH ub (arv :: ((bs.set (((-1) - (u2.getD 0 0)).toNat) v1))) 144 :: L) [] (.tuple #[]) (by exact .nil) rfl rF rF (sC sR) ?_)))
   exact ⟨_, _, rfl, hc2, (Solves.swap (bind_eq hb hσ hrx hry (by omega) (by first | exact hoy | exact bind_var hσ hry (by omega) (by omega)))), rfl⟩
  refine qw (qc (qc (qa ?_)))
  have hrx := hru1
  have hry := hru2
  have hnx := hn1
  have hny := hn2
  have hwx := hrx.w
  have hwy := hry.w
  have hxl := hrx.w.len
  have hyl := hry.w.len
  have hxg := hrx.w.geD (p := 0) (by omega)
  have hyg := hry.w.geD (p := 0) (by omega)
  have hbl := hb.len
  skip
  refine qf (v1) rfl (cX (ql 0 qd qo rfl rfl rfl hv1.slv (by omega) (Nat.mul_one _) (cX (qi qK rfl (hv1.rd (by omega)) (cX (qL rfl rfl (qb ?_)))))))
  refine qx (p := (u1.getD 0 0 : Int) < 0) rfl (fun h10 => ?_) (fun h10 => ?_)
  ·refine qc (qc (qa (qf (v2) rfl (cX (ql 0 qd qo rfl rfl rfl hv2.slv (by omega) (Nat.mul_one _) (cX (qi qK rfl (hv2.rd (by omega)) (cX (jT rfl rfl (qf (.bool (decide ((u2.getD 0 0 : Int) ≥ 0))) rfl ?_))))))))))
   by_cases h11 : (u2.getD 0 0 : Int) ≥ 0
   ·refine qq (t := 57) rfl (vT h11) (qj (ptr ub 0) rfl (qq (t := 57) rfl (vT h11) (qj (v1) rfl (qq (t := 57) rfl (vT h11) (ql 0 qd qo rfl rfl rfl hv1.slv (by omega) (Nat.mul_one _) (qq (t := 57) rfl (vT h11) (qi qK rfl (hv1.rd (by omega)) (qq (t := 57) rfl (vT h11) (qj (v2) rfl (qq (t := 57) rfl (vT h11) (XOp.build0 (bools (List.replicate 48 false)) runUnderlying248 ⟨_, sizeOf4⟩ zeroValue248 rfl (qq (t := 57) rfl (vT h11) (qV (bools (List.replicate 48 false)) rfl rfl ?_)))))))))))))
    intro b3
    have hl2 : (List.replicate 48 false).length = 48 := rfl
    have hx0 : u1.getD 0 0 < 0 := by omega
    obtain ⟨ρ9, hρ9⟩ := hb.acyc
    obtain ⟨k9, hk9⟩ := maxRank u2 ρ9
    refine ji (qE (A := [_])) ?_
    show XL _ _ _ _ _ _ _ (cellsH ub (arv :: bs) 144 :: cellsH b3 (bools ((List.replicate 48 false))) 248 :: L)
    refine qq (t := 57) rfl (vT h11) (qt (args := [ptr ub 0, ii (u1.getD 0 0), v2, ptr b3 0]) call212 rfl (occurs_spec k9 har hbc (by assumption) hv2 hσ hρ9 hx0 (hrx.top.resolve_left (by omega)) (fun m hm _ => hk9 m hm) (fun i hi => hry.w.geD hi) hyl.2 hl2 ClearM.nils) ?_)
    rintro _ _ _ _ ⟨s2, rfl, hs5, hm2, rfl, rfl⟩
    refine cX (qR (.bool (decide (u1.getD 0 0 ∈ ap σ u2))) (vT h11) rfl (qb ?_))
    refine qx (p := u1.getD 0 0 ∈ ap σ u2) rfl (fun h12 => ?_) (fun h12 => ?_)
    ·have hoy := h12
     refine qa ?_
     skip
     refine cX (jw [] [] [] [] jR zeroValue202 rfl PlacesAre.nil rfl CellsAre.nil (cX (XOp.iface jR rfl (ji ((sC (sD sR))) (XL.panicI rfl ?_)))))
     exact .inr ⟨_, rfl, _, _, rfl, hbc, (occ_eq hb hσ hrx hry (by omega) (by omega) hoy), rfl⟩
    have hoy := h12
    refine qw (qc ?_)
    refine jn [cellsH ub (arv :: bs) 144, cellsH b3 (bools s2) 248] L 8 [] [[], [], [1], [2], [3], [], [0], [6]] (phiL [qe (ptr ub 0), qe v1, qe (.pointer (some (elemA v1 (0)))), qe (ii (u1.getD 0 0)), qe (ii ((-1) - (u1.getD 0 0))), qe v2, qe (ptr ub 0), qe (ptr ub 1)]) (ownL []) mixed rfl rfl (by kernel_rfl) ?_ ?_
    ·refine pD (fun W R z9 => ?_) ?_
     ·refine qh (qj (ptr ub 0) rfl ?_)
      exact ⟨rfl, rfl, rfl⟩
     refine pD (fun W R z9 => ?_) ?_
     ·refine qh (qj (v1) rfl ?_)
      exact ⟨rfl, rfl, rfl⟩
     refine pD (fun W R z9 => ?_) ?_
     ·rw [eS (l := [(1, _)]) ⟨z9 1 rfl, ⟨⟩⟩]
      refine qh (ql 0 qd qo rfl rfl rfl hv1.slv (by omega) (Nat.mul_one _) ?_)
      exact ⟨rfl, rfl, rfl⟩
     refine pD (fun W R z9 => ?_) ?_
     ·rw [eS (l := [(2, _)]) ⟨z9 2 rfl, ⟨⟩⟩]
      refine qh (qi qK rfl (hv1.rd (by omega)) ?_)
      exact ⟨rfl, rfl, rfl⟩
     refine pD (fun W R z9 => ?_) ?_
     ·rw [eS (l := [(3, _)]) ⟨z9 3 rfl, ⟨⟩⟩]
      refine qh (qY ((-1) - (u1.getD 0 0)) rfl rfl (by omega) (by omega) ?_)
      exact ⟨rfl, rfl, rfl⟩
     refine pD (fun W R z9 => ?_) ?_
     ·refine qh (qj (v2) rfl ?_)
      exact ⟨rfl, rfl, rfl⟩
     refine pD (fun W R z9 => ?_) ?_
     ·rw [eS (l := [(0, _)]) ⟨z9 0 rfl, ⟨⟩⟩]
      refine qh (jc rfl ?_)
      exact ⟨rfl, rfl, rfl⟩
     refine pD (fun W R z9 => ?_) ?_
     ·rw [eS (l := [(6, _)]) ⟨z9 6 rfl, ⟨⟩⟩]
      refine qh (qn (1) ju rfl sizeOf142 (by decide) rfl rfl ?_)
      exact ⟨rfl, rfl, rfl⟩
     exact stepsP.nil
    intro W hphi
    rw [eS (l := [(4, _), (5, _), (7, _)]) ⟨(hphi 4 (by decide)), (hphi 5 (by decide)), (hphi 7 (by decide)), ⟨⟩⟩]
    show XL _ _ _ _ _ _ _ (cellsH ub (arv :: bs) 144 :: cellsH b3 (bools s2) 248 :: L)
    refine cX (jU (i := (-1) - (u1.getD 0 0)) (((-1) - (u1.getD 0 0)).toNat) (1 + (((-1) - (u1.getD 0 0)).toNat)) jQ qr rfl rfl (by omega) (by omega) (by omega) (cX (jq [] _ (arv :: (bs.set (((-1) - (u1.getD 0 0)).toNat) v2)) qr rfl rfl (qZ (qG hv2)) rfl (blt_1 (by have := CO.len hbc; (try simp only [List.length_set, List.length_replicate] at this ⊢) <;> omega)) set_1 ?_)))
    have hc3 := hbc.set (((-1) - (u1.getD 0 0)).toNat) hv2 (by rw [hny]; exact (decide_eq_false hry.w.ne).symm)
    refine qb (qy (qk (retEndP (L' := cellsH ub (arv :: ((bs.set (((-1) - (u1.getD 0 0)).toNat) v2))) 144 :: L) [] (.tuple #[]) (by exact .nil) rfl rF rF (sC (sD sR)) ?_)))
    exact ⟨_, _, rfl, hc3, (bind_eq hb hσ hrx hry (by omega) (by first | exact hoy | exact bind_var hσ hry (by omega) (by omega))), rfl⟩
   refine qp (t := 57) rfl (vF h11) (qp (t := 57) rfl (vF h11) (qp (t := 57) rfl (vF h11) (qp (t := 57) rfl (vF h11) (qp (t := 57) rfl (vF h11) (qp (t := 57) rfl (vF h11) (qp (t := 57) rfl (vF h11) (qp (t := 57) rfl (vF h11) (cX (qS (.bool (false)) (vF h11) rfl (qb ?_))))))))))
   refine jz rfl (qw (qc ?_))
   refine jn [cellsH ub (arv :: bs) 144] L 8 [] [[], [], [1], [2], [3], [], [0], [6]] (phiL [qe (ptr ub 0), qe v1, qe (.pointer (some (elemA v1 (0)))), qe (ii (u1.getD 0 0)), qe (ii ((-1) - (u1.getD 0 0))), qe v2, qe (ptr ub 0), qe (ptr ub 1)]) (ownL []) mixed rfl rfl (by kernel_rfl) ?_ ?_
   ·refine pD (fun W R z9 => ?_) ?_
    ·refine qh (qj (ptr ub 0) rfl ?_)
     exact ⟨rfl, rfl, rfl⟩
    refine pD (fun W R z9 => ?_) ?_
    ·refine qh (qj (v1) rfl ?_)
     exact ⟨rfl, rfl, rfl⟩
    refine pD (fun W R z9 => ?_) ?_
    ·rw [eS (l := [(1, _)]) ⟨z9 1 rfl, ⟨⟩⟩]
     refine qh (ql 0 qd qo rfl rfl rfl hv1.slv (by omega) (Nat.mul_one _) ?_)
     exact ⟨rfl, rfl, rfl⟩
    refine pD (fun W R z9 => ?_) ?_
    ·rw [eS (l := [(2, _)]) ⟨z9 2 rfl, ⟨⟩⟩]
     refine qh (qi qK rfl (hv1.rd (by omega)) ?_)
     exact ⟨rfl, rfl, rfl⟩
    refine pD (fun W R z9 => ?_) ?_
    ·rw [eS (l := [(3, _)]) ⟨z9 3 rfl, ⟨⟩⟩]
     refine qh (qY ((-1) - (u1.getD 0 0)) rfl rfl (by omega) (by omega) ?_)
     exact ⟨rfl, rfl, rfl⟩
    refine pD (fun W R z9 => ?_) ?_
    ·refine qh (qj (v2) rfl ?_)
     exact ⟨rfl, rfl, rfl⟩
    refine pD (fun W R z9 => ?_) ?_
    ·rw [eS (l := [(0, _)]) ⟨z9 0 rfl, ⟨⟩⟩]
     refine qh (jc rfl ?_)
     exact ⟨rfl, rfl, rfl⟩
    refine pD (fun W R z9 => ?_) ?_
    ·rw [eS (l := [(6, _)]) ⟨z9 6 rfl, ⟨⟩⟩]
     refine qh (qn (1) ju rfl sizeOf142 (by decide) rfl rfl ?_)
     exact ⟨rfl, rfl, rfl⟩
    exact stepsP.nil
   intro W hphi
   rw [eS (l := [(4, _), (5, _), (7, _)]) ⟨(hphi 4 (by decide)), (hphi 5 (by decide)), (hphi 7 (by decide)), ⟨⟩⟩]
   show XL _ _ _ _ _ _ _ (cellsH ub (arv :: bs) 144 :: L)
   refine cX (jU (i := (-1) - (u1.getD 0 0)) (((-1) - (u1.getD 0 0)).toNat) (1 + (((-1) - (u1.getD 0 0)).toNat)) jQ qr rfl rfl (by omega) (by omega) (by omega) (cX (jq [] _ (arv :: (bs.set (((-1) - (u1.getD 0 0)).toNat) v2)) qr rfl rfl (qZ (qG hv2)) rfl (blt_1 (by have := CO.len hbc; (try simp only [List.length_set, List.length_replicate] at this ⊢) <;> omega)) set_1 ?_)))
   have hc4 := hbc.set (((-1) - (u1.getD 0 0)).toNat) hv2 (by rw [hny]; exact (decide_eq_false hry.w.ne).symm)
   refine qb (qy (qk (retEndP (L' := cellsH ub (arv :: ((bs.set (((-1) - (u1.getD 0 0)).toNat) v2))) 144 :: L) [] (.tuple #[]) (by exact .nil) rfl rF rF (sC sR) ?_)))
   exact ⟨_, _, rfl, hc4, (bind_eq hb hσ hrx hry (by omega) (by first | exact hoy | exact bind_var hσ hry (by omega) (by omega))), rfl⟩
  exfalso
  omega
 refine jn [cellsH ub (arv :: bs) 144] L 16 [] [[], [0], [1], [2], [3], [4], [4, 5], [4, 6], [4, 7], [4, 8], [9], [9, 10], [9, 11], [9], [9, 13], [9, 14]] (phiL [qe v2, qe (.pointer (some (elemA v2 (0)))), qe (ii (u2.getD 0 0)), qe (.bool (decide ((u2.getD 0 0 : Int) < 0)) : Value), qe (.bool (decide ((u2.getD 0 0 : Int) < 0)) : Value), qe undef, qe undef, qe undef, qe undef, qe undef, qe undef, qe undef, qe undef, qe undef, qe undef, qe undef]) (ownL []) mixed rfl rfl (by kernel_rfl) ?_ ?_
 ·refine pD (fun W R z9 => ?_) ?_
  ·refine qh (qj (v2) rfl ?_)
   exact ⟨rfl, rfl, rfl⟩
  refine pD (fun W R z9 => ?_) ?_
  ·rw [eS (l := [(0, _)]) ⟨z9 0 rfl, ⟨⟩⟩]
   refine qh (ql 0 qd qo rfl rfl rfl hv2.slv (by omega) (Nat.mul_one _) ?_)
   exact ⟨rfl, rfl, rfl⟩
  refine pD (fun W R z9 => ?_) ?_
  ·rw [eS (l := [(1, _)]) ⟨z9 1 rfl, ⟨⟩⟩]
   refine qh (qi qK rfl (hv2.rd (by omega)) ?_)
   exact ⟨rfl, rfl, rfl⟩
  refine pD (fun W R z9 => ?_) ?_
  ·rw [eS (l := [(2, _)]) ⟨z9 2 rfl, ⟨⟩⟩]
   refine qh (qL rfl rfl ?_)
   exact ⟨rfl, rfl, rfl⟩
  refine pD (fun W R z9 => ?_) ?_
  ·rw [eS (l := [(3, _)]) ⟨z9 3 rfl, ⟨⟩⟩]
   refine qh (qj (.bool (decide ((u2.getD 0 0 : Int) < 0))) rfl ?_)
   exact ⟨rfl, rfl, rfl⟩
  refine pD (fun W R z9 => ?_) ?_
  ·rw [eS (l := [(4, _)]) ⟨z9 4 rfl, ⟨⟩⟩]
   exact jd (t := 32) rfl (vF h6) ⟨rfl, rfl, rfl⟩
  refine pD (fun W R z9 => ?_) ?_
  ·rw [eS (l := [(4, _), (5, undef)]) ⟨z9 4 rfl, z9 5 rfl, ⟨⟩⟩]
   exact jd (t := 32) rfl (vF h6) ⟨rfl, rfl, rfl⟩
  refine pD (fun W R z9 => ?_) ?_
  ·rw [eS (l := [(4, _), (6, undef)]) ⟨z9 4 rfl, z9 6 rfl, ⟨⟩⟩]
   exact jd (t := 32) rfl (vF h6) ⟨rfl, rfl, rfl⟩
  refine pD (fun W R z9 => ?_) ?_
  ·rw [eS (l := [(4, _), (7, undef)]) ⟨z9 4 rfl, z9 7 rfl, ⟨⟩⟩]
   exact jd (t := 32) rfl (vF h6) ⟨rfl, rfl, rfl⟩
  refine pD (fun W R z9 => ?_) ?_
  ·rw [eS (l := [(4, _), (8, undef)]) ⟨z9 4 rfl, z9 8 rfl, ⟨⟩⟩]
   exact jd (t := 32) rfl (vF h6) ⟨rfl, rfl, rfl⟩
  refine pD (fun W R z9 => ?_) ?_
  ·rw [eS (l := [(9, undef)]) ⟨z9 9 rfl, ⟨⟩⟩]
   exact XG.noU (t := 37) rfl rfl ⟨rfl, rfl, rfl⟩
  refine pD (fun W R z9 => ?_) ?_
  ·rw [eS (l := [(9, undef), (10, undef)]) ⟨z9 9 rfl, z9 10 rfl, ⟨⟩⟩]
   exact XG.noU (t := 37) rfl rfl ⟨rfl, rfl, rfl⟩
  refine pD (fun W R z9 => ?_) ?_
  ·rw [eS (l := [(9, undef), (11, undef)]) ⟨z9 9 rfl, z9 11 rfl, ⟨⟩⟩]
   exact XG.noU (t := 37) rfl rfl ⟨rfl, rfl, rfl⟩
  refine pD (fun W R z9 => ?_) ?_
  ·rw [eS (l := [(9, undef)]) ⟨z9 9 rfl, ⟨⟩⟩]
   exact XG.noU (t := 37) rfl rfl ⟨rfl, rfl, rfl⟩
  refine pD (fun W R z9 => ?_) ?_
  ·rw [eS (l := [(9, undef), (13, undef)]) ⟨z9 9 rfl, z9 13 rfl, ⟨⟩⟩]
   exact XG.noU (t := 37) rfl rfl ⟨rfl, rfl, rfl⟩
  refine pD (fun W R z9 => ?_) ?_
  ·rw [eS (l := [(9, undef), (14, undef)]) ⟨z9 9 rfl, z9 14 rfl, ⟨⟩⟩]
   exact XG.noU (t := 37) rfl rfl ⟨rfl, rfl, rfl⟩
  exact stepsP.nil
 intro W hphi
 rw [eS (l := [(4, _), (9, undef), (12, undef), (15, undef)]) ⟨(hphi 4 (by decide)), (hphi 9 (by decide)), (hphi 12 (by decide)), (hphi 15 (by decide)), ⟨⟩⟩]
 show XL _ _ _ _ _ _ _ (cellsH ub (arv :: bs) 144 :: L)
 refine XL.noU (t := 37) rfl rfl (qp (t := 32) rfl (vF h6) (cX (qS (.bool (false)) (vF h6) rfl (qb (jz rfl (qw (qc (qc (qa ?_)))))))))
 have hrx := hru1
 have hry := hru2
 have hnx := hn1
 have hny := hn2
 have hwx := hrx.w
 have hwy := hry.w
 have hxl := hrx.w.len
 have hyl := hry.w.len
 have hxg := hrx.w.geD (p := 0) (by omega)
 have hyg := hry.w.geD (p := 0) (by omega)
 have hbl := hb.len
 skip
 refine qf (v1) rfl (cX (ql 0 qd qo rfl rfl rfl hv1.slv (by omega) (Nat.mul_one _) (cX (qi qK rfl (hv1.rd (by omega)) (cX (qL rfl rfl (qb ?_)))))))
 refine qx (p := (u1.getD 0 0 : Int) < 0) rfl (fun h13 => ?_) (fun h13 => ?_)
 ·refine qc (qc (qa (qf (v2) rfl (cX (ql 0 qd qo rfl rfl rfl hv2.slv (by omega) (Nat.mul_one _) (cX (qi qK rfl (hv2.rd (by omega)) (cX (jT rfl rfl (qf (.bool (decide ((u2.getD 0 0 : Int) ≥ 0))) rfl ?_))))))))))
  by_cases h14 : (u2.getD 0 0 : Int) ≥ 0
  ·refine qq (t := 57) rfl (vT h14) (qj (ptr ub 0) rfl (qq (t := 57) rfl (vT h14) (qj (v1) rfl (qq (t := 57) rfl (vT h14) (ql 0 qd qo rfl rfl rfl hv1.slv (by omega) (Nat.mul_one _) (qq (t := 57) rfl (vT h14) (qi qK rfl (hv1.rd (by omega)) (qq (t := 57) rfl (vT h14) (qj (v2) rfl (qq (t := 57) rfl (vT h14) (XOp.build0 (bools (List.replicate 48 false)) runUnderlying248 ⟨_, sizeOf4⟩ zeroValue248 rfl (qq (t := 57) rfl (vT h14) (qV (bools (List.replicate 48 false)) rfl rfl ?_)))))))))))))
   intro b4
   have hl3 : (List.replicate 48 false).length = 48 := rfl
   have hx0 : u1.getD 0 0 < 0 := by omega
   obtain ⟨ρ9, hρ9⟩ := hb.acyc
   obtain ⟨k9, hk9⟩ := maxRank u2 ρ9
   refine ji (qE (A := [_])) ?_
   show XL _ _ _ _ _ _ _ (cellsH ub (arv :: bs) 144 :: cellsH b4 (bools ((List.replicate 48 false))) 248 :: L)
   refine qq (t := 57) rfl (vT h14) (qt (args := [ptr ub 0, ii (u1.getD 0 0), v2, ptr b4 0]) call212 rfl (occurs_spec k9 har hbc (by assumption) hv2 hσ hρ9 hx0 (hrx.top.resolve_left (by omega)) (fun m hm _ => hk9 m hm) (fun i hi => hry.w.geD hi) hyl.2 hl3 ClearM.nils) ?_)
   rintro _ _ _ _ ⟨s3, rfl, hs6, hm3, rfl, rfl⟩
   refine cX (qR (.bool (decide (u1.getD 0 0 ∈ ap σ u2))) (vT h14) rfl (qb ?_))
   refine qx (p := u1.getD 0 0 ∈ ap σ u2) rfl (fun h15 => ?_) (fun h15 => ?_)
   ·have hoy := h15
    refine qa ?_
    skip
    refine cX (jw [] [] [] [] jR zeroValue202 rfl PlacesAre.nil rfl CellsAre.nil (cX (XOp.iface jR rfl (ji ((sC (sD sR))) (XL.panicI rfl ?_)))))
    exact .inr ⟨_, rfl, _, _, rfl, hbc, (occ_eq hb hσ hrx hry (by omega) (by omega) hoy), rfl⟩
   have hoy := h15
   refine qw (qc ?_)
   refine jn [cellsH ub (arv :: bs) 144, cellsH b4 (bools s3) 248] L 8 [] [[], [], [1], [2], [3], [], [0], [6]] (phiL [qe (ptr ub 0), qe v1, qe (.pointer (some (elemA v1 (0)))), qe (ii (u1.getD 0 0)), qe (ii ((-1) - (u1.getD 0 0))), qe v2, qe (ptr ub 0), qe (ptr ub 1)]) (ownL []) mixed rfl rfl (by kernel_rfl) ?_ ?_
   ·refine pD (fun W R z9 => ?_) ?_
    ·refine qh (qj (ptr ub 0) rfl ?_)
     exact ⟨rfl, rfl, rfl⟩
    refine pD (fun W R z9 => ?_) ?_
    ·refine qh (qj (v1) rfl ?_)
     exact ⟨rfl, rfl, rfl⟩
    refine pD (fun W R z9 => ?_) ?_
    ·rw [eS (l := [(1, _)]) ⟨z9 1 rfl, ⟨⟩⟩]
     refine qh (ql 0 qd qo rfl rfl rfl hv1.slv (by omega) (Nat.mul_one _) ?_)
     exact ⟨rfl, rfl, rfl⟩
    refine pD (fun W R z9 => ?_) ?_
    ·rw [eS (l := [(2, _)]) ⟨z9 2 rfl, ⟨⟩⟩]
     refine qh (qi qK rfl (hv1.rd (by omega)) ?_)
     exact ⟨rfl, rfl, rfl⟩
    refine pD (fun W R z9 => ?_) ?_
    ·rw [eS (l := [(3, _)]) ⟨z9 3 rfl, ⟨⟩⟩]
     refine qh (qY ((-1) - (u1.getD 0 0)) rfl rfl (by omega) (by omega) ?_)
     exact ⟨rfl, rfl, rfl⟩
    refine pD (fun W R z9 => ?_) ?_
    ·refine qh (qj (v2) rfl ?_)
     exact ⟨rfl, rfl, rfl⟩
    refine pD (fun W R z9 => ?_) ?_
    ·rw [eS (l := [(0, _)]) ⟨z9 0 rfl, ⟨⟩⟩]
     refine qh (jc rfl ?_)
     exact ⟨rfl, rfl, rfl⟩
    refine pD (fun W R z9 => ?_) ?_
    ·rw [eS (l := [(6, _)]) ⟨z9 6 rfl, ⟨⟩⟩]
     refine qh (qn (1) ju rfl sizeOf142 (by decide) rfl rfl ?_)
     exact ⟨rfl, rfl, rfl⟩
    exact stepsP.nil
   intro W hphi
   rw [eS (l := [(4, _), (5, _), (7, _)]) ⟨(hphi 4 (by decide)), (hphi 5 (by decide)), (hphi 7 (by decide)), ⟨⟩⟩]
   show XL _ _ _ _ _ _ _ (cellsH ub (arv :: bs) 144 :: cellsH b4 (bools s3) 248 :: L)
   refine cX (jU (i := (-1) - (u1.getD 0 0)) (((-1) - (u1.getD 0 0)).toNat) (1 + (((-1) - (u1.getD 0 0)).toNat)) jQ qr rfl rfl (by omega) (by omega) (by omega) (cX (jq [] _ (arv :: (bs.set (((-1) - (u1.getD 0 0)).toNat) v2)) qr rfl rfl (qZ (qG hv2)) rfl (blt_1 (by have := CO.len hbc; (try simp only [List.length_set, List.length_replicate] at this ⊢) <;> omega)) set_1 ?_)))
   have hc5 := hbc.set (((-1) - (u1.getD 0 0)).toNat) hv2 (by rw [hny]; exact (decide_eq_false hry.w.ne).symm)
   refine qb (qy (qk (retEndP (L' := cellsH ub (arv :: ((bs.set (((-1) - (u1.getD 0 0)).toNat) v2))) 144 :: L) [] (.tuple #[]) (by exact .nil) rfl rF rF (sC (sD sR)) ?_)))
   exact ⟨_, _, rfl, hc5, (bind_eq hb hσ hrx hry (by omega) (by first | exact hoy | exact bind_var hσ hry (by omega) (by omega))), rfl⟩
  refine qp (t := 57) rfl (vF h14) (qp (t := 57) rfl (vF h14) (qp (t := 57) rfl (vF h14) (qp (t := 57) rfl (vF h14) (qp (t := 57) rfl (vF h14) (qp (t := 57) rfl (vF h14) (qp (t := 57) rfl (vF h14) (qp (t := 57) rfl (vF h14) (cX (qS (.bool (false)) (vF h14) rfl (qb ?_))))))))))
  refine jz rfl (qw (qc ?_))
  refine jn [cellsH ub (arv :: bs) 144] L 8 [] [[], [], [1], [2], [3], [], [0], [6]] (phiL [qe (ptr ub 0), qe v1, qe (.pointer (some (elemA v1 (0)))), qe (ii (u1.getD 0 0)), qe (ii ((-1) - (u1.getD 0 0))), qe v2, qe (ptr ub 0), qe (ptr ub 1)]) (ownL []) mixed rfl rfl (by kernel_rfl) ?_ ?_
  ·refine pD (fun W R z9 => ?_) ?_
   ·refine qh (qj (ptr ub 0) rfl ?_)
    exact ⟨rfl, rfl, rfl⟩
   refine pD (fun W R z9 => ?_) ?_
   ·refine qh (qj (v1) rfl ?_)
    exact ⟨rfl, rfl, rfl⟩
   refine pD (fun W R z9 => ?_) ?_
   ·rw [eS (l := [(1, _)]) ⟨z9 1 rfl, ⟨⟩⟩]
    refine qh (ql 0 qd qo rfl rfl rfl hv1.slv (by omega) (Nat.mul_one _) ?_)
    exact ⟨rfl, rfl, rfl⟩
   refine pD (fun W R z9 => ?_) ?_
   ·rw [eS (l := [(2, _)]) ⟨z9 2 rfl, ⟨⟩⟩]
    refine qh (qi qK rfl (hv1.rd (by omega)) ?_)
    exact ⟨rfl, rfl, rfl⟩
   refine pD (fun W R z9 => ?_) ?_
   ·rw [eS (l := [(3, _)]) ⟨z9 3 rfl, ⟨⟩⟩]
    refine qh (qY ((-1) - (u1.getD 0 0)) rfl rfl (by omega) (by omega) ?_)
    exact ⟨rfl, rfl, rfl⟩
   refine pD (fun W R z9 => ?_) ?_
   ·refine qh (qj (v2) rfl ?_)
    exact ⟨rfl, rfl, rfl⟩
   refine pD (fun W R z9 => ?_) ?_
   ·rw [eS (l := [(0, _)]) ⟨z9 0 rfl, ⟨⟩⟩]
    refine qh (jc rfl ?_)
    exact ⟨rfl, rfl, rfl⟩
   refine pD (fun W R z9 => ?_) ?_
   ·rw [eS (l := [(6, _)]) ⟨z9 6 rfl, ⟨⟩⟩]
    refine qh (qn (1) ju rfl sizeOf142 (by decide) rfl rfl ?_)
    exact ⟨rfl, rfl, rfl⟩
   exact stepsP.nil
  intro W hphi
  rw [eS (l := [(4, _), (5, _), (7, _)]) ⟨(hphi 4 (by decide)), (hphi 5 (by decide)), (hphi 7 (by decide)), ⟨⟩⟩]
  show XL _ _ _ _ _ _ _ (cellsH ub (arv :: bs) 144 :: L)
  refine cX (jU (i := (-1) - (u1.getD 0 0)) (((-1) - (u1.getD 0 0)).toNat) (1 + (((-1) - (u1.getD 0 0)).toNat)) jQ qr rfl rfl (by omega) (by omega) (by omega) (cX (jq [] _ (arv :: (bs.set (((-1) - (u1.getD 0 0)).toNat) v2)) qr rfl rfl (qZ (qG hv2)) rfl (blt_1 (by have := CO.len hbc; (try simp only [List.length_set, List.length_replicate] at this ⊢) <;> omega)) set_1 ?_)))
  have hc6 := hbc.set (((-1) - (u1.getD 0 0)).toNat) hv2 (by rw [hny]; exact (decide_eq_false hry.w.ne).symm)
  refine qb (qy (qk (retEndP (L' := cellsH ub (arv :: ((bs.set (((-1) - (u1.getD 0 0)).toNat) v2))) 144 :: L) [] (.tuple #[]) (by exact .nil) rfl rF rF (sC sR) ?_)))
  exact ⟨_, _, rfl, hc6, (bind_eq hb hσ hrx hry (by omega) (by first | exact hoy | exact bind_var hσ hry (by omega) (by omega))), rfl⟩
 refine qw (qc (qc ?_))
 refine jn [cellsH ub (arv :: bs) 144] L 6 [] [[], [0], [1], [], [3], [4]] (phiL [qe v1, qe (.pointer (some (elemA v1 (0)))), qe (ii (u1.getD 0 0)), qe v2, qe (.pointer (some (elemA v2 (0)))), qe (ii (u2.getD 0 0))]) (ownL []) mixed rfl rfl (by kernel_rfl) ?_ ?_
 ·refine pD (fun W R z9 => ?_) ?_
  ·refine qh (qj (v1) rfl ?_)
   exact ⟨rfl, rfl, rfl⟩
  refine pD (fun W R z9 => ?_) ?_
  ·rw [eS (l := [(0, _)]) ⟨z9 0 rfl, ⟨⟩⟩]
   refine qh (ql 0 qd qo rfl rfl rfl hv1.slv (by omega) (Nat.mul_one _) ?_)
   exact ⟨rfl, rfl, rfl⟩
  refine pD (fun W R z9 => ?_) ?_
  ·rw [eS (l := [(1, _)]) ⟨z9 1 rfl, ⟨⟩⟩]
   refine qh (qi qK rfl (hv1.rd (by omega)) ?_)
   exact ⟨rfl, rfl, rfl⟩
  refine pD (fun W R z9 => ?_) ?_
  ·refine qh (qj (v2) rfl ?_)
   exact ⟨rfl, rfl, rfl⟩
  refine pD (fun W R z9 => ?_) ?_
  ·rw [eS (l := [(3, _)]) ⟨z9 3 rfl, ⟨⟩⟩]
   refine qh (ql 0 qd qo rfl rfl rfl hv2.slv (by omega) (Nat.mul_one _) ?_)
   exact ⟨rfl, rfl, rfl⟩
  refine pD (fun W R z9 => ?_) ?_
  ·rw [eS (l := [(4, _)]) ⟨z9 4 rfl, ⟨⟩⟩]
   refine qh (qi qK rfl (hv2.rd (by omega)) ?_)
   exact ⟨rfl, rfl, rfl⟩
  exact stepsP.nil
 intro W hphi
 rw [eS (l := [(2, _), (5, _)]) ⟨(hphi 2 (by decide)), (hphi 5 (by decide)), ⟨⟩⟩]
 show XL _ _ _ _ _ _ _ (cellsH ub (arv :: bs) 144 :: L)
 refine cX (XOp.neq rfl rfl (qb ?_))
 refine qx (p := (u1.getD 0 0 : Int) ≠ u2.getD 0 0) rfl (fun h16 => ?_) (fun h16 => ?_)
 ·refine qa ?_
  skip
  refine cX (jw [] [] [] [] jR zeroValue202 rfl PlacesAre.nil rfl CellsAre.nil (cX (XOp.iface jR rfl (ji ((sC sR)) (XL.panicI rfl ?_)))))
  exact .inr ⟨_, rfl, _, _, rfl, hbc, (heads_ne hrx hry (by omega) (by omega) (by omega)), rfl⟩
 exfalso
 omega

theorem equate_spec (k N : Nat) : ∀ {F : FH} {L : List HP} {ub : Nat} {arv : Value} {ar : List Int} {bs : List Value} {bl : RowL} (har : IntsF F arv ar) (hbc : BindC F bs bl) (hb : BOk ar bl) {σ : Sbs} {av : Value} {a : List Int} (ha : IntsF F av a) {cv : Value} {c : List Int} (hc : IntsF F cv c) (hσ : Sol bl σ) (hoa : TermW ar a) (hoc : TermW ar c) (hna : isNil av = false) (hnc : isNil cv = false) (hk : unb bl ≤ k) (hN : (ap σ a).length ≤ N), DoesP prog 168 [ptr ub 0, av, cv] F (cellsH ub (arv :: bs) 144 :: L) (fun v F' L' => ∃ (b9 : List Value) (l9 : RowL), (.tuple #[] : Value) = v ∧ BindC F' b9 l9 ∧ Solves ar bl l9 (fun θ => ap θ a = ap θ c) ∧ cellsH ub (arv :: b9) 144 :: L = L') (fun ch F' L' => ∃ (b9 : List Value) (l9 : RowL), ch = [{ v := .iface 202 (.agg #[]), recovered := false }] ∧ BindC F' b9 l9 ∧ (∀ θ, GoodS ar θ → SatB bl θ → ap θ a ≠ ap θ c) ∧ cellsH ub (arv :: b9) 144 :: L = L') := by
  induction k using Nat.strongRecOn generalizing N with
  | _ k ihk =>
    induction N using Nat.strongRecOn with
    | _ N ihN =>
      intros
      refine equate_step (fun k1 N1 h => ?_) (by assumption) (by assumption) (by assumption) (by assumption) (by assumption) (by assumption) (by assumption) (by assumption) (by assumption) (by assumption) (by assumption) (by assumption)
      rcases h with h | ⟨rfl, h⟩
      · exact ihk k1 h N1
      · exact ihN N1 h


set_option maxRecDepth 20000 in
theorem solve_catch {F : FH} {L : List HP} {b : Nat} {x : Bool} {w : World} (H : Holds F (cellsH b [.bool x] 4 :: L) w) :
    CallsD prog 167 #[.pointer (some ⟨b, 0, none⟩)] (.panicking [{ v := .iface 202 (.agg #[]), recovered := false }]) w fun e u' w' =>
      e = .returned (.tuple #[]) ∧ u' = .panicking [{ v := .iface 202 (.agg #[]), recovered := true }] ∧ Holds F (cellsH b [.bool false] 4 :: L) w' := by
  refine callsD_of_wpS func167 rfl fun c₀ cs hu => ?_
  apply wpS_seq
  apply wpS_region
  simp [wpOpsS, go_sem, recoverD, hu, ntmps167, Exit.thenS]
  apply wpS_seq
  apply wpS_region
  simp [wpOpsS, go_sem, recoverD, hu, ntmps167, Exit.thenS]
  refine wpS_cond (t := true) (by simp [Act.eval, Array.replicate]) ?_
  simp only [if_true]
  refine wpS_of_wp (Code.wp_mono ?_ (wp_of_X (n := 15) (Q := fun e ρ F' L' => e = .normal ∧ Sub L' (cellsH b [.bool false] 4 :: L)) [(0, ptr b 0), (1, .iface 202 (.agg #[]))] (by simp) rfl ⟨by simp, by simp [Array.replicate], ⟨⟩⟩ rfl (fun rE => ?_) H))
  · rintro e a' w' ⟨ρ, F', L', r, le, H', rfl, s⟩
    exact ⟨r.defers, _, rfl, _, results_none rfl _ _ _, rfl, rfl, s.holds (H'.forget le)⟩
  · skip
    refine qc (qc (qa (qf ((.iface 202 (.agg #[]))) rfl (cX (XOp.assertOk jR rfl (qf (.tuple #[.agg #[], .bool (true)]) rfl (cX (qT (.agg #[]) rfl rfl (cX (qT (.bool (true)) rfl rfl (cX (jo [] zeroValue202 rfl ?_))))))))))))
    intro b1
    refine cX (jb [] _ [] sizeOf202 rfl rfl rfl jf rfl rfl rfl (qg (.bool (true)) rfl (qb (qc (qa (qf (.bool (true)) rfl (cX (jp rfl (qb (jz rfl (qw (qa (cX (jq [_] _ [.bool (false)] sizeOf4 rfl rfl rfl rfl rfl rfl (qb ?_)))))))))))))))
    exact ⟨rfl, (sD (sC sR))⟩


theorem solve_idle {p : Value} {w : World} :
    CallsD prog 167 #[p] .returning w fun e u' w' => e = .returned (.tuple #[]) ∧ u' = .returning ∧ w' = w := by
  refine callsD_of_wpS func167 rfl fun c₀ cs hu => ?_
  apply wpS_seq
  apply wpS_region
  simp [wpOpsS, go_sem, recoverD, hu, ntmps167, Exit.thenS]
  apply wpS_seq
  apply wpS_region
  simp [wpOpsS, go_sem, recoverD, hu, ntmps167, Exit.thenS]
  refine wpS_cond (t := false) (by simp [Act.eval, Array.replicate]) ?_
  simp only [Bool.false_eq_true, if_false]
  refine wpS_of_wp (wp_skip ?_)
  cases c₀
  simp_all [bodyPostS, results, results167]


set_option maxRecDepth 20000 in
theorem solve_spec {F : FH} {L : List HP} {ub : Nat} {arv : Value} {ar : List Int} {bs : List Value} {bl : RowL} (har : IntsF F arv ar) (hbc : BindC F bs bl) (hb : BOk ar bl) {av : Value} {a : List Int} (ha : IntsF F av a) {cv : Value} {c : List Int} (hc : IntsF F cv c) (hoa : TermW ar a) (hoc : TermW ar c) (hna : isNil av = false) (hnc : isNil cv = false) :
    Does prog 95 [ptr ub 0, av, cv] F (cellsH ub (arv :: bs) 144 :: L) (fun v F' L' => ∃ (ok : Bool) (b9 : List Value) (l9 : RowL), (.bool ok : Value) = v ∧ BindC F' b9 l9 ∧ (ok = true → Solves ar bl l9 (fun θ => ap θ a = ap θ c)) ∧ (ok = false → ∀ θ, GoodS ar θ → SatB bl θ → ap θ a ≠ ap θ c) ∧ cellsH ub (arv :: b9) 144 :: L = L') := by
  obtain ⟨σ, hσ⟩ := hb.sol
  intro w H
  have hmf : ∀ (fn : Go.Fn) (first cap : Array Value) (w : World), (Instr.makeFunc fn first cap).run prog w = .ok (.func fn first cap) w := fun _ _ _ _ => rfl
  refine (?_ : ∀ R : Ending → World → Prop, (∀ v F' L' w', F ≤ F' → Holds F' L' w' → (∃ (ok : Bool) (b9 : List Value) (l9 : RowL), (.bool ok : Value) = v ∧ BindC F' b9 l9 ∧ (ok = true → Solves ar bl l9 (fun θ => ap θ a = ap θ c)) ∧ (ok = false → ∀ θ, GoodS ar θ → SatB bl θ → ap θ a ≠ ap θ c) ∧ cellsH ub (arv :: b9) 144 :: L = L') → R (.returned v) w') → Calls prog 95 #[ptr ub 0, av, cv] w R) _ fun v F' L' w' le H' q => ⟨v, F', L', rfl, le, H', q⟩
  intro R hR
  go_enter_defers func95, ntmps95
  refine wp_seq (wp_region_lit (wpList_one rfl ?_))
  simp only [Oper.wp, execOp]
  simp [wpList, go_sem, Exit.then]
  refine wp_seq (wp_region_lit (wpList_one rfl ?_))
  simp [go_sem, hmf]
  refine wpList_one rfl ?_
  simp [go_sem, hmf]
  show Code.wp _ _ _ _ _
  refine wp_seq (wp_region_lit (wpList_one rfl ?_))
  simp [go_sem]
  refine wpList_one rfl ?_
  simp [go_sem]
  refine wpList_one rfl ?_
  simp [go_sem]
  refine wpList_one rfl ?_
  simp [go_sem, Oper.upon]
  have H1 : Holds F (cellsH w.heap.size [.bool false] 4 :: cellsH ub (arv :: bs) 144 :: L) (w.alloc (.cells #[.bool false] 4)) := H.new _
  have H2 : Holds F (cellsH ub (arv :: bs) 144 :: cellsH w.heap.size [.bool false] 4 :: L) (w.alloc (.cells #[.bool false] 4)) := (Sub.perm (List.Perm.swap ..)).holds H1
  refine (equate_spec _ _ har hbc hb ha hc hσ hoa hoc hna hnc (Nat.le_refl _) (Nat.le_refl _) _ H2).mono ?_
  rintro e w2 (⟨v, F2, L2, rfl, le, H3, b9, l9, rfl, hb9, hso, rfl⟩ | ⟨ch, F2, L2, rfl, le, H3, b9, l9, rfl, hb9, hne, rfl⟩)
  · show Code.wp _ _ _ _ _
    refine wp_seq (wp_region_lit (wpList_one rfl (wp_XOp_raw (F := F2) (K := fun v F' L' => F' = F2 ∧ L' = [cellsH ub (arv :: b9) 144] ++ cellsH w.heap.size [.bool true] 4 :: L) (jq (b := w.heap.size) (o := 0) (v := .bool true) [_] _ [.bool true] sizeOf4 rfl rfl rfl rfl rfl rfl ⟨rfl, rfl⟩) H3 ?_)))
    rintro v F' L' w3 _ H4 ⟨rfl, rfl⟩
    show Code.wp _ _ _ _ _
    refine wp_ret ?_
    show Leaves _ _ _ _ _ _ _
    refine leaves_cons (f := 167) (args := #[.pointer (some ⟨w.heap.size, 0, none⟩)]) (by simp) (by simp [go_sem]) (solve_idle.mono ?_)
    rintro e u' w'' ⟨rfl, rfl, rfl⟩
    have hcell : w''.cell? ⟨w.heap.size, 0, none⟩ = some (.bool true) := cell_of_heap H4.getCells rfl
    exact ⟨.bool true, by simp [results, results95, go_sem, hcell], hR (.bool true) F' _ _ le ((sC (sD sR)).holds H4) ⟨true, b9, l9, rfl, hb9, fun _ => hso, fun h => (by cases h), rfl⟩⟩
  · show Leaves _ _ _ _ _ _ _
    refine leaves_cons (f := 167) (args := #[.pointer (some ⟨w.heap.size, 0, none⟩)]) (by simp) (by simp [go_sem]) ?_
    have H3' := (Sub.perm (List.Perm.swap ..)).holds H3
    refine (solve_catch H3').mono ?_
    rintro e u' w3 ⟨rfl, rfl, H4⟩
    have hcell : w3.cell? ⟨w.heap.size, 0, none⟩ = some (.bool false) := cell_of_heap (H4.getCells (A := [])) rfl
    exact ⟨.bool false, by simp [results, results95, go_sem, hcell], hR (.bool false) F2 _ _ le ((sD sR).holds H4) ⟨false, b9, l9, rfl, hb9, fun h => (by cases h), fun _ => hne, rfl⟩⟩


/- (*impl.unifier).resolve -/
set_option maxHeartbeats 1000000 in
theorem resolve_step {k : Nat} (ih : ∀ k9 : Nat, k9 < k → ∀ {F : FH} {L : List HP} {ub : Nat} {arv : Value} {ar : List Int} {bs : List Value} {bl : RowL} (har : IntsF F arv ar) (hbc : BindC F bs bl) (hb : BOk ar bl) {σ : Sbs} {ρ : Int → Nat} {ov : Value} {os : List Int} {tv : Value} {t : List Int} (ht : IntsF F tv t) (hov : IsSl ov) (hol : os.length ≤ 60) (hσ : Sol bl σ) (hρ : Acyc bl ρ) (htk : ∀ m ∈ t, m < 0 → ρ m < k9) (htg : ∀ i, i < t.length → -48 ≤ t.getD i 0) (htl : t.length ≤ 60), Does prog 229 [ptr ub 0, ov, tv] F (intsH 2 ov os :: cellsH ub (arv :: bs) 144 :: L) (fun v F' L' => ∃ a9 : Value, (.tuple #[a9, .bool (resOk σ os t)] : Value) = v ∧ IsSl a9 ∧ F = F' ∧ intsH 2 a9 ((resX σ os t)) :: cellsH ub (arv :: bs) 144 :: L = L')) {F : FH} {L : List HP} {ub : Nat} {arv : Value} {ar : List Int} {bs : List Value} {bl : RowL} (har : IntsF F arv ar) (hbc : BindC F bs bl) (hb : BOk ar bl) {σ : Sbs} {ρ : Int → Nat} {ov : Value} {os : List Int} {tv : Value} {t : List Int} (ht : IntsF F tv t) (hov : IsSl ov) (hol : os.length ≤ 60) (hσ : Sol bl σ) (hρ : Acyc bl ρ) (htk : ∀ m ∈ t, m < 0 → ρ m < k) (htg : ∀ i, i < t.length → -48 ≤ t.getD i 0) (htl : t.length ≤ 60) :
    Does prog 229 [ptr ub 0, ov, tv] F (intsH 2 ov os :: cellsH ub (arv :: bs) 144 :: L) (fun v F' L' => ∃ a9 : Value, (.tuple #[a9, .bool (resOk σ os t)] : Value) = v ∧ IsSl a9 ∧ F = F' ∧ intsH 2 a9 ((resX σ os t)) :: cellsH ub (arv :: bs) 144 :: L = L') := by
 refine qD func229 rfl rfl rfl ?_
 have hbl := hb.len
 refine qc (qa (qg (sN) rfl (qg (.bool (false)) rfl (qb (qc (qc (qa (qf (tv) rfl (cX (qC qd rfl ht.slv (qf (ii (0)) rfl (qb (qF (jj (α := Nat × Value × List Int) (fun xQ => [(0, ptr ub 0), (1, xQ.2.1), (11, tv), (12, ii ((t.length : Int))), (13, ii (((xQ.1 : Nat) : Int)))]) (fun xQ => intsH 2 xQ.2.1 xQ.2.2 :: cellsH ub (arv :: bs) 144 :: L) (fun xQ F' => F = F' ∧ (IsSl xQ.2.1) ∧ (xQ.1 ≤ t.length) ∧ (xQ.2.2 = os ++ ap σ (t.take xQ.1)) ∧ (xQ.2.2.length ≤ 60)) (fun xQ => t.length - xQ.1) (0, ov, os) ⟨rfl, rfl, rfl, rfl, rfl, ⟨⟩⟩ (sC (sC sR)) ⟨rfl, (hov), (by (try dsimp only) <;> omega), (by simp [ap]), (hol)⟩ ?_))))))))))))))
 rintro ⟨j, wv, ws⟩ rE _ _ ⟨rfl, hwv, hj, hws, hwl⟩
 show X _ _ _ _ (envs [(0, ptr ub 0), (1, wv), (11, tv), (12, ii ((t.length : Int))), (13, ii ((j : Int)))] rE) _ (intsH 2 wv ws :: cellsH ub (arv :: bs) 144 :: L)
 dsimp only at hwv hj hws hwl
 have hgj := fun h : j < t.length => htg j h
 have hwl2 : ws.length = os.length + (ap σ (t.take j)).length := by rw [hws, List.length_append]
 refine qc (qa (cX (qL rfl rfl (qb (qc ?_)))))
 refine qx (p := (j : Int) < (t.length : Int)) rfl (fun h1 => ?_) (fun h1 => ?_)
 ·refine qw (qc (qF (qc (qa (cX (ql j qd qo rfl rfl rfl ht.slv (by omega) (Nat.mul_one _) (cX (qi qK rfl (ht.rd (by omega)) (qg (ii (t.getD j 0)) rfl (qb (qc (qc (qa (qf (ii (t.getD j 0)) rfl (cX (qL rfl rfl (qf (.bool (decide ((t.getD j 0 : Int) < 0))) rfl ?_)))))))))))))))))
  by_cases h2 : (t.getD j 0 : Int) < 0
  ·have hj0 : t.getD j 0 < 0 := h2
   have hgj2 := hgj (by omega)
   have hrj := htk _ (mem_of_getD (k := j) (by omega) rfl) hj0
   refine qq (t := 19) rfl (vT h2) (qj (ptr ub 0) rfl (qq (t := 19) rfl (vT h2) (qj (ii (t.getD j 0)) rfl (qq (t := 19) rfl (vT h2) (qY ((-1) - (t.getD j 0)) rfl rfl (by omega) (by omega) (qq (t := 19) rfl (vT h2) (jc rfl (qq (t := 19) rfl (vT h2) (qn (1) ju rfl sizeOf142 (by decide) rfl rfl (qq (t := 19) rfl (vT h2) (jU (i := (-1) - (t.getD j 0)) (((-1) - (t.getD j 0)).toNat) (1 + (((-1) - (t.getD j 0)).toNat)) jQ qr rfl rfl (by omega) (by omega) (by omega) ?_)))))))))))
   obtain ⟨a1, ha1, hn1, he1⟩ := hbc.get (i := ((-1) - (t.getD j 0)).toNat) (by omega)
   refine qq (t := 19) rfl (vT h2) (qi qP rfl (Rd.own [_] rfl (get_1 he1)) (qq (t := 19) rfl (vT h2) (XOp.neNil qd rfl rfl (qG ha1) (cX (qR (.bool (!isNil a1)) (vT h2) rfl (qb ?_))))))
   refine X.cond (t := !isNil a1) rfl (fun h3 => ?_) (fun h3 => ?_)
   ·have hbn := ne_of_notNil hn1 h3
    have hnb : isNil a1 = false := by rw [hn1]; exact decide_eq_false hbn
    have hlj : lkN bl (t.getD j 0) ≠ [] := by rw [lkN_get hj0]; exact hbn
    have hwj := hb.wt _ hj0 hlj
    rw [lkN_get hj0] at hwj
    have hsj : σ (t.getD j 0) = ap σ (bl.getD (varIx (t.getD j 0)) []) := by rw [hσ.bound hlj, lkN_get hj0]
    refine qc (qa (qg (.bool (false)) rfl (qb (qc (qc (qa (qf (ptr ub 0) rfl (qf (wv) rfl (qf (ptr ub 0) rfl (qf (ii (t.getD j 0)) rfl (cX (qY ((-1) - (t.getD j 0)) rfl rfl (by omega) (by omega) (cX (jc rfl (cX (qn (1) ju rfl sizeOf142 (by decide) rfl rfl ?_))))))))))))))))
    refine cX (jU (i := (-1) - (t.getD j 0)) (((-1) - (t.getD j 0)).toNat) (1 + (((-1) - (t.getD j 0)).toNat)) jQ qr rfl rfl (by omega) (by omega) (by omega) (cX (qi qP rfl (Rd.own [_] rfl (get_1 he1)) (ji (qE (A := [_])) ?_))))
    show XL _ _ _ _ _ _ _ (cellsH ub (arv :: bs) 144 :: intsH 2 wv ws :: L)
    refine ji (qE (A := [_])) ?_
    show XL _ _ _ _ _ _ _ (intsH 2 wv ws :: cellsH ub (arv :: bs) 144 :: L)
    refine cX (qt (args := [ptr ub 0, wv, a1]) call229 rfl (ih _ hrj har hbc (by assumption) (os := ws) ha1 hwv hwl hσ hρ (fun m hm h0 => hρ _ hj0 m (by rw [lkN_get hj0]; exact hm) h0) (fun i hi => hwj.geD hi) hwj.len.2) ?_)
    rintro _ _ _ _ ⟨v1, rfl, hs1, rfl, rfl⟩
    refine qf (.tuple #[v1, .bool (resOk σ ws ((bl.getD (((-1) - (t.getD j 0)).toNat) [])))]) rfl (cX (qT (v1) rfl rfl (cX (qT (.bool (resOk σ ws ((bl.getD (((-1) - (t.getD j 0)).toNat) [])))) rfl rfl (qg (v1) rfl (qg (.bool (resOk σ ws ((bl.getD (((-1) - (t.getD j 0)).toNat) [])))) rfl (qb (qc (qa (qf (.bool (resOk σ ws ((bl.getD (((-1) - (t.getD j 0)).toNat) [])))) rfl (cX (jp rfl (qb ?_)))))))))))))
    refine X.cond (t := !(resOk σ ws ((bl.getD (((-1) - (t.getD j 0)).toNat) [])))) rfl (fun h4 => ?_) (fun h4 => ?_)
    ·have hro : resOk σ ws (bl.getD (varIx (t.getD j 0)) []) = false := Bool.not_inj (y := false) h4
     have hrn := of_decide_eq_false hro
     refine qc (qa (qg (sN) rfl (qg (.bool (false)) rfl (qb (qy (qk (qk (qz (qk (qk (qz (qk (qs (L' := intsH 2 (sN) ([]) :: cellsH ub (arv :: bs) 144 :: L) [sN, .bool (false)] (.tuple #[sN, .bool (false)]) (.tmp rfl (.tmp rfl .nil)) rfl rF rF (qO (intsH.addNil 2 none _) (sC (sD (sC sR)))) ?_)))))))))))))
     have e9 : resOk σ os t = false := res_no (j := j) (by omega) (by rw [hsj]; first | omega | (rw [List.length_singleton]; omega))
     have e8 : resX σ os t = [] := by unfold resX; rw [if_neg (by rw [e9]; simp)]
     rw [e9, e8]
     exact ⟨_, rfl, ⟨_, _, _, rfl⟩, rfl, rfl⟩
    have hro : resOk σ ws (bl.getD (varIx (t.getD j 0)) []) = true := Bool.not_inj (y := true) h4
    have hrn := of_decide_eq_true hro
    have hnext : resX σ ws (bl.getD (varIx (t.getD j 0)) []) = ws ++ σ (t.getD j 0) := by unfold resX; rw [if_pos hro, hsj]
    have hnlen : (resX σ ws (bl.getD (varIx (t.getD j 0)) [])).length ≤ 60 := by rw [hnext, List.length_append, hsj]; exact hrn
    refine qw (ja (qu (qJ (qa (cX (qI (((j + 1 : Nat) : Int)) rfl rfl (by omega) (by omega) (qf (ii (((j + 1 : Nat) : Int))) rfl (qb ?_))))))))
    exact ⟨(j + 1, v1, (resX σ ws ((bl.getD (((-1) - (t.getD j 0)).toNat) [])))), _, FLe.refl _, rF, ⟨rfl, rfl, rfl, rfl, rfl, ⟨⟩⟩, (sC (sC sR)), ⟨rfl, (hs1), (by (try dsimp only) <;> omega), (by (try dsimp only); rw [ap_take (by omega), ← List.append_assoc, ← hws]; exact hnext), (by (try dsimp only); exact hnlen)⟩, (by omega)⟩
   have hbe := eq_of_isNil hn1 h3
   have hsj : σ (t.getD j 0) = [(t.getD j 0)] := hσ.free (by rw [lkN_get hj0]; exact hbe)
   refine qw (qc (qc (qa (qf (wv) rfl (cX (qC qd rfl (intsH.slv [] rfl) (cX (jI rfl rfl (qb ?_)))))))))
   refine qx (p := ((ws.length : Int) : Int) = 60) rfl (fun h5 => ?_) (fun h5 => ?_)
   ·refine qc (qa (qg (sN) rfl (qg (.bool (false)) rfl (qb (qy (qk (qz (qk (qk (qz (qk (qs (L' := intsH 2 (sN) ([]) :: cellsH ub (arv :: bs) 144 :: L) [sN, .bool (false)] (.tuple #[sN, .bool (false)]) (.tmp rfl (.tmp rfl .nil)) rfl rF rF (qO (intsH.addNil 2 none _) (sC (sD (sC sR)))) ?_))))))))))))
    have e9 : resOk σ os t = false := res_no (j := j) (by omega) (by rw [hsj]; first | omega | (rw [List.length_singleton]; omega))
    have e8 : resX σ os t = [] := by unfold resX; rw [if_neg (by rw [e9]; simp)]
    rw [e9, e8]
    exact ⟨_, rfl, ⟨_, _, _, rfl⟩, rfl, rfl⟩
   have hnext : ws ++ [(t.getD j 0)] = ws ++ σ (t.getD j 0) := by rw [hsj]
   have hnlen : (ws ++ [(t.getD j 0)]).length ≤ 60 := by rw [List.length_append, List.length_singleton]; omega
   refine qw (qa (qf (wv) rfl (qf (ii (t.getD j 0)) rfl (cX (qM (s := 1) [ii (t.getD j 0)] [ii (0)] [(0, [ii (t.getD j 0)])] qd qo jk rfl (by decide) rfl (.cons rfl CellsAre.nil) rfl ?_)))))
   intro v2 hv1
   refine cX (jW (u := t.getD j 0) [_] _ qd typeInfo2 rfl rfl rfl rfl rfl rfl (SlV.own [] rfl) (Rd.sl [] rfl rfl) (by (try simp only [List.length_append, List.length_nil, List.length_cons, List.length_singleton, List.length_take, List.length_drop]); omega) ?_)
   intro v3 hs2 hn2
   refine qg (v3) rfl (qb (qa (cX (qI (((j + 1 : Nat) : Int)) rfl rfl (by omega) (by omega) (qf (ii (((j + 1 : Nat) : Int))) rfl (qb ?_))))))
   exact ⟨(j + 1, v3, ws ++ [t.getD j 0]), _, FLe.refl _, rF, ⟨rfl, rfl, rfl, rfl, rfl, ⟨⟩⟩, (sD (sC (sC sR))), ⟨rfl, (hs2), (by (try dsimp only) <;> omega), (by (try dsimp only); rw [ap_take (by omega), ← List.append_assoc, ← hws]; exact hnext), (by (try dsimp only); exact hnlen)⟩, (by omega)⟩
  have hsj : σ (t.getD j 0) = [(t.getD j 0)] := hσ.sym (by omega)
  refine qp (t := 19) rfl (vF h2) (qp (t := 19) rfl (vF h2) (qp (t := 19) rfl (vF h2) (qp (t := 19) rfl (vF h2) (qp (t := 19) rfl (vF h2) (qp (t := 19) rfl (vF h2) (qp (t := 19) rfl (vF h2) (qp (t := 19) rfl (vF h2) (cX (qS (.bool (false)) (vF h2) rfl (qb ?_))))))))))
  refine jz rfl (qw (qc (qc (qa (qf (wv) rfl (cX (qC qd rfl (intsH.slv [] rfl) (cX (jI rfl rfl (qb ?_))))))))))
  refine qx (p := ((ws.length : Int) : Int) = 60) rfl (fun h6 => ?_) (fun h6 => ?_)
  ·refine qc (qa (qg (sN) rfl (qg (.bool (false)) rfl (qb (qy (qk (qz (qk (qk (qz (qk (qs (L' := intsH 2 (sN) ([]) :: cellsH ub (arv :: bs) 144 :: L) [sN, .bool (false)] (.tuple #[sN, .bool (false)]) (.tmp rfl (.tmp rfl .nil)) rfl rF rF (qO (intsH.addNil 2 none _) (sC (sD (sC sR)))) ?_))))))))))))
   have e9 : resOk σ os t = false := res_no (j := j) (by omega) (by rw [hsj]; first | omega | (rw [List.length_singleton]; omega))
   have e8 : resX σ os t = [] := by unfold resX; rw [if_neg (by rw [e9]; simp)]
   rw [e9, e8]
   exact ⟨_, rfl, ⟨_, _, _, rfl⟩, rfl, rfl⟩
  have hnext : ws ++ [(t.getD j 0)] = ws ++ σ (t.getD j 0) := by rw [hsj]
  have hnlen : (ws ++ [(t.getD j 0)]).length ≤ 60 := by rw [List.length_append, List.length_singleton]; omega
  refine qw (qa (qf (wv) rfl (qf (ii (t.getD j 0)) rfl (cX (qM (s := 1) [ii (t.getD j 0)] [ii (0)] [(0, [ii (t.getD j 0)])] qd qo jk rfl (by decide) rfl (.cons rfl CellsAre.nil) rfl ?_)))))
  intro v4 hv2
  refine cX (jW (u := t.getD j 0) [_] _ qd typeInfo2 rfl rfl rfl rfl rfl rfl (SlV.own [] rfl) (Rd.sl [] rfl rfl) (by (try simp only [List.length_append, List.length_nil, List.length_cons, List.length_singleton, List.length_take, List.length_drop]); omega) ?_)
  intro v5 hs3 hn3
  refine qg (v5) rfl (qb (qa (cX (qI (((j + 1 : Nat) : Int)) rfl rfl (by omega) (by omega) (qf (ii (((j + 1 : Nat) : Int))) rfl (qb ?_))))))
  exact ⟨(j + 1, v5, ws ++ [t.getD j 0]), _, FLe.refl _, rF, ⟨rfl, rfl, rfl, rfl, rfl, ⟨⟩⟩, (sD (sC (sC sR))), ⟨rfl, (hs3), (by (try dsimp only) <;> omega), (by (try dsimp only); rw [ap_take (by omega), ← List.append_assoc, ← hws]; exact hnext), (by (try dsimp only); exact hnlen)⟩, (by omega)⟩
 refine ja (qu (qu (qJ (qc (qa (qf (wv) rfl (qg (wv) rfl (qg (.bool (true)) rfl (qb (qy (qs (L' := intsH 2 wv ws :: cellsH ub (arv :: bs) 144 :: L) [wv, .bool (true)] (.tuple #[wv, .bool (true)]) (.tmp rfl (.tmp rfl .nil)) rfl rF rF (sC (sC sR)) ?_)))))))))))
 obtain ⟨e9, e8⟩ := res_end (σ := σ) (os := os) (t := t) (j := j) (by omega) (by omega)
 rw [e9, e8, ← hws]
 exact ⟨_, rfl, hwv, rfl, rfl⟩

theorem resolve_spec (k : Nat) : ∀ {F : FH} {L : List HP} {ub : Nat} {arv : Value} {ar : List Int} {bs : List Value} {bl : RowL} (har : IntsF F arv ar) (hbc : BindC F bs bl) (hb : BOk ar bl) {σ : Sbs} {ρ : Int → Nat} {ov : Value} {os : List Int} {tv : Value} {t : List Int} (ht : IntsF F tv t) (hov : IsSl ov) (hol : os.length ≤ 60) (hσ : Sol bl σ) (hρ : Acyc bl ρ) (htk : ∀ m ∈ t, m < 0 → ρ m < k) (htg : ∀ i, i < t.length → -48 ≤ t.getD i 0) (htl : t.length ≤ 60), Does prog 229 [ptr ub 0, ov, tv] F (intsH 2 ov os :: cellsH ub (arv :: bs) 144 :: L) (fun v F' L' => ∃ a9 : Value, (.tuple #[a9, .bool (resOk σ os t)] : Value) = v ∧ IsSl a9 ∧ F = F' ∧ intsH 2 a9 ((resX σ os t)) :: cellsH ub (arv :: bs) 144 :: L = L') := by
  induction k using Nat.strongRecOn with
  | _ k ih =>
    intros
    exact resolve_step ih (by assumption) (by assumption) (by assumption) (by assumption) (by assumption) (by assumption) (by assumption) (by assumption) (by assumption) (by assumption) (by assumption)


/- impl.away -/
theorem away_spec {F : FH} {L : List HP} {tv : Value} {t : List Int} (ht : IntsF F tv t) (hlt : t.length ≤ 4000000) (htg : ∀ i, i < t.length → -4000000 ≤ t.getD i 0) :
    Does prog 96 [tv] F (L) (fun v F' L' => F = F' ∧ IsSl v ∧ intsH 2 v (awayL t) :: L = L') := by
 refine qD func96 rfl rfl rfl (qc (qa (qg (sN) rfl (qb (qc (qa (qf (tv) rfl (cX (qt (args := [tv]) call53 rfl (Clone_spec ht (hlt := (by first | assumption | rfl | omega | simp))) ?_)))))))))
 rintro v1 _ _ _ ⟨rfl, hs1, rfl⟩
 refine qg (v1) rfl (qb (qc (qc (qa (qf (v1) rfl (cX (qC qd rfl (intsH.slv [] rfl) (qf (ii (0)) rfl (qb (qF (jj (α := Nat × List Int) (fun xQ => [(3, v1), (8, v1), (9, ii (((((t)).length : Nat) : Int))), (10, ii (((xQ.1 : Nat) : Int)))]) (fun xQ => intsH 2 v1 xQ.2 :: L) (fun xQ F' => F = F' ∧ (xQ.1 ≤ t.length) ∧ (xQ.2 = awayL (t.take xQ.1) ++ t.drop xQ.1)) (fun xQ => t.length - xQ.1) (0, t) ⟨rfl, rfl, rfl, rfl, ⟨⟩⟩ (sC sR) ⟨rfl, (by (try dsimp only) <;> omega), (by simp [awayL])⟩ ?_)))))))))))
 rintro ⟨k, ws⟩ rE _ _ ⟨rfl, hk, hws⟩
 show X _ _ _ _ (envs [(3, v1), (8, v1), (9, ii (((((t)).length : Nat) : Int))), (10, ii ((k : Int)))] rE) _ (intsH 2 v1 ws :: L)
 dsimp only at hk hws
 have hwl : ws.length = t.length := by rw [hws]; simp [awayL]; omega
 have hgk := htg k
 have hwk : k < t.length → ws.getD k 0 = t.getD k 0 := fun h => by rw [hws]; exact away_at h
 refine qc (qa (cX (qL rfl rfl (qb (qc ?_)))))
 refine qx (p := (k : Int) < ((((t)).length : Nat) : Int)) rfl (fun h1 => ?_) (fun h1 => ?_)
 ·refine qw (qc (qF (qc (qa (qf (ii ((k : Int))) rfl (cX (ql k qd qo rfl rfl rfl (intsH.slv [] rfl) (by omega) (Nat.mul_one _) (cX (qi qK rfl (intsH.rd [] rfl (by omega)) (qg (ii ((k : Int))) rfl (qg (ii (ws.getD k 0)) rfl (qb (qc (qa (qf (ii (ws.getD k 0)) rfl (cX (qL rfl rfl (qb ?_))))))))))))))))))
  refine qx (p := (ws.getD k 0 : Int) < 0) rfl (fun h2 => ?_) (fun h2 => ?_)
  ·refine qa (qf (v1) rfl (qf (ii ((k : Int))) rfl (qf (ii (ws.getD k 0)) rfl (cX (qY ((ws.getD k 0) - 24) rfl rfl (by omega) (by omega) (cX (ql k qd qo rfl rfl rfl (intsH.slv [] rfl) (by omega) (Nat.mul_one _) (cX (intsH.storeX (i := k) (v := v1) [] _ (ws.set k ((ws.getD k 0) - 24)) qo rfl rfl rfl (by omega) rfl (qb (qa (cX (qI (((k + 1 : Nat) : Int)) rfl rfl (by omega) (by omega) (qf (ii (((k + 1 : Nat) : Int))) rfl ?_))))))))))))))
   refine qb ?_
   exact ⟨(k + 1, (ws.set k ((ws.getD k 0) - 24))), _, FLe.refl _, rF, ⟨rfl, rfl, rfl, rfl, ⟨⟩⟩, (sC sR), ⟨rfl, (by (try dsimp only) <;> omega), (away_next (by omega) hws (by first | (right; exact ⟨rfl, by omega⟩) | (left; exact ⟨by rw [hwk (by omega)], by omega⟩)))⟩, (by omega)⟩
  refine qw (qa (cX (qI (((k + 1 : Nat) : Int)) rfl rfl (by omega) (by omega) (qf (ii (((k + 1 : Nat) : Int))) rfl (qb ?_)))))
  exact ⟨(k + 1, ws), _, FLe.refl _, rF, ⟨rfl, rfl, rfl, rfl, ⟨⟩⟩, (sC sR), ⟨rfl, (by (try dsimp only) <;> omega), (away_next (by omega) hws (by first | (right; exact ⟨rfl, by omega⟩) | (left; exact ⟨by rw [hwk (by omega)], by omega⟩)))⟩, (by omega)⟩
 refine ja (qu (qu (qJ (qc (qa (qf (v1) rfl (qg (v1) rfl (qb (qy (qs (L' := intsH 2 v1 ws :: L) [v1] (v1) (.tmp rfl .nil) rfl rF rF (sC sR) ?_))))))))))
 refine ⟨rfl, hs1, ?_⟩
 have hxs : (awayL t : List Int) = ws := by rw [hws, show k = t.length from by omega]; simp
 exact congrArg (fun z => intsH 2 _ z :: L) hxs
end Go.Proofs.YtcdjpapjjoldeaaGreat
