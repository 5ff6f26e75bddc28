/-
  Walks, one after the other (part 2).
-/
import Derived.Test.YtcdjpapjjoldeaaQWL1
import Derived.Test.YtcdjpapjjoldeaaQWB0
set_option linter.unusedSimpArgs false
set_option linter.unusedVariables false
namespace Go.Proofs.Ytcdjpapjjoldeaa
open Go X M Try

/- spec.l2Filled -/
theorem l2Filled_spec {F : FH} {L : List HP} {sv : Value} {s : List (List Int)} (hs : RowsF F sv s) {tv : Value} {t : List Int} (ht : IntsF F tv t) (hsl : s.length ≤ 4000000) (hsb : ∀ i, (s.getD i []).length ≤ 4000000) (htl : t.length ≤ 4000000) (htg : ∀ k, k < t.length → -4000000 ≤ t.getD k 0) :
    Does prog 77 [.agg #[sv], tv] F (L) (fun v F' L' => ∃ (a : Value), (.tuple #[a, .bool ((fillL s t).isSome)] : Value) = v ∧ (IntsF F' a ((fillL s t).getD [])) ∧ L = L') := by
 refine qI func77 rfl rfl rfl (qc (qa (cX (jc [sv] rfl rfl ?_))))
 intro b1
 refine qg (sN) rfl (qg (.bool (false)) rfl (qb (qc (qa (cX (qt (s := 1) [] [ii (0)] [] qd qm qJ rfl (by decide) rfl CellsAre.nil rfl ?_))))))
 intro v1 hv1
 refine qg (v1) rfl (qb (qc (qc (qa (qg (ii (0)) rfl (qb (qL (jn (α := Nat × Value × List Int) (fun xQ => [(1, tv), (2, ptr b1 0), (6, xQ.2.1), (7, ii (((xQ.1 : Nat) : Int)))]) (fun xQ => intsH 2 xQ.2.1 xQ.2.2 :: cellsH b1 [sv] 50 :: L) (fun xQ F' => F = F' ∧ (IsSl xQ.2.1) ∧ (xQ.1 ≤ t.length) ∧ (fillL s t = fillGo s (t.drop xQ.1) xQ.2.2) ∧ (xQ.2.2.length ≤ 60)) (fun xQ => t.length - xQ.1) (0, v1, []) ⟨rfl, rfl, rfl, rfl, ⟨⟩⟩ (sC (sC sR)) ⟨rfl, ((jd hv1)), (by (try dsimp only) <;> omega), (rfl), (by simp)⟩ ?_))))))))
 rintro ⟨k, ov, os⟩ rE _ _ ⟨rfl, hov, hk, hm, hol⟩
 show X _ _ _ _ (envs [(1, tv), (2, ptr b1 0), (6, ov), (7, ii ((k : Int)))] rE) _ (intsH 2 ov os :: cellsH b1 [sv] 50 :: L)
 dsimp only at hov hk hm hol
 have htk := htg k
 have hlk0 := lk_bound (N := 4000000) (by omega) hsb (-1 - (((-1 - t.getD k 0).toNat : Nat) : Int))
 refine qc (qc (qa (qf (ii ((k : Int))) rfl (qf (tv) rfl (cX (qE qd rfl ht.slv (cX (qT rfl rfl (qb ?_)))))))))
 refine qA (p := (k : Int) < (t.length : Int)) rfl (fun h1 => ?_) (fun h1 => ?_)
 ·refine qz (qc (qL (qc (qc (qa (qf (tv) rfl (qf (ii ((k : Int))) rfl (cX (qu k qd qm rfl rfl rfl ht.slv (by omega) (Nat.mul_one _) (cX (qi qQ rfl (ht.rd (by omega)) (cX (qT rfl rfl (qb ?_))))))))))))))
  refine qA (p := (t.getD k 0 : Int) < 0) rfl (fun h2 => ?_) (fun h2 => ?_)
  ·refine X.drawG [intsH 2 ov os, cellsH b1 [sv] 50] L 8 [] [[], [], [], [], [2, 3], [4], [5], [1, 6]] [] (phiG [pe ov, pe (.agg #[sv]), pe tv, pe (ii ((k : Int)) : Value), pe (.pointer (some (elemA tv (k)))), pe (ii (t.getD k 0)), pe (ii ((-1) - (t.getD k 0))), fun FF us v => ((v) : Value) = v ∧ (IntsF FF (v) (lk s (-1 - ((((-1) - (t.getD k 0)).toNat) : Int))))]) (ownL []) mixed rfl rfl (by kernel_rfl) (by kernel_rfl) (MonoG.get (m1 (m1 (m1 (m1 (m1 (m1 (m1 (mC (fun le h => ⟨h.1, h.2.mono le⟩) MonoG.nil))))))))) ?_ ?_
   ·refine gD (fun W Fs R lF z9 => ?_) ?_
    ·refine qj (ql (ov) rfl ?_)
     exact ⟨rfl, rfl⟩
    refine gD (fun W Fs R lF z9 => ?_) ?_
    ·replace hs := hs.mono lF
     replace ht := ht.mono lF
     refine qj (qy [sv] jG jl rfl rfl (Rd.ownN [_] rfl rfl) ?_)
     exact ⟨rfl, rfl⟩
    refine gD (fun W Fs R lF z9 => ?_) ?_
    ·refine qj (ql (tv) rfl ?_)
     exact ⟨rfl, rfl⟩
    refine gD (fun W Fs R lF z9 => ?_) ?_
    ·refine qj (ql (ii ((k : Int))) rfl ?_)
     exact ⟨rfl, rfl⟩
    refine gD (fun W Fs R lF z9 => ?_) ?_
    ·replace hs := hs.mono lF
     replace ht := ht.mono lF
     rw [eS (l := [(2, _), (3, _)]) ⟨z9 2 rfl, z9 3 rfl, ⟨⟩⟩]
     refine qj (qu k qd qm rfl rfl rfl ht.slv (by omega) (Nat.mul_one _) ?_)
     exact ⟨rfl, rfl⟩
    refine gD (fun W Fs R lF z9 => ?_) ?_
    ·replace hs := hs.mono lF
     replace ht := ht.mono lF
     rw [eS (l := [(4, _)]) ⟨z9 4 rfl, ⟨⟩⟩]
     refine qj (qi qQ rfl (ht.rd (by omega)) ?_)
     exact ⟨rfl, rfl⟩
    refine gD (fun W Fs R lF z9 => ?_) ?_
    ·rw [eS (l := [(5, _)]) ⟨z9 5 rfl, ⟨⟩⟩]
     refine qj (jf ((-1) - (t.getD k 0)) rfl rfl (by omega) (by omega) ?_)
     exact ⟨rfl, rfl⟩
    refine gD (fun W Fs R lF z9 => ?_) ?_
    ·replace hs := hs.mono lF
     replace ht := ht.mono lF
     rw [eS (l := [(1, _), (6, _)]) ⟨z9 1 rfl, z9 6 rfl, ⟨⟩⟩]
     refine qj (jR <| qr (args := [.agg #[sv], ii ((((-1) - (t.getD k 0)).toNat : Nat) : Int)]) call145 (by rw [show ((((-1) - (t.getD k 0)).toNat : Nat) : Int) = (-1) - (t.getD k 0) from by omega]; rfl) (l2Gives_spec (i := ((-1) - (t.getD k 0)).toNat) hs (hsl := (by first | assumption | rfl | omega | simp)) (hi := (by first | assumption | rfl | omega | simp)) (hsb := (hsb _))) ?_)
     rintro v3 _ _ _ ⟨rfl, hs2, rfl⟩
     refine ⟨_, _, rfl, fun F1 le1 hz1 => ?_⟩
     replace ht := ht.mono le1
     have hf1 : IntsF F1 v3 ((lk s (-1 - ((((-1) - (t.getD k 0)).toNat) : Int)))) := intsH.fz (xs := (lk s (-1 - ((((-1) - (t.getD k 0)).toNat) : Int)))) hz1.fz
     exact ⟨⟨rfl, hf1⟩, rfl⟩
    exact stepsG.nil
   intro W F2 le2 hphi
   obtain ⟨e7, f7_1ha⟩ := hphi 7 (by decide)
   generalize hu1 : ((W 7)) = u1 at e7 f7_1ha
   rw [eS (l := [(0, _), (7, u1)]) ⟨(hphi 0 (by decide)), hu1, ⟨⟩⟩]
   replace ht := ht.mono le2
   show XL _ _ _ _ _ _ _ (intsH 2 ov os :: cellsH b1 [sv] 50 :: L)
   refine cX (jD [] _ qd typeInfo2 rfl rfl rfl rfl rfl rfl f7_1ha (by (try simp only [List.length_append, List.length_nil, List.length_cons, List.length_singleton, List.length_take, List.length_drop]); omega) ?_)
   intro v4 hs3 hn1 hm1
   refine qg (v4) rfl (qb (qc (qa (qf (v4) rfl (cX (qE qd rfl (intsH.slv [] rfl) (cX (jL rfl rfl (qb ?_)))))))))
   refine qA (p := ((((os ++ ((lk s (-1 - ((((-1) - (t.getD k 0)).toNat) : Int))))).length : Nat) : Int) : Int) > 60) rfl (fun h3 => ?_) (fun h3 => ?_)
   ·refine qc (qa (cX (qt (s := 1) [] [ii (0)] [] qd qm qJ rfl (by decide) rfl CellsAre.nil rfl ?_)))
    intro v5 hv2
    refine qg (v5) rfl (qg (.bool (false)) rfl (qb ?_))
    show X _ _ _ _ _ _ (intsH 2 v5 ([] : List Int) :: intsH 2 v4 (os ++ ((lk s (-1 - ((((-1) - (t.getD k 0)).toNat) : Int))))) :: cellsH b1 [sv] 50 :: L)
    refine qP [] _ _ rfl (fun F3 le3 hz2 => ?_)
    replace ht := ht.mono le3
    have hf2 : IntsF F3 v5 ([]) := intsH.fz (xs := []) hz2.fz
    refine qw (qR (qq (qq (qR (qq (qv (L' := L) [v5, .bool (false)] (.tuple #[v5, .bool (false)]) (.tmp rfl (.tmp rfl .nil)) rfl (qh le2 le3) rF (sD (sD sR)) ?_))))))
    have hz : fillL s t = none := hm.trans (fillGo_long (a := os ++ ((lk s (-1 - ((((-1) - (t.getD k 0)).toNat) : Int))))) (by omega) (by rw [show (-1 - (((-1 - t.getD k 0).toNat : Nat) : Int)) = t.getD k 0 from by omega]) (by omega))
    exact ⟨_, by rw [hz]; rfl, by rw [hz]; exact hf2, rfl⟩
   refine qz (qa (qf (ii ((k : Int))) rfl (cX (qS (((k + 1 : Nat) : Int)) rfl rfl (by omega) (by omega) (qg (ii (((k + 1 : Nat) : Int))) rfl (qb ?_))))))
   exact ⟨(k + 1, v4, os ++ ((lk s (-1 - ((((-1) - (t.getD k 0)).toNat) : Int))))), _, FLe.refl _, le2, ⟨rfl, rfl, rfl, rfl, ⟨⟩⟩, (sC (sC sR)), ⟨rfl, (hs3), (by (try dsimp only) <;> omega), (by dsimp only; exact hm.trans (fillGo_next (by omega) (by rw [show (-1 - (((-1 - t.getD k 0).toNat : Nat) : Int)) = t.getD k 0 from by omega]) (by omega))), (by dsimp only; omega)⟩, (by omega)⟩
  refine qa (qf (ov) rfl (qf (tv) rfl (qf (ii ((k : Int))) rfl (cX (qu k qd qm rfl rfl rfl ht.slv (by omega) (Nat.mul_one _) (cX (qi qQ rfl (ht.rd (by omega)) (cX (qt (s := 1) [ii (t.getD k 0)] [ii (0)] [(0, [ii (t.getD k 0)])] qd qm qJ rfl (by decide) rfl (.cons rfl CellsAre.nil) rfl ?_)))))))))
  intro v6 hv3
  refine cX (ye (u := t.getD k 0) [_] _ qd typeInfo2 rfl rfl rfl rfl rfl rfl (SlV.own [] rfl) (Rd.sl [] rfl rfl) (by (try simp only [List.length_append, List.length_nil, List.length_cons, List.length_singleton, List.length_take, List.length_drop]); omega) ?_)
  intro v7 hs4 hn2
  refine qg (v7) rfl (qb (qc (qa (qf (v7) rfl (cX (qE qd rfl (intsH.slv [_] rfl) (cX (jL rfl rfl (qb ?_)))))))))
  refine qA (p := ((((os ++ [t.getD k 0]).length : Nat) : Int) : Int) > 60) rfl (fun h4 => ?_) (fun h4 => ?_)
  ·refine qc (qa (cX (qt (s := 1) [] [ii (0)] [] qd qm qJ rfl (by decide) rfl CellsAre.nil rfl ?_)))
   intro v8 hv4
   refine qg (v8) rfl (qg (.bool (false)) rfl (qb ?_))
   show X _ _ _ _ _ _ (intsH 2 v8 ([] : List Int) :: slH 2 1 v6 1 [ii (t.getD k 0)] :: intsH 2 v7 (os ++ [t.getD k 0]) :: cellsH b1 [sv] 50 :: L)
   refine qP [] _ _ rfl (fun F4 le4 hz3 => ?_)
   have hf3 : IntsF F4 v8 ([]) := intsH.fz (xs := []) hz3.fz
   refine qw (qR (qq (qq (qR (qq (qv (L' := L) [v8, .bool (false)] (.tuple #[v8, .bool (false)]) (.tmp rfl (.tmp rfl .nil)) rfl le4 rF (sD (sD (sD sR))) ?_))))))
   have hz : fillL s t = none := hm.trans (fillGo_long (a := os ++ [t.getD k 0]) (by omega) (by rw [lk_sym (by omega)]) (by omega))
   exact ⟨_, by rw [hz]; rfl, by rw [hz]; exact hf3, rfl⟩
  refine qz (qa (qf (ii ((k : Int))) rfl (cX (qS (((k + 1 : Nat) : Int)) rfl rfl (by omega) (by omega) (qg (ii (((k + 1 : Nat) : Int))) rfl (qb ?_))))))
  exact ⟨(k + 1, v7, os ++ [t.getD k 0]), _, FLe.refl _, rF, ⟨rfl, rfl, rfl, rfl, ⟨⟩⟩, (sD (sC (sC sR))), ⟨rfl, (hs4), (by (try dsimp only) <;> omega), (by dsimp only; exact hm.trans (fillGo_next (by omega) (by rw [lk_sym (by omega)]) (by omega))), (by dsimp only; omega)⟩, (by omega)⟩
 refine jj (qx (qx (qO (qc (qa (qf (ov) rfl (qg (ov) rfl (qg (.bool (true)) rfl (qb (qP [] _ _ rfl (fun F5 le5 hz4 => ?_)))))))))))
 have hf4 : IntsF F5 ov os := intsH.fz (xs := os) hz4.fz
 refine qw (qv (L' := L) [ov, .bool (true)] (.tuple #[ov, .bool (true)]) (.tmp rfl (.tmp rfl .nil)) rfl le5 rF (sD sR) ?_)
 have hz : fillL s t = some os := hm.trans (fillGo_done (by omega))
 exact ⟨_, by rw [hz]; rfl, by rw [hz]; exact hf4, rfl⟩

/- spec.l3Put -/
theorem l3Put_spec {F : FH} {L : List HP} {arv : Value} {ar : List Int} (har : IntsF F arv ar) {tv : Value} {t : List Int} (ht : IntsF F tv t) {p : Nat} {uv : Value} {u : List Int} (hu : IntsF F uv u) (ho : termOk ar t = true) (hp : p < t.length) (hul : u.length ≤ 4000000) :
    Does prog 175 [.agg #[arv], tv, ii ((p : Int)), uv] F (L) (fun v F' L' => ∃ (a : Value), (.tuple #[a, .bool ((putL ar t p u).isSome)] : Value) = v ∧ (IntsF F' a ((putL ar t p u).getD [])) ∧ L = L') := by
 refine qI func175 rfl rfl rfl ?_
 have hsig := termOk_sig ho
 have hsl := sigOk_spec hsig
 have htl := termOk_len ho
 have hee := endN_spec ho hp
 refine qc (qa (cX (jc [arv] rfl rfl ?_)))
 intro b1
 refine qg (sN) rfl (qg (.bool (false)) rfl (qb (qc (qa (qf (tv) rfl (qf (ii ((p : Int))) rfl (cX (yf 0 p qd qm rfl ht rfl ⟨_, rfl⟩ (by omega) (by omega) ?_))))))))
 intro v1 hv1 hn1
 refine cX (qr (args := [v1]) call193 rfl (l1Copy_spec hv1 (hlt := (by simp; omega))) ?_)
 rintro v2 _ _ _ ⟨rfl, hs1, rfl⟩
 refine qf (uv) rfl (cX (jD [] _ qd typeInfo2 rfl rfl rfl rfl rfl rfl hu (by (try simp only [List.length_append, List.length_nil, List.length_cons, List.length_singleton, List.length_take, List.length_drop]); omega) ?_))
 intro v3 hs2 hn2 hm1
 refine qg (v3) rfl (qb (qc (qa (qf (v3) rfl (qf (tv) rfl (cX (qy [arv] ja qF rfl rfl (Rd.ownN [_] rfl rfl) (qf (tv) rfl (qf (ii ((p : Int))) rfl (cX (qr (args := [.agg #[arv], tv, ii (p : Int)]) call152 rfl (l1End_ok (p := p) har ht (ho := (by first | assumption | rfl | omega | (left; simp; done) | (right; simp; done))) (hp := (by first | assumption | rfl | omega | (left; simp; done) | (right; simp; done)))) ?_)))))))))))
 rintro _ _ _ _ ⟨rfl, rfl, rfl⟩
 refine cX (yf (endN ar t p) ((t).length) qd qm rfl ht ⟨_, rfl⟩ rfl (by omega) (by omega) ?_)
 intro v4 hv2 hn3
 refine cX (jD [] _ qd typeInfo2 rfl rfl rfl rfl rfl rfl hv2 (by (try simp only [List.length_append, List.length_nil, List.length_cons, List.length_singleton, List.length_take, List.length_drop]); omega) ?_)
 intro v5 hs3 hn4 hm2
 refine qg (v5) rfl (qb (qc (qc (qa (qf (v5) rfl (cX (qE qd rfl (intsH.slv [] rfl) (cX (jL rfl rfl (qb ?_))))))))))
 refine qA (p := ((((((((((t.drop 0).take (p - 0))))) ++ u) ++ (((t.drop (endN ar t p)).take (((t).length) - (endN ar t p))))).length : Nat) : Int) : Int) > 60) rfl (fun h1 => ?_) (fun h1 => ?_)
 ·refine qc (qa (cX (qt (s := 1) [] [ii (0)] [] qd qm qJ rfl (by decide) rfl CellsAre.nil rfl ?_)))
  intro v6 hv3
  refine qg (v6) rfl (qg (.bool (false)) rfl (qb ?_))
  show X _ _ _ _ _ _ (intsH 2 v6 ([] : List Int) :: intsH 2 v5 (((((((t.drop 0).take (p - 0))))) ++ u) ++ (((t.drop (endN ar t p)).take (((t).length) - (endN ar t p))))) :: cellsH b1 [arv] 29 :: L)
  refine qP [] _ _ rfl (fun F1 le1 hz1 => ?_)
  have hf1 : IntsF F1 v6 ([]) := intsH.fz (xs := []) hz1.fz
  refine qw (qq (qv (L' := L) [v6, .bool (false)] (.tuple #[v6, .bool (false)]) (.tmp rfl (.tmp rfl .nil)) rfl le1 rF (sD (sD sR)) ?_))
  have hz : putL ar t p u = none := putL_none put_three (by omega)
  exact ⟨_, by rw [hz]; rfl, by rw [hz]; exact hf1, rfl⟩
 refine qz (qc (qa (qf (v5) rfl (qg (v5) rfl (qg (.bool (true)) rfl (qb (qP [] _ _ rfl (fun F2 le2 hz2 => ?_))))))))
 have hf2 : IntsF F2 v5 (((((((t.drop 0).take (p - 0))))) ++ u) ++ (((t.drop (endN ar t p)).take (((t).length) - (endN ar t p))))) := intsH.fz (xs := ((((((t.drop 0).take (p - 0))))) ++ u) ++ (((t.drop (endN ar t p)).take (((t).length) - (endN ar t p))))) hz2.fz
 refine qw (qv (L' := L) [v5, .bool (true)] (.tuple #[v5, .bool (true)]) (.tmp rfl (.tmp rfl .nil)) rfl le2 rF (sD sR) ?_)
 have hz := putL_some (ar := ar) (t := t) (p := p) (u := u) put_three (by omega)
 exact ⟨_, by rw [hz]; rfl, by rw [hz]; exact hf2, rfl⟩

/- spec.l7Step -/
theorem l7Step_spec {F : FH} {L : List HP} {arv : Value} {ar : List Int} (har : IntsF F arv ar) {rsv : Value} {rs : List (List Int × List Int)} (hrs : PairsF F rsv rs) {tv : Value} {t : List Int} (ht : IntsF F tv t) {p : Nat} {r : Nat} (hsys : sysOk ar rs = true) (ho : termOk ar t = true) (hp : p < t.length) (hr : r < rs.length) :
    Does prog 113 [.agg #[arv, rsv], tv, ii ((p : Int)), ii ((r : Int))] F (L) (fun v F' L' => ∃ (a : Value), (.tuple #[a, .bool ((stepL ar rs t p r).isSome)] : Value) = v ∧ (IntsF F' a ((stepL ar rs t p r).getD [])) ∧ L = L') := by
 refine qI func113 rfl rfl rfl ?_
 have hnn := ya ht (by have := termOk_len ho; omega)
 have htl := termOk_len ho
 have hrl := (sysOk_iff.1 hsys).2.1
 have hsig := (sysOk_iff.1 hsys).1
 have hsl := sigOk_spec hsig
 have hR := ruleOk_iff.1 ((sysOk_iff.1 hsys).2.2 r hr)
 have hRl := hR.left
 have hRr := hR.right
 have hso := sub_ok ho hp
 have hsb := sub_length ho hp
 have hee := endN_spec ho hp
 have hRrl := termOk_len hRr
 have hRg := fun k (hk : k < (rs.getD r ([], [])).2.length) => termOk_ge hRr hk
 have hmp := matchP_len (ar := ar) (p := (rs.getD r ([], [])).1) (t := sub ar t p)
 have hmp2 := hmp.2
 have hmp3 := hmp.1
 refine qc (qa (cX (jc [arv, rsv] rfl rfl ?_)))
 intro b1
 refine qg (sN) rfl (qg (.bool (false)) rfl (qb (qc (qa (cX (qo (1) qK rfl jv (by decide) rfl rfl (cX (qi jQ rfl (Rd.own [] rfl rfl) (qf (ii ((r : Int))) rfl (cX (qu r qX jm rfl rfl rfl hrs.slv (by omega) rfl ?_)))))))))))
 obtain ⟨a1, a2, ha1, ha2, hr1, hr2⟩ := hrs.rd (i := r) (by omega)
 refine cX (qy [a1, a2] isAgg72 jm rfl rfl (Rd.two (hr1 _) (hr2 _)) (cX (jo [sN, sN] je rfl ?_)))
 intro b2
 refine cX (qV [] _ [a1, a2] jm rfl rfl rfl (qs (jb (qD ha1)) (qs (jb (qD ha2)) qZ)) rfl rfl rfl (qb (qc ?_)))
 refine X.drawG [cellsH b2 [a1, a2] 72, cellsH b1 [arv, rsv] 32] L 15 [[], [], [], [], [], [], [], [], [], [], [9], [9], [], [], [9, 13]] [[], [0], [], [2], [], [4], [], [], [5, 6, 7], [1, 3, 8], [9], [9, 10], [9, 10], [], [9, 11, 13]] [[], [], [], [], [], [], [], [], [], [], [], [], [], [], [13]] (phiG [pe (ptr b1 0), pe (.agg #[arv]), pe (ptr b2 0), pe a1, pe (ptr b1 0), pe (.agg #[arv]), pe tv, pe (ii ((p : Int)) : Value), fun FF us v => ((v) : Value) = v ∧ (IntsF FF (v) (sub ar t p)), fun FF us v => (.tuple #[.agg #[((aggAt (tupAt v 0) 0))], .bool ((matchB ar ((rs.getD r ([], [])).1) ((sub ar t p))).isSome)] : Value) = v ∧ (RowsF FF ((aggAt (tupAt v 0) 0)) (matchP ar ((rs.getD r ([], [])).1) ((sub ar t p)))), fun FF us v => v = (.tuple #[.agg #[((aggAt (tupAt (us.getD 0 undef) 0) 0))], .bool ((matchB ar ((rs.getD r ([], [])).1) ((sub ar t p))).isSome)] : Value), fun FF us v => v = (.agg #[((aggAt (tupAt (us.getD 0 undef) 0) 0))] : Value), pe (.bool ((matchB ar ((rs.getD r ([], [])).1) ((sub ar t p))).isSome)), fun FF us v => v = ptr (blk v) 0, fun FF us v => True]) (ownL [o0, o0, o0, o0, o0, o0, o0, o0, o0, o0, o0, o0, o0, fun us v => [cellsH (blk v) [sN] 50], fun us v => [cellsH (blk (us.getD 1 undef)) [((aggAt (tupAt (us.getD 0 undef) 0) 0))] 50]]) mixed rfl rfl (by kernel_rfl) (by kernel_rfl) (MonoG.get (m1 (m1 (m1 (m1 (m1 (m1 (m1 (m1 (mC (fun le h => ⟨h.1, h.2.mono le⟩) (mC (fun le h => ⟨h.1, h.2.mono le⟩) (mC (fun le h => h) (mC (fun le h => h) (m1 (mC (fun le h => h) (mC (fun le h => h) MonoG.nil)))))))))))))))) ?_ ?_
 ·refine gD (fun W Fs R lF z9 => ?_) ?_
  ·refine qj (qo (0) qK rfl qF (by decide) rfl rfl ?_)
   exact ⟨rfl, rfl⟩
  refine gD (fun W Fs R lF z9 => ?_) ?_
  ·replace har := har.mono lF
   replace ht := ht.mono lF
   replace ha1 := ha1.mono lF
   replace ha2 := ha2.mono lF
   rw [eS (l := [(0, _)]) ⟨z9 0 rfl, ⟨⟩⟩]
   refine qj (qy [arv] ja qF rfl rfl (Rd.ownN [_] rfl rfl) ?_)
   exact ⟨rfl, rfl⟩
  refine gD (fun W Fs R lF z9 => ?_) ?_
  ·refine qj (qo (0) qM rfl qp (by decide) rfl rfl ?_)
   exact ⟨rfl, rfl⟩
  refine gD (fun W Fs R lF z9 => ?_) ?_
  ·replace har := har.mono lF
   replace ht := ht.mono lF
   replace ha1 := ha1.mono lF
   replace ha2 := ha2.mono lF
   rw [eS (l := [(2, _)]) ⟨z9 2 rfl, ⟨⟩⟩]
   refine qj (qi qW rfl (Rd.own [] rfl rfl) ?_)
   exact ⟨rfl, rfl⟩
  refine gD (fun W Fs R lF z9 => ?_) ?_
  ·refine qj (qo (0) qK rfl qF (by decide) rfl rfl ?_)
   exact ⟨rfl, rfl⟩
  refine gD (fun W Fs R lF z9 => ?_) ?_
  ·replace har := har.mono lF
   replace ht := ht.mono lF
   replace ha1 := ha1.mono lF
   replace ha2 := ha2.mono lF
   rw [eS (l := [(4, _)]) ⟨z9 4 rfl, ⟨⟩⟩]
   refine qj (qy [arv] ja qF rfl rfl (Rd.ownN [_] rfl rfl) ?_)
   exact ⟨rfl, rfl⟩
  refine gD (fun W Fs R lF z9 => ?_) ?_
  ·refine qj (ql (tv) rfl ?_)
   exact ⟨rfl, rfl⟩
  refine gD (fun W Fs R lF z9 => ?_) ?_
  ·refine qj (ql (ii ((p : Int))) rfl ?_)
   exact ⟨rfl, rfl⟩
  refine gD (fun W Fs R lF z9 => ?_) ?_
  ·replace har := har.mono lF
   replace ht := ht.mono lF
   replace ha1 := ha1.mono lF
   replace ha2 := ha2.mono lF
   rw [eS (l := [(5, _), (6, _), (7, _)]) ⟨z9 5 rfl, z9 6 rfl, z9 7 rfl, ⟨⟩⟩]
   refine qj (jR <| qr (args := [.agg #[arv], tv, ii (p : Int)]) call174 rfl (l1Sub_spec (p := p) har ht (ho := (by first | assumption | rfl | omega | simp)) (hp := (by first | assumption | rfl | omega | simp))) ?_)
   rintro v2 _ _ _ ⟨rfl, hs2, rfl⟩
   refine ⟨_, _, rfl, fun F2 le2 hz1 => ?_⟩
   replace har := har.mono le2
   replace ht := ht.mono le2
   replace ha1 := ha1.mono le2
   replace ha2 := ha2.mono le2
   have hf1 : IntsF F2 v2 ((sub ar t p)) := intsH.fz (xs := (sub ar t p)) hz1.fz
   exact ⟨⟨rfl, hf1⟩, rfl⟩
  refine gD (fun W Fs R lF z9 => ?_) ?_
  ·obtain ⟨e8, f8_1ha⟩ := z9 8 rfl
   replace har := har.mono lF
   replace ht := ht.mono lF
   replace ha1 := ha1.mono lF
   replace ha2 := ha2.mono lF
   rw [eS (l := [(1, _), (3, _), (8, ((W 8)))]) ⟨z9 1 rfl, z9 3 rfl, (e8).symm, ⟨⟩⟩]
   refine qj (qr (args := [.agg #[arv], a1, ((W 8))]) call120 rfl (l4Match_spec har ha1 f8_1ha (ho := (by first | assumption | rfl | omega | simp)) (hpo := (by first | assumption | rfl | omega | simp))) ?_)
   rintro _ F3 _ le3 ⟨x2, rfl, hr4, rfl⟩
   replace har := har.mono le3
   replace ht := ht.mono le3
   replace ha2 := ha2.mono le3
   replace f8_1ha := f8_1ha.mono le3
   exact ⟨⟨rfl, hr4⟩, rfl⟩
  refine gD (fun W Fs R lF z9 => ?_) ?_
  ·obtain ⟨e9, f9_1hr⟩ := z9 9 rfl
   rw [eS (l := [(9, (.tuple #[.agg #[((aggAt (tupAt (W 9) 0) 0))], .bool ((matchB ar ((rs.getD r ([], [])).1) ((sub ar t p))).isSome)]))]) ⟨(e9).symm, ⟨⟩⟩]
   refine qj (ql (.tuple #[.agg #[((aggAt (tupAt (W 9) 0) 0))], .bool ((matchB ar ((rs.getD r ([], [])).1) ((sub ar t p))).isSome)]) rfl ?_)
   exact ⟨rfl, rfl⟩
  refine gD (fun W Fs R lF z9 => ?_) ?_
  ·obtain ⟨e9, f9_1hr⟩ := z9 9 rfl
   have e10 : W 10 = (.tuple #[.agg #[((aggAt (tupAt (W 9) 0) 0))], .bool ((matchB ar ((rs.getD r ([], [])).1) ((sub ar t p))).isSome)] : Value) := z9 10 rfl
   rw [eS (l := [(9, (.tuple #[.agg #[((aggAt (tupAt (W 9) 0) 0))], .bool ((matchB ar ((rs.getD r ([], [])).1) ((sub ar t p))).isSome)])), (10, (.tuple #[.agg #[((aggAt (tupAt (W 9) 0) 0))], .bool ((matchB ar ((rs.getD r ([], [])).1) ((sub ar t p))).isSome)]))]) ⟨(e9).symm, e10, ⟨⟩⟩]
   refine qj (qH (.agg #[((aggAt (tupAt (W 9) 0) 0))]) rfl rfl ?_)
   exact ⟨rfl, rfl⟩
  refine gD (fun W Fs R lF z9 => ?_) ?_
  ·obtain ⟨e9, f9_1hr⟩ := z9 9 rfl
   have e10 : W 10 = (.tuple #[.agg #[((aggAt (tupAt (W 9) 0) 0))], .bool ((matchB ar ((rs.getD r ([], [])).1) ((sub ar t p))).isSome)] : Value) := z9 10 rfl
   rw [eS (l := [(9, (.tuple #[.agg #[((aggAt (tupAt (W 9) 0) 0))], .bool ((matchB ar ((rs.getD r ([], [])).1) ((sub ar t p))).isSome)])), (10, (.tuple #[.agg #[((aggAt (tupAt (W 9) 0) 0))], .bool ((matchB ar ((rs.getD r ([], [])).1) ((sub ar t p))).isSome)]))]) ⟨(e9).symm, e10, ⟨⟩⟩]
   refine qj (qH (.bool ((matchB ar ((rs.getD r ([], [])).1) ((sub ar t p))).isSome)) rfl rfl ?_)
   exact ⟨rfl, rfl⟩
  refine gD (fun W Fs R lF z9 => ?_) ?_
  ·replace har := har.mono lF
   replace ht := ht.mono lF
   replace ha2 := ha2.mono lF
   refine qj (jo [sN] jy rfl ?_)
   intro b4
   exact ⟨rfl, rfl⟩
  refine gD (fun W Fs R lF z9 => ?_) ?_
  ·obtain ⟨e9, f9_1hr⟩ := z9 9 rfl
   have e11 : W 11 = (.agg #[((aggAt (tupAt (W 9) 0) 0))] : Value) := z9 11 rfl
   have e13 : W 13 = ptr (blk (W 13)) 0 := z9 13 rfl
   replace har := har.mono lF
   replace ht := ht.mono lF
   replace ha2 := ha2.mono lF
   rw [eS (l := [(9, (.tuple #[.agg #[((aggAt (tupAt (W 9) 0) 0))], .bool ((matchB ar ((rs.getD r ([], [])).1) ((sub ar t p))).isSome)])), (11, (.agg #[((aggAt (tupAt (W 9) 0) 0))])), (13, ptr (blk (W 13)) 0)]) ⟨(e9).symm, e11, e13, ⟨⟩⟩]
   show XG _ _ _ _ _ (cellsH (blk (W 13)) [sN] 50 :: ([cellsH b2 [a1, a2] 72, cellsH b1 [arv, rsv] 32] ++ R)) _
   refine qj (qV [] _ [((aggAt (tupAt (W 9) 0) 0))] jl rfl rfl rfl (qs (jb (RowsF.isSl f9_1hr)) qZ) rfl rfl rfl ?_)
   exact ⟨trivial, rfl⟩
  exact stepsG.nil
 intro W F4 le4 hphi
 obtain ⟨e8, f8_1ha⟩ := hphi 8 (by decide)
 obtain ⟨e9, f9_1hr⟩ := hphi 9 (by decide)
 have e10 : W 10 = (.tuple #[.agg #[((aggAt (tupAt (W 9) 0) 0))], .bool ((matchB ar ((rs.getD r ([], [])).1) ((sub ar t p))).isSome)] : Value) := hphi 10 (by decide)
 have e11 : W 11 = (.agg #[((aggAt (tupAt (W 9) 0) 0))] : Value) := hphi 11 (by decide)
 have e13 : W 13 = ptr (blk (W 13)) 0 := hphi 13 (by decide)
 generalize hu1 : ((W 8)) = u1 at e8 f8_1ha e9 f9_1hr e10 e11 e13
 generalize hu2 : ((aggAt (tupAt (W 9) 0) 0)) = u2 at e8 f8_1ha e9 f9_1hr e10 e11 e13
 generalize hu3 : blk (W 13) = b5 at e8 f8_1ha e9 f9_1hr e10 e11 e13
 rw [eS (l := [(9, (.tuple #[.agg #[u2], .bool ((matchB ar ((rs.getD r ([], [])).1) ((sub ar t p))).isSome)])), (12, _), (13, ptr b5 0)]) ⟨(e9).symm, (hphi 12 (by decide)), e13, ⟨⟩⟩]
 replace har := har.mono le4
 replace ht := ht.mono le4
 replace ha2 := ha2.mono le4
 show XL _ _ _ _ _ _ _ (cellsH b5 [u2] 50 :: cellsH b2 [a1, a2] 72 :: cellsH b1 [arv, rsv] 32 :: L)
 refine qg (.bool ((matchB ar ((rs.getD r ([], [])).1) ((sub ar t p))).isSome)) rfl (qb (qc (qc (qa (qf (.bool ((matchB ar ((rs.getD r ([], [])).1) ((sub ar t p))).isSome)) rfl (cX (jg rfl (qb ?_))))))))
 refine jO (t := !((matchB ar ((rs.getD r ([], [])).1) ((sub ar t p))).isSome)) rfl (fun h1 => ?_) (fun h1 => ?_)
 ·have hms : (matchB ar (rs.getD r ([], [])).1 (sub ar t p)).isSome = false := by simpa using h1
  refine qc (qa (cX (qt (s := 1) [] [ii (0)] [] qd qm qJ rfl (by decide) rfl CellsAre.nil rfl ?_)))
  intro v3 hv1
  refine qg (v3) rfl (qg (.bool (false)) rfl (qb ?_))
  show X _ _ _ _ _ _ (intsH 2 v3 ([] : List Int) :: cellsH b5 [u2] 50 :: cellsH b2 [a1, a2] 72 :: cellsH b1 [arv, rsv] 32 :: L)
  refine qP [] _ _ rfl (fun F5 le5 hz2 => ?_)
  replace har := har.mono le5
  replace ht := ht.mono le5
  replace ha2 := ha2.mono le5
  replace f9_1hr := f9_1hr.mono le5
  have hf2 : IntsF F5 v3 ([]) := intsH.fz (xs := []) hz2.fz
  refine qw (qq (qv (L' := L) [v3, .bool (false)] (.tuple #[v3, .bool (false)]) (.tmp rfl (.tmp rfl .nil)) rfl (qh le4 le5) rF (sD (sD (sD sR))) ?_))
  have hz := stepL_nomatch hms
  exact ⟨_, by rw [hz]; rfl, by rw [hz]; exact hf2, rfl⟩
 have hms : (matchB ar (rs.getD r ([], [])).1 (sub ar t p)).isSome = true := by simpa using h1
 refine qz (qc (qa (cX (qy [u2] jG jl rfl rfl (Rd.ownN [] rfl rfl) (cX (qo (1) qM rfl qp (by decide) rfl rfl (cX (qi qW rfl (Rd.own [_] rfl rfl) (cX (qr (args := [.agg #[u2], a2]) call77 rfl (l2Filled_spec f9_1hr ha2 (hsl := (by first | assumption | rfl | omega | simp)) (hsb := (fun i => by have := hmp2 i; omega)) (htl := (by first | assumption | rfl | omega | simp)) (htg := (fun k hk => by have := hRg k hk; omega))) ?_))))))))))
 rintro _ F6 _ le6 ⟨x3, rfl, hr5, rfl⟩
 replace har := har.mono le6
 replace ht := ht.mono le6
 refine qf (.tuple #[x3, .bool ((fillL (matchP ar ((rs.getD r ([], [])).1) ((sub ar t p))) ((rs.getD r ([], [])).2)).isSome)]) rfl (cX (qH (x3) rfl rfl (cX (qH (.bool ((fillL (matchP ar ((rs.getD r ([], [])).1) ((sub ar t p))) ((rs.getD r ([], [])).2)).isSome)) rfl rfl (qg (x3) rfl (qg (.bool ((fillL (matchP ar ((rs.getD r ([], [])).1) ((sub ar t p))) ((rs.getD r ([], [])).2)).isSome)) rfl (qb (qc (qc (qa (qf (.bool ((fillL (matchP ar ((rs.getD r ([], [])).1) ((sub ar t p))) ((rs.getD r ([], [])).2)).isSome)) rfl (cX (jg rfl (qb ?_))))))))))))))
 refine jO (t := !((fillL (matchP ar ((rs.getD r ([], [])).1) ((sub ar t p))) ((rs.getD r ([], [])).2)).isSome)) rfl (fun h2 => ?_) (fun h2 => ?_)
 ·have hfs : (fillL (matchP ar (rs.getD r ([], [])).1 (sub ar t p)) (rs.getD r ([], [])).2).isSome = false := by simpa using h2
  refine qc (qa (cX (qt (s := 1) [] [ii (0)] [] qd qm qJ rfl (by decide) rfl CellsAre.nil rfl ?_)))
  intro v4 hv2
  refine qg (v4) rfl (qg (.bool (false)) rfl (qb ?_))
  show X _ _ _ _ _ _ (intsH 2 v4 ([] : List Int) :: cellsH b5 [u2] 50 :: cellsH b2 [a1, a2] 72 :: cellsH b1 [arv, rsv] 32 :: L)
  refine qP [] _ _ rfl (fun F7 le7 hz3 => ?_)
  replace har := har.mono le7
  replace ht := ht.mono le7
  replace hr5 := hr5.mono le7
  have hf3 : IntsF F7 v4 ([]) := intsH.fz (xs := []) hz3.fz
  refine qw (qq (qv (L' := L) [v4, .bool (false)] (.tuple #[v4, .bool (false)]) (.tmp rfl (.tmp rfl .nil)) rfl (qh (qh le4 le6) le7) rF (sD (sD (sD sR))) ?_))
  have hz := stepL_nofill hms hfs
  exact ⟨_, by rw [hz]; rfl, by rw [hz]; exact hf3, rfl⟩
 have hfs : (fillL (matchP ar (rs.getD r ([], [])).1 (sub ar t p)) (rs.getD r ([], [])).2).isSome = true := by simpa using h2
 have hfl := fill_getD_len hfs (by omega)
 refine qz (qc (qa (cX (qo (0) qK rfl qF (by decide) rfl rfl (cX (qy [arv] ja qF rfl rfl (Rd.ownN [_, _] rfl rfl) (qf (tv) rfl (qf (ii ((p : Int))) rfl (qf (x3) rfl (cX (qr (args := [.agg #[arv], tv, ii (p : Int), x3]) call175 rfl (l3Put_spec (p := p) har ht hr5 (ho := (by first | assumption | rfl | omega | simp)) (hp := (by first | assumption | rfl | omega | simp)) (hul := (by first | assumption | rfl | omega | simp))) ?_)))))))))))
 rintro _ F8 _ le8 ⟨x4, rfl, hr6, rfl⟩
 refine cX (qH (x4) rfl rfl (cX (qH (.bool ((putL ar t p ((fillL (matchP ar ((rs.getD r ([], [])).1) ((sub ar t p))) ((rs.getD r ([], [])).2)).getD [])).isSome)) rfl rfl (qg (x4) rfl (qg (.bool ((putL ar t p ((fillL (matchP ar ((rs.getD r ([], [])).1) ((sub ar t p))) ((rs.getD r ([], [])).2)).getD [])).isSome)) rfl (qb (qw (qv (L' := L) [x4, .bool ((putL ar t p ((fillL (matchP ar ((rs.getD r ([], [])).1) ((sub ar t p))) ((rs.getD r ([], [])).2)).getD [])).isSome)] (.tuple #[x4, .bool ((putL ar t p ((fillL (matchP ar ((rs.getD r ([], [])).1) ((sub ar t p))) ((rs.getD r ([], [])).2)).getD [])).isSome)]) (.tmp rfl (.tmp rfl .nil)) rfl (qh (qh le4 le6) le8) rF (sD (sD (sD sR))) ?_))))))))
 have hz := stepL_put hms hfs
 exact ⟨_, by rw [hz], by rw [hz]; exact hr6, rfl⟩

/- impl.stepArgs -/
theorem stepArgs_spec {F : FH} {L : List HP} {arv : Value} {ar : List Int} (har : IntsF F arv ar) {rsv : Value} {rs : List (List Int × List Int)} (hrs : PairsF F rsv rs) {tv : Value} {t : List Int} (ht : IntsF F tv t) {p : Int} {r : Int} :
    Does prog 221 [.agg #[arv, rsv], tv, ii (p), ii (r)] F (L) (fun v F' L' => (.bool (stepAtOk ar rs t p r) : Value) = v ∧ F = F' ∧ L = L') := by
 refine qI func221 rfl rfl rfl (qc (qa (cX (jc [arv, rsv] rfl rfl ?_))))
 intro b1
 refine qg (.bool (false)) rfl (qb (qc (qa (cX (qy [arv, rsv] jF jp rfl rfl (Rd.ownN [] rfl rfl) (cX (qr (args := [.agg #[arv, rsv]]) call97 rfl (SystemOk_spec har hrs) ?_)))))))
 rintro _ _ _ _ ⟨rfl, rfl, rfl⟩
 refine qf (.bool (sysOk ar rs)) rfl ?_
 by_cases h1 : (sysOk ar rs) = true
 ·refine qk (t := 11) rfl (vB h1) (qo (0) qK rfl qF (by decide) rfl rfl (qk (t := 11) rfl (vB h1) (qy [arv] ja qF rfl rfl (Rd.ownN [] rfl rfl) (qk (t := 11) rfl (vB h1) (ql (tv) rfl (qk (t := 11) rfl (vB h1) (ql (ii (p)) rfl (qk (t := 11) rfl (vB h1) (qr (args := [.agg #[arv], tv, ii (p)]) call242 rfl (posOk_spec (n := p) har ht) ?_)))))))))
  rintro _ _ _ _ ⟨rfl, rfl, rfl⟩
  refine cX (qN (.bool (posOk ar t p)) (vB h1) rfl (qf (.bool (posOk ar t p)) rfl ?_))
  by_cases h2 : (posOk ar t p) = true
  ·refine qk (t := 18) rfl (vB h2) (ql (ii (r)) rfl (qk (t := 18) rfl (vB h2) (jP rfl rfl (cX (qN (.bool (decide ((r : Int) ≥ 0))) (vB h2) rfl (qf (.bool (decide ((r : Int) ≥ 0))) rfl ?_))))))
   by_cases h3 : (r : Int) ≥ 0
   ·refine qk (t := 22) rfl (vT h3) (ql (ii (r)) rfl (qk (t := 22) rfl (vT h3) (qo (1) qK rfl jv (by decide) rfl rfl (qk (t := 22) rfl (vT h3) (qi jQ rfl (Rd.own [] rfl rfl) (qk (t := 22) rfl (vT h3) (qE qX rfl hrs.slv (qk (t := 22) rfl (vT h3) (qT rfl rfl (cX (qN (.bool (decide ((r : Int) < (rs.length : Int)))) (vT h3) rfl (qg (.bool (decide ((r : Int) < (rs.length : Int)))) rfl (qb (qw (qv (L' := L) [.bool (decide ((r : Int) < (rs.length : Int)))] (.bool (decide ((r : Int) < (rs.length : Int)))) (.tmp rfl .nil) rfl rF rF (sD sR) ?_)))))))))))))))
    exact ⟨(vB (by unfold stepAtOk rightB; cases hA : sysOk ar rs <;> cases hB : termOk ar t <;> simp_all [posOk] <;> omega)), rfl, rfl⟩
   refine qn (t := 22) rfl (vF h3) (qn (t := 22) rfl (vF h3) (qn (t := 22) rfl (vF h3) (qn (t := 22) rfl (vF h3) (qn (t := 22) rfl (vF h3) (cX (qG (.bool (false)) (vF h3) rfl (qg (.bool (false)) rfl (qb (qw (qv (L' := L) [.bool (false)] (.bool (false)) (.tmp rfl .nil) rfl rF rF (sD sR) ?_))))))))))
   exact ⟨(vB (by unfold stepAtOk rightB; cases hA : sysOk ar rs <;> cases hB : termOk ar t <;> simp_all [posOk] <;> omega)), rfl, rfl⟩
  rw [Bool.not_eq_true] at h2
  refine qn (t := 18) rfl (vB h2) (qn (t := 18) rfl (vB h2) (cX (qG (.bool (false)) (vB h2) rfl (qf (.bool (false)) rfl (qn (t := 22) rfl rfl (qn (t := 22) rfl rfl (qn (t := 22) rfl rfl (qn (t := 22) rfl rfl (qn (t := 22) rfl rfl (cX (qG (.bool (false)) rfl rfl ?_)))))))))))
  refine qg (.bool (false)) rfl (qb (qw (qv (L' := L) [.bool (false)] (.bool (false)) (.tmp rfl .nil) rfl rF rF (sD sR) ?_)))
  exact ⟨(vB (by unfold stepAtOk rightB; cases hA : sysOk ar rs <;> cases hB : termOk ar t <;> simp_all [posOk] <;> omega)), rfl, rfl⟩
 rw [Bool.not_eq_true] at h1
 refine qn (t := 11) rfl (vB h1) (qn (t := 11) rfl (vB h1) (qn (t := 11) rfl (vB h1) (qn (t := 11) rfl (vB h1) (qn (t := 11) rfl (vB h1) (cX (qG (.bool (false)) (vB h1) rfl (qf (.bool (false)) rfl (qn (t := 18) rfl rfl (qn (t := 18) rfl rfl (cX (qG (.bool (false)) rfl rfl ?_)))))))))))
 refine qf (.bool (false)) rfl (qn (t := 22) rfl rfl (qn (t := 22) rfl rfl (qn (t := 22) rfl rfl (qn (t := 22) rfl rfl (qn (t := 22) rfl rfl (cX (qG (.bool (false)) rfl rfl (qg (.bool (false)) rfl (qb (qw (qv (L' := L) [.bool (false)] (.bool (false)) (.tmp rfl .nil) rfl rF rF (sD sR) ?_)))))))))))
 exact ⟨(vB (by unfold stepAtOk rightB; cases hA : sysOk ar rs <;> cases hB : termOk ar t <;> simp_all [posOk] <;> omega)), rfl, rfl⟩

/- impl.StepAt -/
theorem StepAt_spec {F : FH} {L : List HP} {arv : Value} {ar : List Int} (har : IntsF F arv ar) {rsv : Value} {rs : List (List Int × List Int)} (hrs : PairsF F rsv rs) {tv : Value} {t : List Int} (ht : IntsF F tv t) {p : Int} {r : Int} :
    Does prog 178 [.agg #[arv, rsv], tv, ii (p), ii (r)] F (L) (fun v F' L' => ∃ (a : Value), (.tuple #[a, .bool ((stepAtL ar rs t p r).isSome)] : Value) = v ∧ (IntsF F' a ((stepAtL ar rs t p r).getD [])) ∧ (Fresh F F' (intsH 2 a ((stepAtL ar rs t p r).getD []))) ∧ L = L') := by
 refine qI func178 rfl rfl rfl (qc (qa (cX (jc [arv, rsv] rfl rfl ?_))))
 intro b1
 refine qg (sN) rfl (qg (.bool (false)) rfl (qb (qc (qc (qa (cX (qy [arv, rsv] jF jp rfl rfl (Rd.ownN [] rfl rfl) (qf (tv) rfl (qf (ii (p)) rfl (qf (ii (r)) rfl (cX (qr (args := [.agg #[arv, rsv], tv, ii (p), ii (r)]) call221 rfl (stepArgs_spec (p := p) (r := r) har hrs ht) ?_))))))))))))
 rintro _ _ _ _ ⟨rfl, rfl, rfl⟩
 refine cX (jg rfl (qb ?_))
 refine jO (t := !(stepAtOk ar rs t p r)) rfl (fun h1 => ?_) (fun h1 => ?_)
 ·have hz0 : stepAtL ar rs t p r = none := by rw [stepAtL, if_neg (by simpa using h1)]
  refine qc (qa (qg (sN) rfl (qg (.bool (false)) rfl (qb (qw (qq (qv (L' := L) [sN, .bool (false)] (.tuple #[sN, .bool (false)]) (.tmp rfl (.tmp rfl .nil)) rfl rF rF (sD sR) ?_)))))))
  exact ⟨_, by rw [hz0]; rfl, by rw [hz0]; exact IntsF.nilV, by rw [hz0]; exact Fresh.ofNil _, rfl⟩
 have hok : stepAtOk ar rs t p r = true := by simpa using h1
 have hok2 := hok
 unfold stepAtOk rightB at hok2
 simp only [Bool.and_eq_true, decide_eq_true_eq] at hok2
 obtain ⟨⟨⟨hsys, ho⟩, hp1⟩, hr1⟩ := hok2
 refine qz (qc (qa (cX (qy [arv, rsv] jF jp rfl rfl (Rd.ownN [] rfl rfl) (qf (tv) rfl (qf (ii (p)) rfl (qf (ii (r)) rfl (cX (qr (args := [.agg #[arv, rsv], tv, ii (((p).toNat : Nat) : Int), ii (((r).toNat : Nat) : Int)]) call191 (by rw [show (((p).toNat : Nat) : Int) = p from by omega, show (((r).toNat : Nat) : Int) = r from by omega]; rfl) (step_spec (p := (p).toNat) (r := (r).toNat) har hrs ht (hsys := (by first | assumption | rfl | omega | simp)) (ho := (by first | assumption | rfl | omega | simp)) (hp := (by first | assumption | rfl | omega | simp)) (hr := (by first | assumption | rfl | omega | simp))) ?_)))))))))
 rintro _ F1 _ le1 ⟨x1, rfl, hr1, hr2, hr3, rfl⟩
 refine cX (qH (x1) rfl rfl (cX (qH (.bool ((stepL ar rs t ((p).toNat) ((r).toNat)).isSome)) rfl rfl (qg (x1) rfl (qg (.bool ((stepL ar rs t ((p).toNat) ((r).toNat)).isSome)) rfl (qb (qw (qv (L' := L) [x1, .bool ((stepL ar rs t ((p).toNat) ((r).toNat)).isSome)] (.tuple #[x1, .bool ((stepL ar rs t ((p).toNat) ((r).toNat)).isSome)]) (.tmp rfl (.tmp rfl .nil)) rfl le1 rF (sD sR) ?_))))))))
 have e := show stepAtL ar rs t p r = stepL ar rs t p.toNat r.toNat from by rw [stepAtL, if_pos hok]
 exact ⟨_, by rw [e], by rw [e]; exact hr1, by rw [e]; exact hr3, rfl⟩

/- spec.StepAt -/
theorem sStepAt_spec {F : FH} {L : List HP} {arv : Value} {ar : List Int} (har : IntsF F arv ar) {rsv : Value} {rs : List (List Int × List Int)} (hrs : PairsF F rsv rs) {tv : Value} {t : List Int} (ht : IntsF F tv t) {p : Int} {r : Int} (hla : ar.length ≤ 4000000) (hlr : rs.length ≤ 4000000) (hrb : ∀ i, i < rs.length → (rs.getD i ([], [])).1.length ≤ 4000000 ∧ (rs.getD i ([], [])).2.length ≤ 4000000) (hlt : t.length ≤ 4000000) :
    Does prog 49 [.agg #[arv, rsv], tv, ii (p), ii (r)] F (L) (fun v F' L' => ∃ (a : Value), (.tuple #[a, .bool ((stepAtL ar rs t p r).isSome)] : Value) = v ∧ (IntsF F' a ((stepAtL ar rs t p r).getD [])) ∧ L = L') := by
 refine qI func49 rfl rfl rfl (qc (qa (cX (jc [arv, rsv] rfl rfl ?_))))
 intro b1
 refine qg (sN) rfl (qg (.bool (false)) rfl (qb (qc (qc (qa (cX (qy [arv, rsv] jF jp rfl rfl (Rd.ownN [] rfl rfl) (qf (tv) rfl (cX (qr (args := [.agg #[arv, rsv], tv]) call61 rfl (l7Right_spec har hrs ht (hla := (by first | assumption | rfl | omega | simp)) (hlr := (by first | assumption | rfl | omega | simp)) (hrb := (by first | assumption | rfl | omega | simp)) (hlt := (by first | assumption | rfl | omega | simp))) ?_))))))))))
 rintro _ _ _ _ ⟨rfl, rfl, rfl⟩
 refine cX (jg rfl (qf (.bool (!(rightB ar rs t))) rfl ?_))
 by_cases h1 : (!(rightB ar rs t)) = true
 ·refine qn (t := 14) rfl (vB h1) (qn (t := 14) rfl (vB h1) (qn (t := 14) rfl (vB h1) (qn (t := 14) rfl (vB h1) (cX (qN (.bool (true)) (vB h1) rfl (qf (.bool (true)) rfl (qn (t := 20) rfl rfl (qn (t := 20) rfl rfl (qn (t := 20) rfl rfl (qn (t := 20) rfl rfl ?_))))))))))
  refine qn (t := 20) rfl rfl (qn (t := 20) rfl rfl (qn (t := 20) rfl rfl (cX (qN (.bool (true)) rfl rfl (qb (jq rfl (qc (qa (cX (qt (s := 1) [] [ii (0)] [] qd qm qJ rfl (by decide) rfl CellsAre.nil rfl ?_))))))))))
  intro v1 hv1
  refine qg (v1) rfl (qg (.bool (false)) rfl (qb ?_))
  show X _ _ _ _ _ _ (intsH 2 v1 ([] : List Int) :: cellsH b1 [arv, rsv] 32 :: L)
  refine qP [] _ _ rfl (fun F1 le1 hz1 => ?_)
  replace har := har.mono le1
  replace hrs := hrs.mono le1
  replace ht := ht.mono le1
  have hf1 : IntsF F1 v1 ([]) := intsH.fz (xs := []) hz1.fz
  refine qw (qq (qv (L' := L) [v1, .bool (false)] (.tuple #[v1, .bool (false)]) (.tmp rfl (.tmp rfl .nil)) rfl le1 rF (sD sR) ?_))
  have hz0 : stepAtL ar rs t p r = none := by rw [stepAtL, if_neg (by unfold stepAtOk; cases hA : rightB ar rs t <;> simp_all <;> omega)]
  exact ⟨_, by rw [hz0]; rfl, by rw [hz0]; exact hf1, rfl⟩
 rw [Bool.not_eq_true] at h1
 refine qk (t := 14) rfl (vB h1) (ql (tv) rfl (qk (t := 14) rfl (vB h1) (ql (ii (p)) rfl (qk (t := 14) rfl (vB h1) (qr (args := [tv, ii (p)]) call111 rfl (l1There_spec (n := p) ht (hbd := (by first | assumption | rfl | omega | simp))) ?_)))))
 rintro _ _ _ _ ⟨rfl, rfl, rfl⟩
 refine qk (t := 14) rfl (vB h1) (XOp.notD rfl (cX (qG (.bool (decide (¬(0 ≤ p ∧ p < (t.length : Int))))) (vB h1) rfl (qf (.bool (decide (¬(0 ≤ p ∧ p < (t.length : Int))))) rfl ?_))))
 by_cases h2 : ¬(0 ≤ p ∧ p < (t.length : Int))
 ·refine qn (t := 20) rfl (vT h2) (qn (t := 20) rfl (vT h2) (qn (t := 20) rfl (vT h2) (qn (t := 20) rfl (vT h2) (qn (t := 20) rfl (vT h2) (qn (t := 20) rfl (vT h2) (qn (t := 20) rfl (vT h2) (cX (qN (.bool (true)) (vT h2) rfl (qb (jq rfl ?_))))))))))
  refine qc (qa (cX (qt (s := 1) [] [ii (0)] [] qd qm qJ rfl (by decide) rfl CellsAre.nil rfl ?_)))
  intro v2 hv2
  refine qg (v2) rfl (qg (.bool (false)) rfl (qb ?_))
  show X _ _ _ _ _ _ (intsH 2 v2 ([] : List Int) :: cellsH b1 [arv, rsv] 32 :: L)
  refine qP [] _ _ rfl (fun F2 le2 hz2 => ?_)
  replace har := har.mono le2
  replace hrs := hrs.mono le2
  replace ht := ht.mono le2
  have hf2 : IntsF F2 v2 ([]) := intsH.fz (xs := []) hz2.fz
  refine qw (qq (qv (L' := L) [v2, .bool (false)] (.tuple #[v2, .bool (false)]) (.tmp rfl (.tmp rfl .nil)) rfl le2 rF (sD sR) ?_))
  have hz0 : stepAtL ar rs t p r = none := by rw [stepAtL, if_neg (by unfold stepAtOk; cases hA : rightB ar rs t <;> simp_all <;> omega)]
  exact ⟨_, by rw [hz0]; rfl, by rw [hz0]; exact hf2, rfl⟩
 refine qk (t := 20) rfl (vF h2) (ql (ii (r)) rfl (qk (t := 20) rfl (vF h2) (qo (1) qK rfl jv (by decide) rfl rfl (qk (t := 20) rfl (vF h2) (qi jQ rfl (Rd.own [] rfl rfl) (qk (t := 20) rfl (vF h2) (qE qX rfl hrs.slv (qk (t := 20) rfl (vF h2) (jf (((rs.length : Int)) - 1) rfl rfl (by omega) (by omega) (qk (t := 20) rfl (vF h2) (qr (args := [ii (r), ii (0), ii (((rs.length : Int)) - 1)]) call112 rfl (l1In_spec (n := r) (a := 0) (b := ((rs.length : Int)) - 1)) ?_)))))))))))
 rintro _ _ _ _ ⟨rfl, rfl, rfl⟩
 refine qk (t := 20) rfl (vF h2) (XOp.notD rfl (cX (qG (.bool (decide (¬(0 ≤ r ∧ r ≤ (((rs.length : Int)) - 1))))) (vF h2) rfl (qb ?_))))
 refine qA (p := ¬(0 ≤ r ∧ r ≤ (((rs.length : Int)) - 1))) rfl (fun h3 => ?_) (fun h3 => ?_)
 ·refine qc (qa (cX (qt (s := 1) [] [ii (0)] [] qd qm qJ rfl (by decide) rfl CellsAre.nil rfl ?_)))
  intro v3 hv3
  refine qg (v3) rfl (qg (.bool (false)) rfl (qb ?_))
  show X _ _ _ _ _ _ (intsH 2 v3 ([] : List Int) :: cellsH b1 [arv, rsv] 32 :: L)
  refine qP [] _ _ rfl (fun F3 le3 hz3 => ?_)
  replace har := har.mono le3
  replace hrs := hrs.mono le3
  replace ht := ht.mono le3
  have hf3 : IntsF F3 v3 ([]) := intsH.fz (xs := []) hz3.fz
  refine qw (qq (qv (L' := L) [v3, .bool (false)] (.tuple #[v3, .bool (false)]) (.tmp rfl (.tmp rfl .nil)) rfl le3 rF (sD sR) ?_))
  have hz0 : stepAtL ar rs t p r = none := by rw [stepAtL, if_neg (by unfold stepAtOk; cases hA : rightB ar rs t <;> simp_all <;> omega)]
  exact ⟨_, by rw [hz0]; rfl, by rw [hz0]; exact hf3, rfl⟩
 refine qz (qc (qa ?_))
 have hok : stepAtOk ar rs t p r = true := by unfold stepAtOk; cases hA : rightB ar rs t <;> simp_all <;> omega
 have hok2 := hok
 unfold stepAtOk rightB at hok2
 simp only [Bool.and_eq_true, decide_eq_true_eq] at hok2
 obtain ⟨⟨⟨hsys, ho⟩, hp1⟩, hr1⟩ := hok2
 refine cX (qy [arv, rsv] jF jp rfl rfl (Rd.ownN [] rfl rfl) (qf (tv) rfl (qf (ii (p)) rfl (qf (ii (r)) rfl (cX (qr (args := [.agg #[arv, rsv], tv, ii (((p).toNat : Nat) : Int), ii (((r).toNat : Nat) : Int)]) call113 (by rw [show (((p).toNat : Nat) : Int) = p from by omega, show (((r).toNat : Nat) : Int) = r from by omega]; rfl) (l7Step_spec (p := (p).toNat) (r := (r).toNat) har hrs ht (hsys := (by first | assumption | rfl | omega | simp)) (ho := (by first | assumption | rfl | omega | simp)) (hp := (by first | assumption | rfl | omega | simp)) (hr := (by first | assumption | rfl | omega | simp))) ?_))))))
 rintro _ F4 _ le4 ⟨x1, rfl, hr1, rfl⟩
 refine cX (qH (x1) rfl rfl (cX (qH (.bool ((stepL ar rs t ((p).toNat) ((r).toNat)).isSome)) rfl rfl (qg (x1) rfl (qg (.bool ((stepL ar rs t ((p).toNat) ((r).toNat)).isSome)) rfl (qb (qw (qv (L' := L) [x1, .bool ((stepL ar rs t ((p).toNat) ((r).toNat)).isSome)] (.tuple #[x1, .bool ((stepL ar rs t ((p).toNat) ((r).toNat)).isSome)]) (.tmp rfl (.tmp rfl .nil)) rfl le4 rF (sD sR) ?_))))))))
 have e := show stepAtL ar rs t p r = stepL ar rs t p.toNat r.toNat from by rw [stepAtL, if_pos hok]
 exact ⟨_, by rw [e], by rw [e]; exact hr1, rfl⟩

/- impl.SubstOk -/
theorem SubstOk_spec {F : FH} {L : List HP} {arv : Value} {ar : List Int} (har : IntsF F arv ar) {sv : Value} {s : List (List Int)} (hs : RowsF F sv s) :
    Does prog 121 [.agg #[arv], .agg #[sv]] F (L) (fun v F' L' => (.bool (substOk ar s) : Value) = v ∧ F = F' ∧ L = L') := by
 refine qI func121 rfl rfl rfl (qc (qa (cX (jc [arv] rfl rfl ?_))))
 intro b1
 refine cX (jc [sv] rfl rfl ?_)
 intro b2
 refine qg (.bool (false)) rfl (qb (qc (qc (qa (cX (qy [arv] ja qF rfl rfl (Rd.ownN [_] rfl rfl) (cX (qr (args := [.agg #[arv]]) call148 rfl (SigOk_spec har) ?_))))))))
 rintro _ _ _ _ ⟨rfl, rfl, rfl⟩
 refine cX (jg rfl (qf (.bool (!(sigOk ar))) rfl ?_))
 by_cases h1 : (!(sigOk ar)) = true
 ·refine qn (t := 10) rfl (vB h1) (qn (t := 10) rfl (vB h1) (qn (t := 10) rfl (vB h1) (qn (t := 10) rfl (vB h1) (cX (qN (.bool (true)) (vB h1) rfl (qb (jq rfl (qc (qa (qg (.bool (false)) rfl (qb ?_)))))))))))
  refine qw (qq (qv (L' := L) [.bool (false)] (.bool (false)) (.tmp rfl .nil) rfl rF rF (sD (sD sR)) ?_))
  exact ⟨(vB (substOk_false (fun h => by have := h.1; have := h.2.1; simp_all <;> omega))), rfl, rfl⟩
 rw [Bool.not_eq_true] at h1
 refine qk (t := 10) rfl (vB h1) (qo (0) qU rfl jh (by decide) rfl rfl (qk (t := 10) rfl (vB h1) (qi jH rfl (Rd.own [] rfl rfl) (qk (t := 10) rfl (vB h1) (qE qB rfl hs.slv (qk (t := 10) rfl (vB h1) (jL rfl rfl (cX (qG (.bool (decide (((s.length : Int) : Int) > 24))) (vB h1) rfl (qb ?_))))))))))
 refine qA (p := ((s.length : Int) : Int) > 24) rfl (fun h2 => ?_) (fun h2 => ?_)
 ·refine qc (qa (qg (.bool (false)) rfl (qb (qw (qq (qv (L' := L) [.bool (false)] (.bool (false)) (.tmp rfl .nil) rfl rF rF (sD (sD sR)) ?_))))))
  exact ⟨(vB (substOk_false (fun h => by have := h.1; have := h.2.1; simp_all <;> omega))), rfl, rfl⟩
 refine qz (qc (qc (qa (cX (qo (0) qU rfl jh (by decide) rfl rfl (cX (qi jH rfl (Rd.own [] rfl rfl) (cX (qE qB rfl hs.slv (qf (ii (0)) rfl (qb (qL (jn (α := Nat) (fun k => [(2, ptr b1 0), (17, sv), (18, ii ((s.length : Int))), (19, ii ((k : Int)))]) (fun k => cellsH b2 [sv] 50 :: cellsH b1 [arv] 29 :: L) (fun k F' => F = F' ∧ (k ≤ s.length) ∧ (∀ i, i < k → s.getD i [] = [] ∨ termOk ar (s.getD i []) = true)) (fun k => s.length - k) 0 ⟨rfl, rfl, rfl, rfl, ⟨⟩⟩ (sC (sC sR)) ⟨rfl, (by (try dsimp only) <;> omega), (fun i hi => absurd hi (by omega))⟩ ?_)))))))))))))
 rintro k rE _ _ ⟨rfl, hk, hall⟩
 show X _ _ _ _ (envs [(2, ptr b1 0), (17, sv), (18, ii ((s.length : Int))), (19, ii ((k : Int)))] rE) _ (cellsH b2 [sv] 50 :: cellsH b1 [arv] 29 :: L)
 refine qc (qa (cX (qT rfl rfl (qb (qc ?_)))))
 refine qA (p := (k : Int) < (s.length : Int)) rfl (fun h3 => ?_) (fun h3 => ?_)
 ·refine qz (qc (qL (qc (qa (cX (qu k qB qp rfl rfl rfl hs.slv (by omega) (Nat.mul_one _) ?_))))))
  obtain ⟨a1, ha1, hr1⟩ := hs.rd (i := k) (by omega)
  refine cX (qi qW rfl (hr1 _) (qg (a1) rfl (qb (qc (qa (qf (a1) rfl (cX (qE qd rfl ha1.slv (cX (jL rfl rfl (qf (.bool (decide ((((((s.getD k [])).length : Nat) : Int) : Int) > 0))) rfl ?_)))))))))))
  by_cases h4 : (((((s.getD k [])).length : Nat) : Int) : Int) > 0
  ·refine qk (t := 26) rfl (vT h4) (qy [arv] ja qF rfl rfl (Rd.ownN [_] rfl rfl) (qk (t := 26) rfl (vT h4) (ql (a1) rfl (qk (t := 26) rfl (vT h4) (qr (args := [.agg #[arv], a1]) call79 rfl (TermOk_spec har ha1) ?_)))))
   rintro _ _ _ _ ⟨rfl, rfl, rfl⟩
   refine qk (t := 26) rfl (vT h4) (jg rfl (cX (qN (.bool (!(termOk ar ((s.getD k []))))) (vT h4) rfl (qb ?_))))
   refine jO (t := !(termOk ar ((s.getD k [])))) rfl (fun h5 => ?_) (fun h5 => ?_)
   ·refine qc (qa (qg (.bool (false)) rfl (qb (qw (qR (qq (qq (qR (qq (qv (L' := L) [.bool (false)] (.bool (false)) (.tmp rfl .nil) rfl rF rF (sD (sD sR)) ?_))))))))))
    exact ⟨(vB (substOk_false (fun h => by have h9 := h.2.2 k (by omega); rcases h9 with h9 | h9; (have := congrArg List.length h9; simp only [List.length_nil] at this; omega); simp_all))), rfl, rfl⟩
   refine qz (qa (cX (qS (((k + 1 : Nat) : Int)) rfl rfl (by omega) (by omega) (qf (ii (((k + 1 : Nat) : Int))) rfl (qb ?_)))))
   exact ⟨k + 1, _, FLe.refl _, rF, ⟨rfl, rfl, rfl, rfl, ⟨⟩⟩, (sC (sC sR)), ⟨rfl, (by (try dsimp only) <;> omega), (fun i hi => (Nat.lt_or_ge i k).elim (fun h => hall i h) (fun h => by obtain rfl : i = k := (by omega); first | exact .inr (by assumption) | exact .inl (len_nil (by assumption)) | (have := len_nil (by assumption); simp_all) | simp_all))⟩, (by omega)⟩
  refine qn (t := 26) rfl (vF h4) (qn (t := 26) rfl (vF h4) (qn (t := 26) rfl (vF h4) (qn (t := 26) rfl (vF h4) (cX (qG (.bool (false)) (vF h4) rfl (qb (jC rfl (qz (qa (cX (qS (((k + 1 : Nat) : Int)) rfl rfl (by omega) (by omega) (qf (ii (((k + 1 : Nat) : Int))) rfl ?_))))))))))))
  refine qb ?_
  exact ⟨k + 1, _, FLe.refl _, rF, ⟨rfl, rfl, rfl, rfl, ⟨⟩⟩, (sC (sC sR)), ⟨rfl, (by (try dsimp only) <;> omega), (fun i hi => (Nat.lt_or_ge i k).elim (fun h => hall i h) (fun h => by obtain rfl : i = k := (by omega); first | exact .inr (by assumption) | exact .inl (len_nil (by assumption)) | (have := len_nil (by assumption); simp_all) | simp_all))⟩, (by omega)⟩
 refine jj (qx (qx (qO (qc (qa (qg (.bool (true)) rfl (qb (qw (qv (L' := L) [.bool (true)] (.bool (true)) (.tmp rfl .nil) rfl rF rF (sD (sD sR)) ?_)))))))))
 exact ⟨(vB (substOk_iff.2 ⟨by simp_all, by omega, fun i hi => hall i (by omega)⟩)), rfl, rfl⟩

/- spec.SubstOk -/
theorem sSubstOk_spec {F : FH} {L : List HP} {arv : Value} {ar : List Int} (har : IntsF F arv ar) {sv : Value} {s : List (List Int)} (hs : RowsF F sv s) (hla : ar.length ≤ 4000000) (hsl : s.length ≤ 4000000) (hsb : ∀ i, i < s.length → (s.getD i []).length ≤ 4000000) :
    Does prog 109 [.agg #[arv], .agg #[sv]] F (L) (fun v F' L' => (.bool (substOk ar s) : Value) = v ∧ F = F' ∧ L = L') := by
 refine qI func109 rfl rfl rfl (qc (qa (cX (jc [arv] rfl rfl ?_))))
 intro b1
 refine cX (jc [sv] rfl rfl ?_)
 intro b2
 refine qg (.bool (false)) rfl (qb (qc (qc (qa (cX (qy [arv] ja qF rfl rfl (Rd.ownN [_] rfl rfl) (cX (qr (args := [.agg #[arv]]) call151 rfl (sSigOk_spec har (hla := (by first | assumption | rfl | omega | simp))) ?_))))))))
 rintro _ _ _ _ ⟨rfl, rfl, rfl⟩
 refine cX (jg rfl (qf (.bool (!(sigOk ar))) rfl ?_))
 by_cases h1 : (!(sigOk ar)) = true
 ·refine qn (t := 9) rfl (vB h1) (qn (t := 9) rfl (vB h1) (qn (t := 9) rfl (vB h1) (qn (t := 9) rfl (vB h1) (cX (qN (.bool (true)) (vB h1) rfl (qb (jq rfl (qc (qa (qg (.bool (false)) rfl (qb ?_)))))))))))
  refine qw (qq (qv (L' := L) [.bool (false)] (.bool (false)) (.tmp rfl .nil) rfl rF rF (sD (sD sR)) ?_))
  exact ⟨(vB (substOk_false (fun h => by have := h.1; have := h.2.1; simp_all <;> omega))), rfl, rfl⟩
 rw [Bool.not_eq_true] at h1
 refine qk (t := 9) rfl (vB h1) (qo (0) qU rfl jh (by decide) rfl rfl (qk (t := 9) rfl (vB h1) (qi jH rfl (Rd.own [] rfl rfl) (qk (t := 9) rfl (vB h1) (qE qB rfl hs.slv (qk (t := 9) rfl (vB h1) (jL rfl rfl (cX (qG (.bool (decide (((s.length : Int) : Int) > 24))) (vB h1) rfl (qb ?_))))))))))
 refine qA (p := ((s.length : Int) : Int) > 24) rfl (fun h2 => ?_) (fun h2 => ?_)
 ·refine qc (qa (qg (.bool (false)) rfl (qb (qw (qq (qv (L' := L) [.bool (false)] (.bool (false)) (.tmp rfl .nil) rfl rF rF (sD (sD sR)) ?_))))))
  exact ⟨(vB (substOk_false (fun h => by have := h.1; have := h.2.1; simp_all <;> omega))), rfl, rfl⟩
 refine qz (qc (qc (qa (qg (ii (0)) rfl (qb (qL (jn (α := Nat) (fun k => [(2, ptr b1 0), (3, ptr b2 0), (5, ii ((k : Int)))]) (fun k => cellsH b2 [sv] 50 :: cellsH b1 [arv] 29 :: L) (fun k F' => F = F' ∧ (k ≤ s.length) ∧ (∀ i, i < k → s.getD i [] = [] ∨ termOk ar (s.getD i []) = true)) (fun k => s.length - k) 0 ⟨rfl, rfl, rfl, ⟨⟩⟩ (sC (sC sR)) ⟨rfl, (by (try dsimp only) <;> omega), (fun i hi => absurd hi (by omega))⟩ ?_)))))))
 rintro k rE _ _ ⟨rfl, hk, hall⟩
 show X _ _ _ _ (envs [(2, ptr b1 0), (3, ptr b2 0), (5, ii ((k : Int)))] rE) _ (cellsH b2 [sv] 50 :: cellsH b1 [arv] 29 :: L)
 have hsbk := hsb k
 refine qc (qc (qa (qf (ii ((k : Int))) rfl (cX (qo (0) qU rfl jh (by decide) rfl rfl (cX (qi jH rfl (Rd.own [] rfl rfl) (cX (qE qB rfl hs.slv (cX (qT rfl rfl (qb ?_))))))))))))
 refine qA (p := (k : Int) < (s.length : Int)) rfl (fun h3 => ?_) (fun h3 => ?_)
 ·refine qz (qc (qL (qc ?_)))
  obtain ⟨a1, ha1, hr1⟩ := hs.rd (i := k) (by omega)
  by_cases h4 : (((((s.getD k [])).length : Nat) : Int) : Int) > 0
  ·refine jI [cellsH b2 [sv] 50, cellsH b1 [arv] 29] L 14 [] [[], [0], [], [1, 2], [3], [4], [5], [6], [7], [7], [7, 9], [7], [7, 10, 11], [7, 12]] (phiL [qe (ptr b2 0), qe sv, qe (ii ((k : Int)) : Value), qe (.pointer (some (elemA sv (k)))), qe a1, qe (ii (((((s.getD k [])).length : Nat) : Int)) : Value), qe (.bool (decide ((((((s.getD k [])).length : Nat) : Int) : Int) > 0)) : Value), qe (.bool (decide ((((((s.getD k [])).length : Nat) : Int) : Int) > 0)) : Value), qe (.agg #[arv]), qe (ptr b2 0), qe sv, qe (ii ((k : Int)) : Value), qe (.pointer (some (elemA sv (k)))), qe a1]) (ownL []) mixed rfl rfl (by kernel_rfl) ?_ ?_
   ·refine pD (fun W R z9 => ?_) ?_
    ·refine qj (qo (0) qU rfl jh (by decide) rfl rfl ?_)
     exact ⟨rfl, rfl, rfl⟩
    refine pD (fun W R z9 => ?_) ?_
    ·rw [eS (l := [(0, _)]) ⟨z9 0 rfl, ⟨⟩⟩]
     refine qj (qi jH rfl (Rd.own [] rfl rfl) ?_)
     exact ⟨rfl, rfl, rfl⟩
    refine pD (fun W R z9 => ?_) ?_
    ·refine qj (ql (ii ((k : Int))) rfl ?_)
     exact ⟨rfl, rfl, rfl⟩
    refine pD (fun W R z9 => ?_) ?_
    ·rw [eS (l := [(1, _), (2, _)]) ⟨z9 1 rfl, z9 2 rfl, ⟨⟩⟩]
     refine qj (qu k qB qp rfl rfl rfl hs.slv (by omega) (Nat.mul_one _) ?_)
     exact ⟨rfl, rfl, rfl⟩
    refine pD (fun W R z9 => ?_) ?_
    ·rw [eS (l := [(3, _)]) ⟨z9 3 rfl, ⟨⟩⟩]
     refine qj (qi qW rfl (hr1 _) ?_)
     exact ⟨rfl, rfl, rfl⟩
    refine pD (fun W R z9 => ?_) ?_
    ·rw [eS (l := [(4, _)]) ⟨z9 4 rfl, ⟨⟩⟩]
     refine qj (qE qd rfl ha1.slv ?_)
     exact ⟨rfl, rfl, rfl⟩
    refine pD (fun W R z9 => ?_) ?_
    ·rw [eS (l := [(5, _)]) ⟨z9 5 rfl, ⟨⟩⟩]
     refine qj (jL rfl rfl ?_)
     exact ⟨rfl, rfl, rfl⟩
    refine pD (fun W R z9 => ?_) ?_
    ·rw [eS (l := [(6, _)]) ⟨z9 6 rfl, ⟨⟩⟩]
     refine qj (ql (.bool (decide ((((((s.getD k [])).length : Nat) : Int) : Int) > 0))) rfl ?_)
     exact ⟨rfl, rfl, rfl⟩
    refine pD (fun W R z9 => ?_) ?_
    ·rw [eS (l := [(7, _)]) ⟨z9 7 rfl, ⟨⟩⟩]
     refine jt (t := 29) rfl (vT h4) (qy [arv] ja qF rfl rfl (Rd.ownN [_] rfl rfl) ?_)
     exact ⟨rfl, rfl, rfl⟩
    refine pD (fun W R z9 => ?_) ?_
    ·rw [eS (l := [(7, _)]) ⟨z9 7 rfl, ⟨⟩⟩]
     refine jt (t := 29) rfl (vT h4) (qo (0) qU rfl jh (by decide) rfl rfl ?_)
     exact ⟨rfl, rfl, rfl⟩
    refine pD (fun W R z9 => ?_) ?_
    ·rw [eS (l := [(7, _), (9, _)]) ⟨z9 7 rfl, z9 9 rfl, ⟨⟩⟩]
     refine jt (t := 29) rfl (vT h4) (qi jH rfl (Rd.own [] rfl rfl) ?_)
     exact ⟨rfl, rfl, rfl⟩
    refine pD (fun W R z9 => ?_) ?_
    ·rw [eS (l := [(7, _)]) ⟨z9 7 rfl, ⟨⟩⟩]
     refine jt (t := 29) rfl (vT h4) (ql (ii ((k : Int))) rfl ?_)
     exact ⟨rfl, rfl, rfl⟩
    refine pD (fun W R z9 => ?_) ?_
    ·rw [eS (l := [(7, _), (10, _), (11, _)]) ⟨z9 7 rfl, z9 10 rfl, z9 11 rfl, ⟨⟩⟩]
     refine jt (t := 29) rfl (vT h4) (qu k qB qp rfl rfl rfl hs.slv (by omega) (Nat.mul_one _) ?_)
     exact ⟨rfl, rfl, rfl⟩
    refine pD (fun W R z9 => ?_) ?_
    ·rw [eS (l := [(7, _), (12, _)]) ⟨z9 7 rfl, z9 12 rfl, ⟨⟩⟩]
     refine jt (t := 29) rfl (vT h4) (qi qW rfl (hr1 _) ?_)
     exact ⟨rfl, rfl, rfl⟩
    exact stepsP.nil
   intro W hphi
   rw [eS (l := [(7, _), (8, _), (13, _)]) ⟨(hphi 7 (by decide)), (hphi 8 (by decide)), (hphi 13 (by decide)), ⟨⟩⟩]
   show XL _ _ _ _ _ _ _ (cellsH b2 [sv] 50 :: cellsH b1 [arv] 29 :: L)
   refine qk (t := 29) rfl (vT h4) (qr (args := [.agg #[arv], a1]) call81 rfl (sTermOk_spec har ha1 (hla := (by first | assumption | rfl | omega | simp)) (hlt := (by first | assumption | rfl | omega | simp))) ?_)
   rintro _ _ _ _ ⟨rfl, rfl, rfl⟩
   refine qk (t := 29) rfl (vT h4) (jg rfl (cX (qN (.bool (!(termOk ar ((s.getD k []))))) (vT h4) rfl (qb ?_))))
   refine jO (t := !(termOk ar ((s.getD k [])))) rfl (fun h5 => ?_) (fun h5 => ?_)
   ·refine qc (qa (qg (.bool (false)) rfl (qb (qw (qR (qq (qq (qR (qq (qv (L' := L) [.bool (false)] (.bool (false)) (.tmp rfl .nil) rfl rF rF (sD (sD sR)) ?_))))))))))
    exact ⟨(vB (substOk_false (fun h => by have h9 := h.2.2 k (by omega); rcases h9 with h9 | h9; (have := congrArg List.length h9; simp only [List.length_nil] at this; omega); simp_all))), rfl, rfl⟩
   refine qz (qa (qf (ii ((k : Int))) rfl (cX (qS (((k + 1 : Nat) : Int)) rfl rfl (by omega) (by omega) (qg (ii (((k + 1 : Nat) : Int))) rfl (qb ?_))))))
   exact ⟨k + 1, _, FLe.refl _, rF, ⟨rfl, rfl, rfl, ⟨⟩⟩, (sC (sC sR)), ⟨rfl, (by (try dsimp only) <;> omega), (fun i hi => (Nat.lt_or_ge i k).elim (fun h => hall i h) (fun h => by obtain rfl : i = k := (by omega); first | exact .inr (by assumption) | exact .inl (len_nil (by assumption)) | (have := len_nil (by assumption); simp_all) | simp_all))⟩, (by omega)⟩
  refine jI [cellsH b2 [sv] 50, cellsH b1 [arv] 29] L 14 [] [[], [0], [], [1, 2], [3], [4], [5], [6], [7], [7], [7, 9], [7], [7, 10, 11], [7, 12]] (phiL [qe (ptr b2 0), qe sv, qe (ii ((k : Int)) : Value), qe (.pointer (some (elemA sv (k)))), qe a1, qe (ii (((((s.getD k [])).length : Nat) : Int)) : Value), qe (.bool (decide ((((((s.getD k [])).length : Nat) : Int) : Int) > 0)) : Value), qe (.bool (decide ((((((s.getD k [])).length : Nat) : Int) : Int) > 0)) : Value), qe undef, qe undef, qe undef, qe undef, qe undef, qe undef]) (ownL []) mixed rfl rfl (by kernel_rfl) ?_ ?_
  ·refine pD (fun W R z9 => ?_) ?_
   ·refine qj (qo (0) qU rfl jh (by decide) rfl rfl ?_)
    exact ⟨rfl, rfl, rfl⟩
   refine pD (fun W R z9 => ?_) ?_
   ·rw [eS (l := [(0, _)]) ⟨z9 0 rfl, ⟨⟩⟩]
    refine qj (qi jH rfl (Rd.own [] rfl rfl) ?_)
    exact ⟨rfl, rfl, rfl⟩
   refine pD (fun W R z9 => ?_) ?_
   ·refine qj (ql (ii ((k : Int))) rfl ?_)
    exact ⟨rfl, rfl, rfl⟩
   refine pD (fun W R z9 => ?_) ?_
   ·rw [eS (l := [(1, _), (2, _)]) ⟨z9 1 rfl, z9 2 rfl, ⟨⟩⟩]
    refine qj (qu k qB qp rfl rfl rfl hs.slv (by omega) (Nat.mul_one _) ?_)
    exact ⟨rfl, rfl, rfl⟩
   refine pD (fun W R z9 => ?_) ?_
   ·rw [eS (l := [(3, _)]) ⟨z9 3 rfl, ⟨⟩⟩]
    refine qj (qi qW rfl (hr1 _) ?_)
    exact ⟨rfl, rfl, rfl⟩
   refine pD (fun W R z9 => ?_) ?_
   ·rw [eS (l := [(4, _)]) ⟨z9 4 rfl, ⟨⟩⟩]
    refine qj (qE qd rfl ha1.slv ?_)
    exact ⟨rfl, rfl, rfl⟩
   refine pD (fun W R z9 => ?_) ?_
   ·rw [eS (l := [(5, _)]) ⟨z9 5 rfl, ⟨⟩⟩]
    refine qj (jL rfl rfl ?_)
    exact ⟨rfl, rfl, rfl⟩
   refine pD (fun W R z9 => ?_) ?_
   ·rw [eS (l := [(6, _)]) ⟨z9 6 rfl, ⟨⟩⟩]
    refine qj (ql (.bool (decide ((((((s.getD k [])).length : Nat) : Int) : Int) > 0))) rfl ?_)
    exact ⟨rfl, rfl, rfl⟩
   refine pD (fun W R z9 => ?_) ?_
   ·rw [eS (l := [(7, _)]) ⟨z9 7 rfl, ⟨⟩⟩]
    exact jB (t := 29) rfl (vF h4) ⟨rfl, rfl, rfl⟩
   refine pD (fun W R z9 => ?_) ?_
   ·rw [eS (l := [(7, _)]) ⟨z9 7 rfl, ⟨⟩⟩]
    exact jB (t := 29) rfl (vF h4) ⟨rfl, rfl, rfl⟩
   refine pD (fun W R z9 => ?_) ?_
   ·rw [eS (l := [(7, _), (9, undef)]) ⟨z9 7 rfl, z9 9 rfl, ⟨⟩⟩]
    exact jB (t := 29) rfl (vF h4) ⟨rfl, rfl, rfl⟩
   refine pD (fun W R z9 => ?_) ?_
   ·rw [eS (l := [(7, _)]) ⟨z9 7 rfl, ⟨⟩⟩]
    exact jB (t := 29) rfl (vF h4) ⟨rfl, rfl, rfl⟩
   refine pD (fun W R z9 => ?_) ?_
   ·rw [eS (l := [(7, _), (10, undef), (11, undef)]) ⟨z9 7 rfl, z9 10 rfl, z9 11 rfl, ⟨⟩⟩]
    exact jB (t := 29) rfl (vF h4) ⟨rfl, rfl, rfl⟩
   refine pD (fun W R z9 => ?_) ?_
   ·rw [eS (l := [(7, _), (12, undef)]) ⟨z9 7 rfl, z9 12 rfl, ⟨⟩⟩]
    exact jB (t := 29) rfl (vF h4) ⟨rfl, rfl, rfl⟩
   exact stepsP.nil
  intro W hphi
  rw [eS (l := [(7, _), (8, undef), (13, undef)]) ⟨(hphi 7 (by decide)), (hphi 8 (by decide)), (hphi 13 (by decide)), ⟨⟩⟩]
  show XL _ _ _ _ _ _ _ (cellsH b2 [sv] 50 :: cellsH b1 [arv] 29 :: L)
  refine qn (t := 29) rfl (vF h4) (qn (t := 29) rfl (vF h4) (cX (qG (.bool (false)) (vF h4) rfl (qb (jC rfl (qz (qa (qf (ii ((k : Int))) rfl (cX (qS (((k + 1 : Nat) : Int)) rfl rfl (by omega) (by omega) (qg (ii (((k + 1 : Nat) : Int))) rfl (qb ?_))))))))))))
  exact ⟨k + 1, _, FLe.refl _, rF, ⟨rfl, rfl, rfl, ⟨⟩⟩, (sC (sC sR)), ⟨rfl, (by (try dsimp only) <;> omega), (fun i hi => (Nat.lt_or_ge i k).elim (fun h => hall i h) (fun h => by obtain rfl : i = k := (by omega); first | exact .inr (by assumption) | exact .inl (len_nil (by assumption)) | (have := len_nil (by assumption); simp_all) | simp_all))⟩, (by omega)⟩
 refine jj (qx (qx (qO (qc (qa (qg (.bool (true)) rfl (qb (qw (qv (L' := L) [.bool (true)] (.bool (true)) (.tmp rfl .nil) rfl rF rF (sD (sD sR)) ?_)))))))))
 exact ⟨(vB (substOk_iff.2 ⟨by simp_all, by omega, fun i hi => hall i (by omega)⟩)), rfl, rfl⟩

/- spec.Filled -/
theorem sFilled_spec {F : FH} {L : List HP} {arv : Value} {ar : List Int} (har : IntsF F arv ar) {sv : Value} {s : List (List Int)} (hs : RowsF F sv s) {tv : Value} {t : List Int} (ht : IntsF F tv t) (hla : ar.length ≤ 4000000) (hsl : s.length ≤ 4000000) (hsb : ∀ i, i < s.length → (s.getD i []).length ≤ 4000000) (hlt : t.length ≤ 4000000) :
    Does prog 46 [.agg #[arv], .agg #[sv], tv] F (L) (fun v F' L' => ∃ (a : Value), (.tuple #[a, .bool ((filledL ar s t).isSome)] : Value) = v ∧ (IntsF F' a ((filledL ar s t).getD [])) ∧ L = L') := by
 refine qI func46 rfl rfl rfl (qc (qa (cX (jc [arv] rfl rfl ?_))))
 intro b1
 refine cX (jc [sv] rfl rfl ?_)
 intro b2
 refine qg (sN) rfl (qg (.bool (false)) rfl (qb (qc (qc (qa (cX (qy [arv] ja qF rfl rfl (Rd.ownN [_] rfl rfl) (cX (qy [sv] jG jl rfl rfl (Rd.ownN [] rfl rfl) (cX (qr (args := [.agg #[arv], .agg #[sv]]) call109 rfl (sSubstOk_spec har hs (hla := (by first | assumption | rfl | omega | simp)) (hsl := (by first | assumption | rfl | omega | simp)) (hsb := (by first | assumption | rfl | omega | simp))) ?_)))))))))))
 rintro _ _ _ _ ⟨rfl, rfl, rfl⟩
 refine cX (jg rfl (qf (.bool (!(substOk ar s))) rfl ?_))
 by_cases h1 : (!(substOk ar s)) = true
 ·refine qn (t := 12) rfl (vB h1) (qn (t := 12) rfl (vB h1) (qn (t := 12) rfl (vB h1) (qn (t := 12) rfl (vB h1) (cX (qN (.bool (true)) (vB h1) rfl (qb (jq rfl (qc (qa (cX (qt (s := 1) [] [ii (0)] [] qd qm qJ rfl (by decide) rfl CellsAre.nil rfl ?_)))))))))))
  intro v1 hv1
  refine qg (v1) rfl (qg (.bool (false)) rfl (qb ?_))
  show X _ _ _ _ _ _ (intsH 2 v1 ([] : List Int) :: cellsH b2 [sv] 50 :: cellsH b1 [arv] 29 :: L)
  refine qP [] _ _ rfl (fun F1 le1 hz1 => ?_)
  replace har := har.mono le1
  replace hs := hs.mono le1
  replace ht := ht.mono le1
  have hf1 : IntsF F1 v1 ([]) := intsH.fz (xs := []) hz1.fz
  refine qw (qq (qv (L' := L) [v1, .bool (false)] (.tuple #[v1, .bool (false)]) (.tmp rfl (.tmp rfl .nil)) rfl le1 rF (sD (sD sR)) ?_))
  have e : filledL ar s t = none := by unfold filledL; rw [if_neg (by simp_all)]
  exact ⟨_, by rw [e]; rfl, by rw [e]; exact hf1, rfl⟩
 rw [Bool.not_eq_true] at h1
 have hsk : substOk ar s = true := by simpa using h1
 have hsk2 := substOk_len hsk
 have hsk3 := (substOk_iff.1 hsk).2.1
 refine qk (t := 12) rfl (vB h1) (qy [arv] ja qF rfl rfl (Rd.ownN [_] rfl rfl) (qk (t := 12) rfl (vB h1) (ql (tv) rfl (qk (t := 12) rfl (vB h1) (qr (args := [.agg #[arv], tv]) call81 rfl (sTermOk_spec har ht (hla := (by first | assumption | rfl | omega | simp)) (hlt := (by first | assumption | rfl | omega | simp))) ?_)))))
 rintro _ _ _ _ ⟨rfl, rfl, rfl⟩
 refine qk (t := 12) rfl (vB h1) (jg rfl (cX (qG (.bool (!(termOk ar t))) (vB h1) rfl (qb ?_))))
 refine jO (t := !(termOk ar t)) rfl (fun h2 => ?_) (fun h2 => ?_)
 ·refine qc (qa (cX (qt (s := 1) [] [ii (0)] [] qd qm qJ rfl (by decide) rfl CellsAre.nil rfl ?_)))
  intro v2 hv2
  refine qg (v2) rfl (qg (.bool (false)) rfl (qb ?_))
  show X _ _ _ _ _ _ (intsH 2 v2 ([] : List Int) :: cellsH b2 [sv] 50 :: cellsH b1 [arv] 29 :: L)
  refine qP [] _ _ rfl (fun F2 le2 hz2 => ?_)
  replace hs := hs.mono le2
  replace ht := ht.mono le2
  have hf2 : IntsF F2 v2 ([]) := intsH.fz (xs := []) hz2.fz
  refine qw (qq (qv (L' := L) [v2, .bool (false)] (.tuple #[v2, .bool (false)]) (.tmp rfl (.tmp rfl .nil)) rfl le2 rF (sD (sD sR)) ?_))
  have e : filledL ar s t = none := by unfold filledL; rw [if_neg (by simp_all)]
  exact ⟨_, by rw [e]; rfl, by rw [e]; exact hf2, rfl⟩
 have hto : termOk ar t = true := by simpa using h2
 have htl2 := termOk_len hto
 have htg := fun k (hk : k < t.length) => termOk_ge hto hk
 refine qz (qc (qa (cX (qy [sv] jG jl rfl rfl (Rd.ownN [] rfl rfl) (qf (tv) rfl (cX (qr (args := [.agg #[sv], tv]) call77 rfl (l2Filled_spec hs ht (hsl := (by first | assumption | rfl | omega | simp)) (hsb := (fun i => by have := hsk2 i; omega)) (htl := (by first | assumption | rfl | omega | simp)) (htg := (fun k hk => by have := htg k hk; omega))) ?_)))))))
 rintro _ F3 _ le3 ⟨x1, rfl, hr1, rfl⟩
 refine cX (qH (x1) rfl rfl (cX (qH (.bool ((fillL s t).isSome)) rfl rfl (qg (x1) rfl (qg (.bool ((fillL s t).isSome)) rfl (qb (qw (qv (L' := L) [x1, .bool ((fillL s t).isSome)] (.tuple #[x1, .bool ((fillL s t).isSome)]) (.tmp rfl (.tmp rfl .nil)) rfl le3 rF (sD (sD sR)) ?_))))))))
 have e : filledL ar s t = fillL s t := by unfold filledL; rw [if_pos ⟨hsk, hto⟩]
 exact ⟨_, by rw [e], by rw [e]; exact hr1, rfl⟩

/- impl.argsAt -/
theorem argsAt_spec {F : FH} {L : List HP} {arv : Value} {ar : List Int} (har : IntsF F arv ar) {tv : Value} {t : List Int} (ht : IntsF F tv t) {p : Nat} (ho : termOk ar t = true) (hp : p < t.length) :
    Does prog 222 [.agg #[arv], tv, ii ((p : Int))] F (L) (fun v F' L' => F = F' ∧ IsSl v ∧ intsH 3 v (argsL ar t p) :: L = L') := by
 refine qI func222 rfl rfl rfl ?_
 have hsl := sigOk_spec (termOk_sig ho)
 have htl := termOk_len ho
 have hsig := termOk_sig ho
 have hA := arity_le hsig (termOk_lt ho hp)
 have hge := termOk_ge ho hp
 have hlt := termOk_lt ho hp
 refine qc (qa (cX (jc [arv] rfl rfl ?_)))
 intro b1
 refine qg (sN) rfl (qb (qc (qa (qg (sN) rfl (qb (qc (qa (qf (ii ((p : Int))) rfl (cX (qS (((p + 1 : Nat) : Int)) rfl rfl (by omega) (by omega) (qg (ii (((p + 1 : Nat) : Int))) rfl (qb (qc (qc ?_))))))))))))))
 refine jI [cellsH b1 [arv] 29] L 5 [] [[], [], [], [1, 2], [3]] (phiL [qe (.agg #[arv]), qe tv, qe (ii ((p : Int)) : Value), qe (.pointer (some (elemA tv (p)))), qe (ii (t.getD p 0))]) (ownL []) mixed rfl rfl (by kernel_rfl) ?_ ?_
 ·refine pD (fun W R z9 => ?_) ?_
  ·refine qj (qy [arv] ja qF rfl rfl (Rd.ownN [] rfl rfl) ?_)
   exact ⟨rfl, rfl, rfl⟩
  refine pD (fun W R z9 => ?_) ?_
  ·refine qj (ql (tv) rfl ?_)
   exact ⟨rfl, rfl, rfl⟩
  refine pD (fun W R z9 => ?_) ?_
  ·refine qj (ql (ii ((p : Int))) rfl ?_)
   exact ⟨rfl, rfl, rfl⟩
  refine pD (fun W R z9 => ?_) ?_
  ·rw [eS (l := [(1, _), (2, _)]) ⟨z9 1 rfl, z9 2 rfl, ⟨⟩⟩]
   refine qj (qu p qd qm rfl rfl rfl ht.slv (by omega) (Nat.mul_one _) ?_)
   exact ⟨rfl, rfl, rfl⟩
  refine pD (fun W R z9 => ?_) ?_
  ·rw [eS (l := [(3, _)]) ⟨z9 3 rfl, ⟨⟩⟩]
   refine qj (qi qQ rfl (ht.rd (by omega)) ?_)
   exact ⟨rfl, rfl, rfl⟩
  exact stepsP.nil
 intro W hphi
 rw [eS (l := [(0, _), (4, _)]) ⟨(hphi 0 (by decide)), (hphi 4 (by decide)), ⟨⟩⟩]
 show XL _ _ _ _ _ _ _ (cellsH b1 [arv] 29 :: L)
 refine cX (qr (args := [.agg #[arv], ii (t.getD p 0)]) call243 rfl (arityAt_spec (n := t.getD p 0) har (hn := (by first | assumption | rfl | omega | simp))) ?_)
 rintro _ _ _ _ ⟨rfl, rfl, rfl⟩
 refine qg (ii (arity ar (t.getD p 0))) rfl (qb (qL (jn (α := Nat × Nat × Value × List Int) (fun xQ => [(1, tv), (3, ptr b1 0), (7, xQ.2.2.1), (8, ii (((xQ.2.1 : Nat) : Int))), (9, ii (((xQ.1 : Nat) : Int)))]) (fun xQ => intsH 3 xQ.2.2.1 xQ.2.2.2 :: cellsH b1 [arv] 29 :: L) (fun xQ F' => F = F' ∧ (IsSl xQ.2.2.1) ∧ (Stand ar t xQ.1 xQ.2.1 (endN ar t p)) ∧ (argsL ar t p = xQ.2.2.2 ++ argsGo ar t xQ.1 xQ.2.1) ∧ (xQ.2.2.2.length + xQ.1 ≤ 3)) (fun xQ => xQ.1) ((arity ar (t.getD p 0)).toNat, p + 1, sN, []) ⟨rfl, rfl, rfl, rfl, (vI (by first | omega | (rw [sArity_eq (by omega)]; omega))), ⟨⟩⟩ (jE (intsH.addNil 3 none _) (sC (sC sR))) ⟨rfl, (⟨_, _, _, rfl⟩), (stand_start ho hp), (rfl), (by rw [List.length_nil]; omega)⟩ ?_)))
 rintro ⟨m, q, ov, os⟩ rE _ _ ⟨rfl, hov, hS, hos, hol⟩
 show X _ _ _ _ (envs [(1, tv), (3, ptr b1 0), (7, ov), (8, ii ((q : Int))), (9, ii ((m : Int)))] rE) _ (intsH 3 ov os :: cellsH b1 [arv] 29 :: L)
 dsimp only at hov hS hos hol
 have hst := fun (h : 1 ≤ m) => stand_step ho (n := m - 1) (by rw [Nat.sub_add_cancel h]; exact hS)
 refine qc (qc (qa (qf (ii ((m : Int))) rfl (cX (jL rfl rfl (qb ?_))))))
 refine qA (p := (m : Int) > 0) rfl (fun h1 => ?_) (fun h1 => ?_)
 ·refine qz (qc (qL (qc (qa (qf (ov) rfl (qf (ii ((q : Int))) rfl (cX (qt (s := 1) [ii ((q : Int))] [ii (0)] [(0, [ii ((q : Int))])] jU yb zeroValue3 rfl (by decide) rfl (.cons rfl CellsAre.nil) rfl ?_))))))))
  intro v1 hv1
  refine cX (ye (u := (q : Int)) [_] _ jU typeInfo3 rfl rfl rfl rfl rfl rfl (SlV.own [] rfl) (Rd.sl [] rfl rfl) (by (try simp only [List.length_append, List.length_nil, List.length_cons, List.length_singleton, List.length_take, List.length_drop]); omega) ?_)
  intro v2 hs1 hn1
  refine qg (v2) rfl (qb (qa (cX (qy [arv] ja qF rfl rfl (Rd.ownN [_, _] rfl rfl) (qf (tv) rfl (qf (ii ((q : Int))) rfl (cX (qr (args := [.agg #[arv], tv, ii (q : Int)]) call150 rfl (endAt_ok (p := q) har ht (ho := (by first | assumption | rfl | omega | (left; simp; done) | (right; simp; done))) (hp := (by first | assumption | rfl | omega | (left; simp; done) | (right; simp; done)))) ?_))))))))
  rintro _ _ _ _ ⟨rfl, rfl, rfl⟩
  refine qg (ii (((endN ar t q : Nat) : Int))) rfl (qb (qa (qf (ii ((m : Int))) rfl (cX (jf (((m : Int)) - 1) rfl rfl (by omega) (by omega) (qg (ii (((m : Int)) - 1)) rfl (qb ?_)))))))
  exact ⟨(m - 1, endN ar t q, v2, os ++ [(q : Int)]), _, FLe.refl _, rF, ⟨rfl, rfl, rfl, rfl, (vI (by omega)), ⟨⟩⟩, (sD (sC (sC sR))), ⟨rfl, (hs1), ((hst (by omega)).2.1), (args_next ho (by omega) hos), (by dsimp only; rw [List.length_append, List.length_singleton]; omega)⟩, (by omega)⟩
 refine jj (qx (qx (qO (qc (qa (qf (ov) rfl (qg (ov) rfl (qb (qw (qv (L' := intsH 3 ov os :: L) [ov] (ov) (.tmp rfl .nil) rfl rF rF (sC (sD sR)) ?_))))))))))
 refine ⟨rfl, hov, ?_⟩
 have hxs : (argsL ar t p : List Int) = os := by rw [hos, show m = 0 from by omega]; simp [argsGo]
 exact congrArg (fun z => intsH 3 _ z :: L) hxs

/- spec.l1Args -/
theorem l1Args_spec {F : FH} {L : List HP} {arv : Value} {ar : List Int} (har : IntsF F arv ar) {tv : Value} {t : List Int} (ht : IntsF F tv t) {p : Nat} (ho : termOk ar t = true) (hp : p < t.length) :
    Does prog 114 [.agg #[arv], tv, ii ((p : Int))] F (L) (fun v F' L' => F = F' ∧ IsSl v ∧ intsH 2 v (argsL ar t p) :: L = L') := by
 refine qI func114 rfl rfl rfl ?_
 have hsl := sigOk_spec (termOk_sig ho)
 have htl := termOk_len ho
 have hsig := termOk_sig ho
 have hA := arity_le hsig (termOk_lt ho hp)
 have hge := termOk_ge ho hp
 have hlt := termOk_lt ho hp
 refine qc (qa (cX (jc [arv] rfl rfl ?_)))
 intro b1
 refine qg (sN) rfl (qb (qc (qa (cX (qt (s := 1) [] [ii (0)] [] qd qm qJ rfl (by decide) rfl CellsAre.nil rfl ?_)))))
 intro v1 hv1
 refine qg (v1) rfl (qb (qc (qa (qf (ii ((p : Int))) rfl (cX (qS (((p + 1 : Nat) : Int)) rfl rfl (by omega) (by omega) (qg (ii (((p + 1 : Nat) : Int))) rfl (qb (qc (qc ?_))))))))))
 refine jI [slH 2 1 v1 0 [], cellsH b1 [arv] 29] L 5 [] [[], [], [], [1, 2], [3]] (phiL [qe (.agg #[arv]), qe tv, qe (ii ((p : Int)) : Value), qe (.pointer (some (elemA tv (p)))), qe (ii (t.getD p 0))]) (ownL []) mixed rfl rfl (by kernel_rfl) ?_ ?_
 ·refine pD (fun W R z9 => ?_) ?_
  ·refine qj (qy [arv] ja qF rfl rfl (Rd.ownN [_] rfl rfl) ?_)
   exact ⟨rfl, rfl, rfl⟩
  refine pD (fun W R z9 => ?_) ?_
  ·refine qj (ql (tv) rfl ?_)
   exact ⟨rfl, rfl, rfl⟩
  refine pD (fun W R z9 => ?_) ?_
  ·refine qj (ql (ii ((p : Int))) rfl ?_)
   exact ⟨rfl, rfl, rfl⟩
  refine pD (fun W R z9 => ?_) ?_
  ·rw [eS (l := [(1, _), (2, _)]) ⟨z9 1 rfl, z9 2 rfl, ⟨⟩⟩]
   refine qj (qu p qd qm rfl rfl rfl ht.slv (by omega) (Nat.mul_one _) ?_)
   exact ⟨rfl, rfl, rfl⟩
  refine pD (fun W R z9 => ?_) ?_
  ·rw [eS (l := [(3, _)]) ⟨z9 3 rfl, ⟨⟩⟩]
   refine qj (qi qQ rfl (ht.rd (by omega)) ?_)
   exact ⟨rfl, rfl, rfl⟩
  exact stepsP.nil
 intro W hphi
 rw [eS (l := [(0, _), (4, _)]) ⟨(hphi 0 (by decide)), (hphi 4 (by decide)), ⟨⟩⟩]
 show XL _ _ _ _ _ _ _ (slH 2 1 v1 0 [] :: cellsH b1 [arv] 29 :: L)
 refine cX (qr (args := [.agg #[arv], ii (t.getD p 0)]) call176 rfl (l1Arity_spec (n := t.getD p 0) har (hla := (by first | assumption | rfl | omega | simp))) ?_)
 rintro _ _ _ _ ⟨rfl, rfl, rfl⟩
 refine qg (ii (sArity ar (t.getD p 0))) rfl (qb (qL (jn (α := Nat × Nat × Value × List Int) (fun xQ => [(1, tv), (3, ptr b1 0), (7, xQ.2.2.1), (8, ii (((xQ.2.1 : Nat) : Int))), (9, ii (((xQ.1 : Nat) : Int)))]) (fun xQ => intsH 2 xQ.2.2.1 xQ.2.2.2 :: cellsH b1 [arv] 29 :: L) (fun xQ F' => F = F' ∧ (IsSl xQ.2.2.1) ∧ (Stand ar t xQ.1 xQ.2.1 (endN ar t p)) ∧ (argsL ar t p = xQ.2.2.2 ++ argsGo ar t xQ.1 xQ.2.1) ∧ (xQ.2.2.2.length + xQ.1 ≤ 3)) (fun xQ => xQ.1) ((arity ar (t.getD p 0)).toNat, p + 1, v1, []) ⟨rfl, rfl, rfl, rfl, (vI (by first | omega | (rw [sArity_eq (by omega)]; omega))), ⟨⟩⟩ (sC (sC sR)) ⟨rfl, ((jd hv1)), (stand_start ho hp), (rfl), (by rw [List.length_nil]; omega)⟩ ?_)))
 rintro ⟨m, q, ov, os⟩ rE _ _ ⟨rfl, hov, hS, hos, hol⟩
 show X _ _ _ _ (envs [(1, tv), (3, ptr b1 0), (7, ov), (8, ii ((q : Int))), (9, ii ((m : Int)))] rE) _ (intsH 2 ov os :: cellsH b1 [arv] 29 :: L)
 dsimp only at hov hS hos hol
 have hst := fun (h : 1 ≤ m) => stand_step ho (n := m - 1) (by rw [Nat.sub_add_cancel h]; exact hS)
 refine qc (qc (qa (qf (ii ((m : Int))) rfl (cX (jL rfl rfl (qb ?_))))))
 refine qA (p := (m : Int) > 0) rfl (fun h1 => ?_) (fun h1 => ?_)
 ·refine qz (qc (qL (qc (qa (qf (ov) rfl (qf (ii ((q : Int))) rfl (cX (qt (s := 1) [ii ((q : Int))] [ii (0)] [(0, [ii ((q : Int))])] qd qm qJ rfl (by decide) rfl (.cons rfl CellsAre.nil) rfl ?_))))))))
  intro v2 hv2
  refine cX (ye (u := (q : Int)) [_] _ qd typeInfo2 rfl rfl rfl rfl rfl rfl (SlV.own [] rfl) (Rd.sl [] rfl rfl) (by (try simp only [List.length_append, List.length_nil, List.length_cons, List.length_singleton, List.length_take, List.length_drop]); omega) ?_)
  intro v3 hs1 hn1
  refine qg (v3) rfl (qb (qa (cX (qy [arv] ja qF rfl rfl (Rd.ownN [_, _] rfl rfl) (qf (tv) rfl (qf (ii ((q : Int))) rfl (cX (qr (args := [.agg #[arv], tv, ii (q : Int)]) call152 rfl (l1End_ok (p := q) har ht (ho := (by first | assumption | rfl | omega | (left; simp; done) | (right; simp; done))) (hp := (by first | assumption | rfl | omega | (left; simp; done) | (right; simp; done)))) ?_))))))))
  rintro _ _ _ _ ⟨rfl, rfl, rfl⟩
  refine qg (ii (((endN ar t q : Nat) : Int))) rfl (qb (qa (qf (ii ((m : Int))) rfl (cX (jf (((m : Int)) - 1) rfl rfl (by omega) (by omega) (qg (ii (((m : Int)) - 1)) rfl (qb ?_)))))))
  exact ⟨(m - 1, endN ar t q, v3, os ++ [(q : Int)]), _, FLe.refl _, rF, ⟨rfl, rfl, rfl, rfl, (vI (by omega)), ⟨⟩⟩, (sD (sC (sC sR))), ⟨rfl, (hs1), ((hst (by omega)).2.1), (args_next ho (by omega) hos), (by dsimp only; rw [List.length_append, List.length_singleton]; omega)⟩, (by omega)⟩
 refine jj (qx (qx (qO (qc (qa (qf (ov) rfl (qg (ov) rfl (qb (qw (qv (L' := intsH 2 ov os :: L) [ov] (ov) (.tmp rfl .nil) rfl rF rF (sC (sD sR)) ?_))))))))))
 refine ⟨rfl, hov, ?_⟩
 have hxs : (argsL ar t p : List Int) = os := by rw [hos, show m = 0 from by omega]; simp [argsGo]
 exact congrArg (fun z => intsH 2 _ z :: L) hxs

/- spec.l3Inside -/
theorem l3Inside_spec {F : FH} {L : List HP} {arv : Value} {ar : List Int} (har : IntsF F arv ar) {tv : Value} {t : List Int} (ht : IntsF F tv t) {p : Nat} {q : Int} (ho : termOk ar t = true) (hp : p < t.length) :
    Does prog 177 [.agg #[arv], tv, ii ((p : Int)), ii (q)] F (L) (fun v F' L' => (.bool (decide ((p : Int) ≤ q ∧ q < (endN ar t p : Int))) : Value) = v ∧ F = F' ∧ L = L') := by
 refine qI func177 rfl rfl rfl ?_
 have hsl := sigOk_spec (termOk_sig ho)
 have htl := termOk_len ho
 have hsig := termOk_sig ho
 have hee := endN_spec ho hp
 refine qc (qa (cX (jc [arv] rfl rfl ?_)))
 intro b1
 refine qg (.bool (false)) rfl (qb (qc (qa (qf (ii (q)) rfl (qf (ii ((p : Int))) rfl (cX (qy [arv] ja qF rfl rfl (Rd.ownN [] rfl rfl) (qf (tv) rfl (qf (ii ((p : Int))) rfl (cX (qr (args := [.agg #[arv], tv, ii (p : Int)]) call152 rfl (l1End_ok (p := p) har ht (ho := (by first | assumption | rfl | omega | (left; simp; done) | (right; simp; done))) (hp := (by first | assumption | rfl | omega | (left; simp; done) | (right; simp; done)))) ?_)))))))))))
 rintro _ _ _ _ ⟨rfl, rfl, rfl⟩
 refine cX (jf ((((endN ar t p : Nat) : Int)) - 1) rfl rfl (by omega) (by omega) (cX (qr (args := [ii (q), ii ((p : Int)), ii ((((endN ar t p : Nat) : Int)) - 1)]) call112 rfl (l1In_spec (n := q) (a := (p : Int)) (b := (((endN ar t p : Nat) : Int)) - 1)) ?_)))
 rintro _ _ _ _ ⟨rfl, rfl, rfl⟩
 refine qg (.bool (decide (((p : Int)) ≤ q ∧ q ≤ ((((endN ar t p : Nat) : Int)) - 1)))) rfl (qb (qw (qv (L' := L) [.bool (decide (((p : Int)) ≤ q ∧ q ≤ ((((endN ar t p : Nat) : Int)) - 1)))] (.bool (decide (((p : Int)) ≤ q ∧ q ≤ ((((endN ar t p : Nat) : Int)) - 1)))) (.tmp rfl .nil) rfl rF rF (sD sR) ?_)))
 exact ⟨(vB (decide_eq_decide.2 (by omega))), rfl, rfl⟩

/- impl.pathTo -/
theorem pathTo_spec {F : FH} {L : List HP} {arv : Value} {ar : List Int} (har : IntsF F arv ar) {tv : Value} {t : List Int} (ht : IntsF F tv t) {x : Nat} (ho : termOk ar t = true) (hx : x < t.length) :
    Does prog 180 [.agg #[arv], tv, ii ((x : Int))] F (L) (fun v F' L' => F = F' ∧ IsSl v ∧ intsH 2 v (pathL ar t x) :: L = L') := by
 refine qI func180 rfl rfl rfl ?_
 have hsl := sigOk_spec (termOk_sig ho)
 have htl := termOk_len ho
 have hsig := termOk_sig ho
 have hz0 : endN ar t 0 = t.length := endN_zero ho
 refine qc (qa (cX (jc [arv] rfl rfl ?_)))
 intro b1
 refine qg (sN) rfl (qb (X.scope (qc (qa (qg (sN) rfl (qb (qc (qa (qg (ii (0)) rfl (qb (qc (X.label (qc (qL (jn (α := Nat × Nat × Value × List Int × FH) (fun xQ => [(1, tv), (2, ii ((x : Int))), (3, ptr b1 0), (7, xQ.2.2.1), (8, ii (((xQ.2.1 : Nat) : Int)))]) (fun xQ => intsH 2 xQ.2.2.1 xQ.2.2.2.1 :: cellsH b1 [arv] 29 :: L) (fun xQ F' => xQ.2.2.2.2 = F' ∧ F ≤ xQ.2.2.2.2 ∧ (IsSl xQ.2.2.1) ∧ (xQ.2.1 ≤ x ∧ x < endN ar t xQ.2.1) ∧ (x - xQ.2.1 ≤ xQ.1) ∧ (pathL ar t x = xQ.2.2.2.1 ++ pathGo ar t x xQ.1 xQ.2.1) ∧ (xQ.2.2.2.1.length + xQ.1 ≤ t.length)) (fun xQ => x - xQ.2.1) (t.length, 0, sN, [], F) ⟨rfl, rfl, rfl, rfl, rfl, ⟨⟩⟩ (jE (intsH.addNil 2 none _) (sC (sC sR))) ⟨rfl, FLe.refl _, (⟨_, _, _, rfl⟩), (⟨Nat.zero_le _, by rw [hz0]; exact hx⟩), (by omega), (rfl), (by simp)⟩ ?_)))))))))))))))
 rintro ⟨f, p, ov, os, G1⟩ rE _ _ ⟨rfl, leG, hov, hpx, hf, hos, hol⟩
 show X _ _ _ _ (envs [(1, tv), (2, ii ((x : Int))), (3, ptr b1 0), (7, ov), (8, ii ((p : Int)))] rE) _ (intsH 2 ov os :: cellsH b1 [arv] 29 :: L)
 replace leG : F ≤ G1 := leG
 dsimp only at hov hpx hf hos hol
 have leG1 := leG
 replace har := har.mono leG1
 replace ht := ht.mono leG1
 refine qc (qc (qa (qf (ii ((p : Int))) rfl (qf (ii ((x : Int))) rfl (cX (XOp.neq rfl rfl (qb ?_)))))))
 refine qA (p := (p : Int) ≠ (x : Int)) rfl (fun h1 => ?_) (fun h1 => ?_)
 ·refine qz (qL (qc (qa (cX (qy [arv] ja qF rfl rfl (Rd.ownN [_] rfl rfl) (qf (tv) rfl (qf (ii ((p : Int))) rfl (cX (jR <| qr (args := [.agg #[arv], tv, ii (p : Int)]) call222 rfl (argsAt_spec (p := p) har ht (ho := (by first | assumption | rfl | omega | simp)) (hp := (by first | assumption | rfl | omega | simp))) ?_)))))))))
  rintro v1 _ _ _ ⟨rfl, hs1, rfl⟩
  refine ⟨_, _, rfl, fun F1 le1 hz1 => ?_⟩
  replace har := har.mono le1
  replace ht := ht.mono le1
  have hf1 : IntsF F1 v1 ((argsL ar t p)) := intsH.fz (xs := (argsL ar t p)) hz1.fz
  refine cX (qE jU rfl hf1.slv (qf (ii (0)) rfl (qb (qL (jn (α := Nat) (fun k => [(1, tv), (2, ii ((x : Int))), (3, ptr b1 0), (7, ov), (8, ii ((p : Int))), (17, v1), (18, ii (((((argsL ar t p)).length : Nat) : Int))), (19, ii ((k : Int)))]) (fun k => intsH 2 ov os :: cellsH b1 [arv] 29 :: L) (fun k F' => F1 = F' ∧ (k ≤ (argsL ar t p).length) ∧ (∀ i, i < k → inAt ar t x ((argsL ar t p).getD i 0) = false)) (fun k => (argsL ar t p).length - k) 0 ⟨rfl, rfl, rfl, rfl, rfl, rfl, rfl, rfl, ⟨⟩⟩ (sC (sC sR)) ⟨rfl, (by (try dsimp only) <;> omega), (fun i hi => absurd hi (by omega))⟩ ?_)))))
  rintro k rE _ _ ⟨rfl, hk, hall⟩
  show X _ _ _ _ (envs [(1, tv), (2, ii ((x : Int))), (3, ptr b1 0), (7, ov), (8, ii ((p : Int))), (17, v1), (18, ii (((((argsL ar t p)).length : Nat) : Int))), (19, ii ((k : Int)))] rE) _ (intsH 2 ov os :: cellsH b1 [arv] 29 :: L)
  have hle := argsL_le ho (show p < t.length by omega)
  have hia := fun (h : k < (argsL ar t p).length) => argsL_in ho (by omega) h
  refine qc (qa (cX (qT rfl rfl (qb (qc ?_)))))
  refine qA (p := (k : Int) < ((((argsL ar t p)).length : Nat) : Int)) rfl (fun h2 => ?_) (fun h2 => ?_)
  ·refine qz (qc (qL (qc (qa (qf (ii ((k : Int))) rfl (cX (qu k jU yb rfl rfl rfl hf1.slv (by omega) (Nat.mul_one _) (cX (qi isAgg3 rfl (hf1.rd (by omega)) (qg (ii ((k : Int))) rfl (qg (ii (((argsL ar t p)).getD k 0)) rfl (qb (qc (qa (cX (qy [arv] ja qF rfl rfl (Rd.ownN [_] rfl rfl) (qf (tv) rfl (qf (ii (((argsL ar t p)).getD k 0)) rfl ?_))))))))))))))))))
   refine qf (ii ((x : Int))) rfl (cX (qr (args := [.agg #[arv], tv, ii (((((argsL ar t p)).getD k 0).toNat : Nat) : Int), ii ((x : Int))]) call223 (by rw [show (((((argsL ar t p)).getD k 0).toNat : Nat) : Int) = ((argsL ar t p)).getD k 0 from by omega]; rfl) (inside_spec (p := (((argsL ar t p)).getD k 0).toNat) (q := (x : Int)) har ht (ho := (ho)) (hp := (by have := hia (by omega); omega))) ?_))
   rintro _ _ _ _ ⟨rfl, rfl, rfl⟩
   refine qb ?_
   refine qA (p := (((((argsL ar t p)).getD k 0).toNat) : Int) ≤ ((x : Int)) ∧ ((x : Int)) < (endN ar t ((((argsL ar t p)).getD k 0).toNat) : Int)) rfl (fun h3 => ?_) (fun h3 => ?_)
   ·have hyes : inAt ar t x ((argsL ar t p).getD k 0) = true := inAt_iff.2 (by have := hia (by omega); omega)
    refine qc (qa (qf (ov) rfl (qf (ii ((k : Int))) rfl (cX (qt (s := 1) [ii ((k : Int))] [ii (0)] [(0, [ii ((k : Int))])] qd qm qJ rfl (by decide) rfl (.cons rfl CellsAre.nil) rfl ?_)))))
    intro v2 hv1
    refine cX (ye (u := (k : Int)) [_] _ qd typeInfo2 rfl rfl rfl rfl rfl rfl (SlV.own [] rfl) (Rd.sl [] rfl rfl) (by (try simp only [List.length_append, List.length_nil, List.length_cons, List.length_singleton, List.length_take, List.length_drop]); omega) ?_)
    intro v3 hs2 hn1
    refine qg (v3) rfl (qb (qc (qa (qf (ii (((argsL ar t p)).getD k 0)) rfl (qg (ii (((argsL ar t p)).getD k 0)) rfl (qb (jj (blockQ_other (by decide) (qx (qx (blockQ_other (by decide) (qO ?_))))))))))))
    exact ⟨(f - 1, ((argsL ar t p).getD k 0).toNat, v3, os ++ [(k : Int)], F1), _, (qh leG1 le1), rF, ⟨rfl, rfl, rfl, rfl, (vI (by have := hia (by omega); dsimp only; omega)), ⟨⟩⟩, (sD (sC (sC sR))), ⟨rfl, (qh leG1 le1), (hs2), ((by have h9 := inAt_iff.1 hyes; have := hia (by omega); dsimp only; constructor <;> omega)), (by have := hia (by omega); dsimp only; omega), (by (try dsimp only); exact path_next hos hf (by omega) (by omega) hyes hall), (by dsimp only; rw [List.length_append, List.length_singleton]; omega)⟩, (by have h9 := inAt_iff.1 hyes; have := hia (by omega); dsimp only; omega)⟩
   have hno : inAt ar t x ((argsL ar t p).getD k 0) = false := by
     rw [Bool.eq_false_iff]; intro h9; have h8 := inAt_iff.1 h9; have := hia (by omega); omega
   refine qz (qa (cX (qS (((k + 1 : Nat) : Int)) rfl rfl (by omega) (by omega) (qf (ii (((k + 1 : Nat) : Int))) rfl (qb ?_)))))
   exact ⟨k + 1, _, FLe.refl _, rF, ⟨rfl, rfl, rfl, rfl, rfl, rfl, rfl, rfl, ⟨⟩⟩, (sC (sC sR)), ⟨rfl, (by (try dsimp only) <;> omega), (fun i hi => (Nat.lt_or_ge i k).elim (fun h => hall i h) (fun h => by obtain rfl : i = k := (by omega); exact hno))⟩, (by omega)⟩
  exact (args_some ho (by omega) hpx.2 hx (fun i hi => hall i (by omega))).elim
 refine jj (qx (qx (qO (qc (qa (qf (ov) rfl (qg (ov) rfl (qb (qw (scopeQ_ret (qv (L' := intsH 2 ov os :: L) [ov] (ov) (.tmp rfl .nil) rfl rF leG1 (sC (sD sR)) ?_)))))))))))
 refine ⟨rfl, hov, ?_⟩
 have hxs : (pathL ar t x : List Int) = os := by have h0 : p = x := (by omega); rw [h0] at hos; exact path_end hos
 exact congrArg (fun z => intsH 2 _ z :: L) hxs

/- spec.l3Path -/
theorem l3Path_spec {F : FH} {L : List HP} {arv : Value} {ar : List Int} (har : IntsF F arv ar) {tv : Value} {t : List Int} (ht : IntsF F tv t) {x : Nat} (ho : termOk ar t = true) (hx : x < t.length) :
    Does prog 116 [.agg #[arv], tv, ii ((x : Int))] F (L) (fun v F' L' => F = F' ∧ IsSl v ∧ intsH 2 v (pathL ar t x) :: L = L') := by
 refine qI func116 rfl rfl rfl ?_
 have hsl := sigOk_spec (termOk_sig ho)
 have htl := termOk_len ho
 have hsig := termOk_sig ho
 have hz0 : endN ar t 0 = t.length := endN_zero ho
 refine qc (qa (cX (jc [arv] rfl rfl ?_)))
 intro b1
 refine qg (sN) rfl (qb (qc (qa (cX (qt (s := 1) [] [ii (0)] [] qd qm qJ rfl (by decide) rfl CellsAre.nil rfl ?_)))))
 intro v1 hv1
 refine qg (v1) rfl (qb (qc (qa (qg (ii (0)) rfl (qb (qc (qL (jn (α := Nat × Nat × Value × List Int × FH) (fun xQ => [(1, tv), (2, ii ((x : Int))), (3, ptr b1 0), (7, xQ.2.2.1), (8, ii (((xQ.2.1 : Nat) : Int)))]) (fun xQ => intsH 2 xQ.2.2.1 xQ.2.2.2.1 :: cellsH b1 [arv] 29 :: L) (fun xQ F' => xQ.2.2.2.2 = F' ∧ F ≤ xQ.2.2.2.2 ∧ (IsSl xQ.2.2.1) ∧ (xQ.2.1 ≤ x ∧ x < endN ar t xQ.2.1) ∧ (x - xQ.2.1 ≤ xQ.1) ∧ (pathL ar t x = xQ.2.2.2.1 ++ pathGo ar t x xQ.1 xQ.2.1) ∧ (xQ.2.2.2.1.length + xQ.1 ≤ t.length)) (fun xQ => x - xQ.2.1) (t.length, 0, v1, [], F) ⟨rfl, rfl, rfl, rfl, rfl, ⟨⟩⟩ (sC (sC sR)) ⟨rfl, FLe.refl _, ((jd hv1)), (⟨Nat.zero_le _, by rw [hz0]; exact hx⟩), (by omega), (rfl), (by simp)⟩ ?_))))))))
 rintro ⟨f, p, ov, os, G1⟩ rE _ _ ⟨rfl, leG, hov, hpx, hf, hos, hol⟩
 show X _ _ _ _ (envs [(1, tv), (2, ii ((x : Int))), (3, ptr b1 0), (7, ov), (8, ii ((p : Int)))] rE) _ (intsH 2 ov os :: cellsH b1 [arv] 29 :: L)
 replace leG : F ≤ G1 := leG
 dsimp only at hov hpx hf hos hol
 have leG1 := leG
 replace har := har.mono leG1
 replace ht := ht.mono leG1
 refine qc (qc (qa (qf (ii ((p : Int))) rfl (qf (ii ((x : Int))) rfl (cX (XOp.neq rfl rfl (qb ?_)))))))
 refine qA (p := (p : Int) ≠ (x : Int)) rfl (fun h1 => ?_) (fun h1 => ?_)
 ·refine qz (qL (qc (qa (cX (qy [arv] ja qF rfl rfl (Rd.ownN [_] rfl rfl) (qf (tv) rfl (qf (ii ((p : Int))) rfl (cX (jR <| qr (args := [.agg #[arv], tv, ii (p : Int)]) call114 rfl (l1Args_spec (p := p) har ht (ho := (by first | assumption | rfl | omega | simp)) (hp := (by first | assumption | rfl | omega | simp))) ?_)))))))))
  rintro v2 _ _ _ ⟨rfl, hs1, rfl⟩
  refine ⟨_, _, rfl, fun F1 le1 hz1 => ?_⟩
  replace har := har.mono le1
  replace ht := ht.mono le1
  have hf1 : IntsF F1 v2 ((argsL ar t p)) := intsH.fz (xs := (argsL ar t p)) hz1.fz
  refine qg (v2) rfl (qb (qc (qa (qg (ii (0)) rfl (qb (qL (jn (α := Nat) (fun k => [(1, tv), (2, ii ((x : Int))), (3, ptr b1 0), (7, ov), (8, ii ((p : Int))), (9, v2), (10, ii ((k : Int)))]) (fun k => intsH 2 ov os :: cellsH b1 [arv] 29 :: L) (fun k F' => F1 = F' ∧ (k ≤ (argsL ar t p).length) ∧ (∀ i, i < k → inAt ar t x ((argsL ar t p).getD i 0) = false)) (fun k => (argsL ar t p).length - k) 0 ⟨rfl, rfl, rfl, rfl, rfl, rfl, rfl, ⟨⟩⟩ (sC (sC sR)) ⟨rfl, (by (try dsimp only) <;> omega), (fun i hi => absurd hi (by omega))⟩ ?_)))))))
  rintro k rE _ _ ⟨rfl, hk, hall⟩
  show X _ _ _ _ (envs [(1, tv), (2, ii ((x : Int))), (3, ptr b1 0), (7, ov), (8, ii ((p : Int))), (9, v2), (10, ii ((k : Int)))] rE) _ (intsH 2 ov os :: cellsH b1 [arv] 29 :: L)
  have hle := argsL_le ho (show p < t.length by omega)
  have hia := fun (h : k < (argsL ar t p).length) => argsL_in ho (by omega) h
  refine qc (qc (qa (qf (ii ((k : Int))) rfl (qf (v2) rfl (cX (qE qd rfl hf1.slv (cX (qT rfl rfl (qb ?_)))))))))
  refine qA (p := (k : Int) < ((((argsL ar t p)).length : Nat) : Int)) rfl (fun h2 => ?_) (fun h2 => ?_)
  ·refine qz (qc (qL (qc ?_)))
   refine jI [intsH 2 ov os, cellsH b1 [arv] 29] L 7 [] [[], [], [], [], [2, 3], [4]] (phiL [qe (.agg #[arv]), qe tv, qe v2, qe (ii ((k : Int)) : Value), qe (.pointer (some (elemA v2 (k)))), qe (ii (((argsL ar t p)).getD k 0)), qe (ii ((x : Int)) : Value)]) (ownL []) mixed rfl rfl (by kernel_rfl) ?_ ?_
   ·refine pD (fun W R z9 => ?_) ?_
    ·refine qj (qy [arv] ja qF rfl rfl (Rd.ownN [_] rfl rfl) ?_)
     exact ⟨rfl, rfl, rfl⟩
    refine pD (fun W R z9 => ?_) ?_
    ·refine qj (ql (tv) rfl ?_)
     exact ⟨rfl, rfl, rfl⟩
    refine pD (fun W R z9 => ?_) ?_
    ·refine qj (ql (v2) rfl ?_)
     exact ⟨rfl, rfl, rfl⟩
    refine pD (fun W R z9 => ?_) ?_
    ·refine qj (ql (ii ((k : Int))) rfl ?_)
     exact ⟨rfl, rfl, rfl⟩
    refine pD (fun W R z9 => ?_) ?_
    ·rw [eS (l := [(2, _), (3, _)]) ⟨z9 2 rfl, z9 3 rfl, ⟨⟩⟩]
     refine qj (qu k qd qm rfl rfl rfl hf1.slv (by omega) (Nat.mul_one _) ?_)
     exact ⟨rfl, rfl, rfl⟩
    refine pD (fun W R z9 => ?_) ?_
    ·rw [eS (l := [(4, _)]) ⟨z9 4 rfl, ⟨⟩⟩]
     refine qj (qi qQ rfl (hf1.rd (by omega)) ?_)
     exact ⟨rfl, rfl, rfl⟩
    refine pD (fun W R z9 => ?_) ?_
    ·refine qj (ql (ii ((x : Int))) rfl ?_)
     exact ⟨rfl, rfl, rfl⟩
    exact stepsP.nil
   intro W hphi
   rw [eS (l := [(0, _), (1, _), (5, _), (6, _)]) ⟨(hphi 0 (by decide)), (hphi 1 (by decide)), (hphi 5 (by decide)), (hphi 6 (by decide)), ⟨⟩⟩]
   show XL _ _ _ _ _ _ _ (intsH 2 ov os :: cellsH b1 [arv] 29 :: L)
   refine cX (qr (args := [.agg #[arv], tv, ii (((((argsL ar t p)).getD k 0).toNat : Nat) : Int), ii ((x : Int))]) call177 (by rw [show (((((argsL ar t p)).getD k 0).toNat : Nat) : Int) = ((argsL ar t p)).getD k 0 from by omega]; rfl) (l3Inside_spec (p := (((argsL ar t p)).getD k 0).toNat) (q := (x : Int)) har ht (ho := (ho)) (hp := (by have := hia (by omega); omega))) ?_)
   rintro _ _ _ _ ⟨rfl, rfl, rfl⟩
   refine qb ?_
   refine qA (p := (((((argsL ar t p)).getD k 0).toNat) : Int) ≤ ((x : Int)) ∧ ((x : Int)) < (endN ar t ((((argsL ar t p)).getD k 0).toNat) : Int)) rfl (fun h3 => ?_) (fun h3 => ?_)
   ·have hyes : inAt ar t x ((argsL ar t p).getD k 0) = true := inAt_iff.2 (by have := hia (by omega); omega)
    refine qc (qa (qf (ov) rfl (qf (ii ((k : Int))) rfl (cX (qt (s := 1) [ii ((k : Int))] [ii (0)] [(0, [ii ((k : Int))])] qd qm qJ rfl (by decide) rfl (.cons rfl CellsAre.nil) rfl ?_)))))
    intro v3 hv2
    refine cX (ye (u := (k : Int)) [_] _ qd typeInfo2 rfl rfl rfl rfl rfl rfl (SlV.own [] rfl) (Rd.sl [] rfl rfl) (by (try simp only [List.length_append, List.length_nil, List.length_cons, List.length_singleton, List.length_take, List.length_drop]); omega) ?_)
    intro v4 hs2 hn1
    refine qg (v4) rfl (qb (qc (qa (qf (v2) rfl (qf (ii ((k : Int))) rfl (cX (qu k qd qm rfl rfl rfl hf1.slv (by omega) (Nat.mul_one _) (cX (qi qQ rfl (hf1.rd (by omega)) (qg (ii (((argsL ar t p)).getD k 0)) rfl (qb (jj (blockQ_other (by decide) (qx (qx (qO ?_))))))))))))))))
    exact ⟨(f - 1, ((argsL ar t p).getD k 0).toNat, v4, os ++ [(k : Int)], F1), _, (qh leG1 le1), rF, ⟨rfl, rfl, rfl, rfl, (vI (by have := hia (by omega); dsimp only; omega)), ⟨⟩⟩, (sD (sC (sC sR))), ⟨rfl, (qh leG1 le1), (hs2), ((by have h9 := inAt_iff.1 hyes; have := hia (by omega); dsimp only; constructor <;> omega)), (by have := hia (by omega); dsimp only; omega), (by (try dsimp only); exact path_next hos hf (by omega) (by omega) hyes hall), (by dsimp only; rw [List.length_append, List.length_singleton]; omega)⟩, (by have h9 := inAt_iff.1 hyes; have := hia (by omega); dsimp only; omega)⟩
   have hno : inAt ar t x ((argsL ar t p).getD k 0) = false := by
     rw [Bool.eq_false_iff]; intro h9; have h8 := inAt_iff.1 h9; have := hia (by omega); omega
   refine qz (qa (qf (ii ((k : Int))) rfl (cX (qS (((k + 1 : Nat) : Int)) rfl rfl (by omega) (by omega) (qg (ii (((k + 1 : Nat) : Int))) rfl (qb ?_))))))
   exact ⟨k + 1, _, FLe.refl _, rF, ⟨rfl, rfl, rfl, rfl, rfl, rfl, rfl, ⟨⟩⟩, (sC (sC sR)), ⟨rfl, (by (try dsimp only) <;> omega), (fun i hi => (Nat.lt_or_ge i k).elim (fun h => hall i h) (fun h => by obtain rfl : i = k := (by omega); exact hno))⟩, (by omega)⟩
  exact (args_some ho (by omega) hpx.2 hx (fun i hi => hall i (by omega))).elim
 refine jj (qx (qx (qO (qc (qa (qf (ov) rfl (qg (ov) rfl (qb (qw (qv (L' := intsH 2 ov os :: L) [ov] (ov) (.tmp rfl .nil) rfl rF leG1 (sC (sD sR)) ?_))))))))))
 refine ⟨rfl, hov, ?_⟩
 have hxs : (pathL ar t x : List Int) = os := by have h0 : p = x := (by omega); rw [h0] at hos; exact path_end hos
 exact congrArg (fun z => intsH 2 _ z :: L) hxs

/- spec.l3Right -/
theorem l3Right_spec {F : FH} {L : List HP} {arv : Value} {ar : List Int} (har : IntsF F arv ar) {tv : Value} {t : List Int} (ht : IntsF F tv t) {n : Int} (hla : ar.length ≤ 4000000) (hlt : t.length ≤ 4000000) :
    Does prog 115 [.agg #[arv], tv, ii (n)] F (L) (fun v F' L' => (.bool (posOk ar t n) : Value) = v ∧ F = F' ∧ L = L') := by
 refine qI func115 rfl rfl rfl (qc (qa (cX (jc [arv] rfl rfl ?_))))
 intro b1
 refine qg (.bool (false)) rfl (qb (qc (qa (cX (qy [arv] ja qF rfl rfl (Rd.ownN [] rfl rfl) (qf (tv) rfl (cX (qr (args := [.agg #[arv], tv]) call81 rfl (sTermOk_spec har ht (hla := (by first | assumption | rfl | omega | simp)) (hlt := (by first | assumption | rfl | omega | simp))) ?_))))))))
 rintro _ _ _ _ ⟨rfl, rfl, rfl⟩
 refine qf (.bool (termOk ar t)) rfl ?_
 by_cases h1 : (termOk ar t) = true
 ·refine qk (t := 10) rfl (vB h1) (ql (tv) rfl (qk (t := 10) rfl (vB h1) (ql (ii (n)) rfl (qk (t := 10) rfl (vB h1) (qr (args := [tv, ii (n)]) call111 rfl (l1There_spec (n := n) ht (hbd := (by first | assumption | rfl | omega | simp))) ?_)))))
  rintro _ _ _ _ ⟨rfl, rfl, rfl⟩
  refine cX (qN (.bool (decide (0 ≤ n ∧ n < (t.length : Int)))) (vB h1) rfl (qg (.bool (decide (0 ≤ n ∧ n < (t.length : Int)))) rfl (qb (qw (qv (L' := L) [.bool (decide (0 ≤ n ∧ n < (t.length : Int)))] (.bool (decide (0 ≤ n ∧ n < (t.length : Int)))) (.tmp rfl .nil) rfl rF rF (sD sR) ?_)))))
  exact ⟨((by unfold posOk; simp_all)), rfl, rfl⟩
 rw [Bool.not_eq_true] at h1
 refine qn (t := 10) rfl (vB h1) (qn (t := 10) rfl (vB h1) (qn (t := 10) rfl (vB h1) (cX (qG (.bool (false)) (vB h1) rfl (qg (.bool (false)) rfl (qb (qw (qv (L' := L) [.bool (false)] (.bool (false)) (.tmp rfl .nil) rfl rF rF (sD sR) ?_))))))))
 exact ⟨((by unfold posOk; simp_all)), rfl, rfl⟩

/- spec.PathOf -/
theorem sPathOf_spec {F : FH} {L : List HP} {arv : Value} {ar : List Int} (har : IntsF F arv ar) {tv : Value} {t : List Int} (ht : IntsF F tv t) {n : Int} (ho : termOk ar t = true) (hn : 0 ≤ n ∧ n < (t.length : Int)) :
    Does prog 51 [.agg #[arv], tv, ii (n)] F (L) (fun v F' L' => F = F' ∧ IsSl v ∧ intsH 2 v (pathL ar t n.toNat) :: L = L') := by
 refine qI func51 rfl rfl rfl ?_
 have hsl := sigOk_spec (termOk_sig ho)
 have htl := termOk_len ho
 have hsig := termOk_sig ho
 have hpo : posOk ar t n = true := posOk_iff.2 ⟨ho, hn⟩
 refine qc (qa (cX (jc [arv] rfl rfl ?_)))
 intro b1
 refine qg (sN) rfl (qb (qc (qc (qa (cX (qy [arv] ja qF rfl rfl (Rd.ownN [] rfl rfl) (qf (tv) rfl (qf (ii (n)) rfl (cX (qr (args := [.agg #[arv], tv, ii (n)]) call115 rfl (l3Right_spec (n := n) har ht (hla := (by first | assumption | rfl | omega | simp)) (hlt := (by first | assumption | rfl | omega | simp))) ?_))))))))))
 rintro _ _ _ _ ⟨rfl, rfl, rfl⟩
 refine cX (jg rfl (qb ?_))
 refine jO (t := !(posOk ar t n)) rfl (fun h1 => ?_) (fun h1 => ?_)
 ·exact absurd h1 (by simp [hpo])
 refine qz (qc (qa (cX (qy [arv] ja qF rfl rfl (Rd.ownN [] rfl rfl) (qf (tv) rfl (qf (ii (n)) rfl (cX (qr (args := [.agg #[arv], tv, ii (((n).toNat : Nat) : Int)]) call116 (by rw [show (((n).toNat : Nat) : Int) = n from by omega]; rfl) (l3Path_spec (x := (n).toNat) har ht (ho := (by first | assumption | rfl | omega | simp)) (hx := (by first | assumption | rfl | omega | simp))) ?_))))))))
 rintro v1 _ _ _ ⟨rfl, hs1, rfl⟩
 refine qg (v1) rfl (qb (qw (qv (L' := intsH 2 v1 ((pathL ar t ((n).toNat))) :: L) [v1] (v1) (.tmp rfl .nil) rfl rF rF (sC (sD sR)) ?_)))
 refine ⟨rfl, hs1, ?_⟩
 have hxs : (pathL ar t n.toNat : List Int) = (pathL ar t ((n).toNat)) := rfl
 exact congrArg (fun z => intsH 2 _ z :: L) hxs

/- impl.PlaceOf -/
theorem PlaceOf_spec {F : FH} {L : List HP} {arv : Value} {ar : List Int} (har : IntsF F arv ar) {tv : Value} {t : List Int} (ht : IntsF F tv t) {pathv : Value} {path : List Int} (hpath : IntsF F pathv path) (hlp : path.length ≤ 4000000) :
    Does prog 179 [.agg #[arv], tv, pathv] F (L) (fun v F' L' => (ii (placeL ar t path) : Value) = v ∧ F = F' ∧ L = L') := by
 refine qI func179 rfl rfl rfl (qc (qa (cX (jc [arv] rfl rfl ?_))))
 intro b1
 refine qg (ii (0)) rfl (qb (qc (qc (qa (cX (qy [arv] ja qF rfl rfl (Rd.ownN [] rfl rfl) (qf (tv) rfl (cX (qr (args := [.agg #[arv], tv]) call79 rfl (TermOk_spec har ht) ?_)))))))))
 rintro _ _ _ _ ⟨rfl, rfl, rfl⟩
 refine cX (jg rfl (qb ?_))
 refine jO (t := !(termOk ar t)) rfl (fun h1 => ?_) (fun h1 => ?_)
 ·refine qc (qa (qg (ii (-1)) rfl (qb (qw (qq (qv (L' := L) [ii (-1)] (ii (-1)) (.tmp rfl .nil) rfl rF rF (sD sR) ?_))))))
  exact ⟨(vI (by unfold placeL; rw [if_neg (by simp_all)])), rfl, rfl⟩
 have ho : termOk ar t = true := by simpa using h1
 have hsl := sigOk_spec (termOk_sig ho)
 have htl := termOk_len ho
 have hsig := termOk_sig ho
 refine qz (qc (qa (qg (ii (0)) rfl (qb (qc (qc (qa (qf (pathv) rfl (cX (qE qd rfl hpath.slv (qf (ii (0)) rfl (qb (qL (jn (α := Nat × Nat × FH) (fun xQ => [(1, tv), (3, ptr b1 0), (7, ii (((xQ.2.1 : Nat) : Int))), (15, pathv), (16, ii ((path.length : Int))), (17, ii (((xQ.1 : Nat) : Int)))]) (fun xQ => cellsH b1 [arv] 29 :: L) (fun xQ F' => xQ.2.2 = F' ∧ F ≤ xQ.2.2 ∧ (xQ.1 ≤ path.length) ∧ (xQ.2.1 < t.length) ∧ (placeGo ar t path 0 = placeGo ar t (path.drop xQ.1) xQ.2.1)) (fun xQ => path.length - xQ.1) (0, 0, F) ⟨rfl, rfl, rfl, rfl, rfl, rfl, ⟨⟩⟩ (sC sR) ⟨rfl, FLe.refl _, (by (try dsimp only) <;> omega), (by (try dsimp only) <;> omega), (rfl)⟩ ?_))))))))))))))
 rintro ⟨k, q, G1⟩ rE _ _ ⟨rfl, leG, hk, hq, hos⟩
 show X _ _ _ _ (envs [(1, tv), (3, ptr b1 0), (7, ii ((q : Int))), (15, pathv), (16, ii ((path.length : Int))), (17, ii ((k : Int)))] rE) _ (cellsH b1 [arv] 29 :: L)
 replace leG : F ≤ G1 := leG
 dsimp only at hk hq hos
 have hle := argsL_le ho hq
 have hia := fun (i : Nat) (h : i < (argsL ar t q).length) => argsL_in ho hq h
 have leG1 := leG
 replace har := har.mono leG1
 replace ht := ht.mono leG1
 replace hpath := hpath.mono leG1
 refine qc (qa (cX (qT rfl rfl (qb (qc ?_)))))
 refine qA (p := (k : Int) < (path.length : Int)) rfl (fun h2 => ?_) (fun h2 => ?_)
 ·refine qz (qc (qL (qc (qa (cX (qu k qd qm rfl rfl rfl hpath.slv (by omega) (Nat.mul_one _) (cX (qi qQ rfl (hpath.rd (by omega)) (qg (ii (path.getD k 0)) rfl (qb (qc (qa (cX (qy [arv] ja qF rfl rfl (Rd.ownN [] rfl rfl) (qf (tv) rfl (qf (ii ((q : Int))) rfl (cX (jR <| qr (args := [.agg #[arv], tv, ii (q : Int)]) call222 rfl (argsAt_spec (p := q) har ht (ho := (ho)) (hp := (hq))) ?_))))))))))))))))))
  rintro v1 _ _ _ ⟨rfl, hs1, rfl⟩
  refine ⟨_, _, rfl, fun F1 le1 hz1 => ?_⟩
  have hf1 : IntsF F1 v1 ((argsL ar t q)) := intsH.fz (xs := (argsL ar t q)) hz1.fz
  refine qg (v1) rfl (qb (qc (qc (qa (qf (ii (path.getD k 0)) rfl (cX (qT rfl rfl (qf (.bool (decide ((path.getD k 0 : Int) < 0))) rfl ?_))))))))
  by_cases h3 : (path.getD k 0 : Int) < 0
  ·refine qn (t := 27) rfl (vT h3) (qn (t := 27) rfl (vT h3) (qn (t := 27) rfl (vT h3) (qn (t := 27) rfl (vT h3) (cX (qN (.bool (true)) (vT h3) rfl (qb (jq rfl (qc (qa (qg (ii (-1)) rfl (qb ?_)))))))))))
   refine qw (qq (qR (qq (qq (qR (qq (qv (L' := L) [ii (-1)] (ii (-1)) (.tmp rfl .nil) rfl rF (qh leG1 le1) (sD sR) ?_)))))))
   exact ⟨(vI (by unfold placeL; rw [if_pos ho, hos]; exact place_out (by omega) (by omega))), rfl, rfl⟩
  refine qk (t := 27) rfl (vF h3) (ql (ii (path.getD k 0)) rfl (qk (t := 27) rfl (vF h3) (ql (v1) rfl (qk (t := 27) rfl (vF h3) (qE jU rfl hf1.slv (qk (t := 27) rfl (vF h3) (jP rfl rfl (cX (qG (.bool (decide ((path.getD k 0 : Int) ≥ ((((argsL ar t q)).length : Nat) : Int)))) (vF h3) rfl (qb ?_))))))))))
  refine qA (p := (path.getD k 0 : Int) ≥ ((((argsL ar t q)).length : Nat) : Int)) rfl (fun h4 => ?_) (fun h4 => ?_)
  ·refine qc (qa (qg (ii (-1)) rfl (qb (qw (qq (qR (qq (qq (qR (qq (qv (L' := L) [ii (-1)] (ii (-1)) (.tmp rfl .nil) rfl rF (qh leG1 le1) (sD sR) ?_)))))))))))
   exact ⟨(vI (by unfold placeL; rw [if_pos ho, hos]; exact place_out (by omega) (by omega))), rfl, rfl⟩
  refine qz (qa (qf (v1) rfl (qf (ii (path.getD k 0)) rfl (cX (qu ((path.getD k 0).toNat) jU yb rfl rfl (by omega) hf1.slv (by omega) (Nat.mul_one _) (cX (qi isAgg3 rfl (hf1.rd (by omega)) (qg (ii (((argsL ar t q)).getD ((path.getD k 0).toNat) 0)) rfl (qb (qa (cX (qS (((k + 1 : Nat) : Int)) rfl rfl (by omega) (by omega) (qf (ii (((k + 1 : Nat) : Int))) rfl (qb ?_))))))))))))))
  exact ⟨(k + 1, ((argsL ar t q).getD (path.getD k 0).toNat 0).toNat, F1), _, (qh leG1 le1), rF, ⟨rfl, rfl, (vI (by have := hia (path.getD k 0).toNat (by omega); dsimp only; omega)), rfl, rfl, rfl, ⟨⟩⟩, (sC sR), ⟨rfl, (qh leG1 le1), (by (try dsimp only) <;> omega), (by have := hia (path.getD k 0).toNat (by omega); dsimp only; omega), (by dsimp only; exact hos.trans (place_next (by omega) (by omega)))⟩, (by omega)⟩
 refine jj (qx (qx (qO (qc (qa (qf (ii ((q : Int))) rfl (qg (ii ((q : Int))) rfl (qb (qw (qv (L' := L) [ii ((q : Int))] (ii ((q : Int))) (.tmp rfl .nil) rfl rF leG1 (sD sR) ?_))))))))))
 exact ⟨(vI (by unfold placeL; rw [if_pos ho, hos]; exact place_end (by omega))), rfl, rfl⟩

/- spec.PlaceOf -/
theorem sPlaceOf_spec {F : FH} {L : List HP} {arv : Value} {ar : List Int} (har : IntsF F arv ar) {tv : Value} {t : List Int} (ht : IntsF F tv t) {pathv : Value} {path : List Int} (hpath : IntsF F pathv path) (hlp : path.length ≤ 4000000) (hla : ar.length ≤ 4000000) (hlt : t.length ≤ 4000000) :
    Does prog 50 [.agg #[arv], tv, pathv] F (L) (fun v F' L' => (ii (placeL ar t path) : Value) = v ∧ F = F' ∧ L = L') := by
 refine qI func50 rfl rfl rfl (qc (qa (cX (jc [arv] rfl rfl ?_))))
 intro b1
 refine qg (ii (0)) rfl (qb (qc (qc (qa (cX (qy [arv] ja qF rfl rfl (Rd.ownN [] rfl rfl) (qf (tv) rfl (cX (qr (args := [.agg #[arv], tv]) call81 rfl (sTermOk_spec har ht (hla := (by first | assumption | rfl | omega | simp)) (hlt := (by first | assumption | rfl | omega | simp))) ?_)))))))))
 rintro _ _ _ _ ⟨rfl, rfl, rfl⟩
 refine cX (jg rfl (qb ?_))
 refine jO (t := !(termOk ar t)) rfl (fun h1 => ?_) (fun h1 => ?_)
 ·refine qc (qa (qg (ii (-1)) rfl (qb (qw (qq (qv (L' := L) [ii (-1)] (ii (-1)) (.tmp rfl .nil) rfl rF rF (sD sR) ?_))))))
  exact ⟨(vI (by unfold placeL; rw [if_neg (by simp_all)])), rfl, rfl⟩
 have ho : termOk ar t = true := by simpa using h1
 have hsl := sigOk_spec (termOk_sig ho)
 have htl := termOk_len ho
 have hsig := termOk_sig ho
 refine qz (qc (qa (qg (ii (0)) rfl (qb (qc (qc (qa (qg (ii (0)) rfl (qb (qL (jn (α := Nat × Nat × FH) (fun xQ => [(1, tv), (2, pathv), (3, ptr b1 0), (7, ii (((xQ.2.1 : Nat) : Int))), (8, ii (((xQ.1 : Nat) : Int)))]) (fun xQ => cellsH b1 [arv] 29 :: L) (fun xQ F' => xQ.2.2 = F' ∧ F ≤ xQ.2.2 ∧ (xQ.1 ≤ path.length) ∧ (xQ.2.1 < t.length) ∧ (placeGo ar t path 0 = placeGo ar t (path.drop xQ.1) xQ.2.1)) (fun xQ => path.length - xQ.1) (0, 0, F) ⟨rfl, rfl, rfl, rfl, rfl, ⟨⟩⟩ (sC sR) ⟨rfl, FLe.refl _, (by (try dsimp only) <;> omega), (by (try dsimp only) <;> omega), (rfl)⟩ ?_)))))))))))
 rintro ⟨k, q, G1⟩ rE _ _ ⟨rfl, leG, hk, hq, hos⟩
 show X _ _ _ _ (envs [(1, tv), (2, pathv), (3, ptr b1 0), (7, ii ((q : Int))), (8, ii ((k : Int)))] rE) _ (cellsH b1 [arv] 29 :: L)
 replace leG : F ≤ G1 := leG
 dsimp only at hk hq hos
 have hle := argsL_le ho hq
 have hia := fun (i : Nat) (h : i < (argsL ar t q).length) => argsL_in ho hq h
 have leG1 := leG
 replace har := har.mono leG1
 replace ht := ht.mono leG1
 replace hpath := hpath.mono leG1
 refine qc (qc (qa (qf (ii ((k : Int))) rfl (qf (pathv) rfl (cX (qE qd rfl hpath.slv (cX (qT rfl rfl (qb ?_)))))))))
 refine qA (p := (k : Int) < (path.length : Int)) rfl (fun h2 => ?_) (fun h2 => ?_)
 ·refine qz (qc (qL (qc (qa (cX (qy [arv] ja qF rfl rfl (Rd.ownN [] rfl rfl) (qf (tv) rfl (qf (ii ((q : Int))) rfl (cX (jR <| qr (args := [.agg #[arv], tv, ii (q : Int)]) call114 rfl (l1Args_spec (p := q) har ht (ho := (ho)) (hp := (hq))) ?_))))))))))
  rintro v1 _ _ _ ⟨rfl, hs1, rfl⟩
  refine ⟨_, _, rfl, fun F1 le1 hz1 => ?_⟩
  replace hpath := hpath.mono le1
  have hf1 : IntsF F1 v1 ((argsL ar t q)) := intsH.fz (xs := (argsL ar t q)) hz1.fz
  refine qg (v1) rfl (qb (qc (qc (qa (qf (pathv) rfl (qf (ii ((k : Int))) rfl (cX (qu k qd qm rfl rfl rfl hpath.slv (by omega) (Nat.mul_one _) (cX (qi qQ rfl (hpath.rd (by omega)) (qf (v1) rfl (cX (qE qd rfl hf1.slv (cX (jf ((((((argsL ar t q)).length : Nat) : Int)) - 1) rfl rfl (by omega) (by omega) (cX (qr (args := [ii (path.getD k 0), ii (0), ii ((((((argsL ar t q)).length : Nat) : Int)) - 1)]) call112 rfl (l1In_spec (n := path.getD k 0) (a := 0) (b := (((((argsL ar t q)).length : Nat) : Int)) - 1)) ?_)))))))))))))))))
  rintro _ _ _ _ ⟨rfl, rfl, rfl⟩
  refine cX (XOp.notD rfl (qb ?_))
  refine qA (p := ¬(0 ≤ (path.getD k 0) ∧ (path.getD k 0) ≤ ((((((argsL ar t q)).length : Nat) : Int)) - 1))) rfl (fun h3 => ?_) (fun h3 => ?_)
  ·refine qc (qa (qg (ii (-1)) rfl (qb (qw (qq (qR (qq (qq (qR (qq (qv (L' := L) [ii (-1)] (ii (-1)) (.tmp rfl .nil) rfl rF (qh leG1 le1) (sD sR) ?_)))))))))))
   exact ⟨(vI (by unfold placeL; rw [if_pos ho, hos]; exact place_out (by omega) (by omega))), rfl, rfl⟩
  refine qz (qa (qf (v1) rfl (qf (pathv) rfl (qf (ii ((k : Int))) rfl (cX (qu k qd qm rfl rfl rfl hpath.slv (by omega) (Nat.mul_one _) (cX (qi qQ rfl (hpath.rd (by omega)) (cX (qu ((path.getD k 0).toNat) qd qm rfl rfl (by omega) hf1.slv (by omega) (Nat.mul_one _) (cX (qi qQ rfl (hf1.rd (by omega)) (qg (ii (((argsL ar t q)).getD ((path.getD k 0).toNat) 0)) rfl (qb (qa ?_)))))))))))))))
  refine qf (ii ((k : Int))) rfl (cX (qS (((k + 1 : Nat) : Int)) rfl rfl (by omega) (by omega) (qg (ii (((k + 1 : Nat) : Int))) rfl (qb ?_))))
  exact ⟨(k + 1, ((argsL ar t q).getD (path.getD k 0).toNat 0).toNat, F1), _, (qh leG1 le1), rF, ⟨rfl, rfl, rfl, (vI (by have := hia (path.getD k 0).toNat (by omega); dsimp only; omega)), rfl, ⟨⟩⟩, (sC sR), ⟨rfl, (qh leG1 le1), (by (try dsimp only) <;> omega), (by have := hia (path.getD k 0).toNat (by omega); dsimp only; omega), (by dsimp only; exact hos.trans (place_next (by omega) (by omega)))⟩, (by omega)⟩
 refine jj (qx (qx (qO (qc (qa (qf (ii ((q : Int))) rfl (qg (ii ((q : Int))) rfl (qb (qw (qv (L' := L) [ii ((q : Int))] (ii ((q : Int))) (.tmp rfl .nil) rfl rF leG1 (sD sR) ?_))))))))))
 exact ⟨(vI (by unfold placeL; rw [if_pos ho, hos]; exact place_end (by omega))), rfl, rfl⟩

/- impl.ruleIn -/
theorem ruleIn_spec {F : FH} {L : List HP} {arv : Value} {ar : List Int} (har : IntsF F arv ar) {rsv : Value} {rs : List (List Int × List Int)} (hrs : PairsF F rsv rs) {n : Int} :
    Does prog 118 [.agg #[arv, rsv], ii (n)] F (L) (fun v F' L' => (.bool (decide (0 ≤ n ∧ n < (rs.length : Int))) : Value) = v ∧ F = F' ∧ L = L') := by
 refine qI func118 rfl rfl rfl (qc (qa (cX (jc [arv, rsv] rfl rfl ?_))))
 intro b1
 refine qg (.bool (false)) rfl (qb (qc (qa (qf (ii (n)) rfl (cX (jP rfl rfl (qf (.bool (decide ((n : Int) ≥ 0))) rfl ?_)))))))
 by_cases h1 : (n : Int) ≥ 0
 ·refine qk (t := 7) rfl (vT h1) (ql (ii (n)) rfl (qk (t := 7) rfl (vT h1) (qo (1) qK rfl jv (by decide) rfl rfl (qk (t := 7) rfl (vT h1) (qi jQ rfl (Rd.own [] rfl rfl) (qk (t := 7) rfl (vT h1) (qE qX rfl hrs.slv (qk (t := 7) rfl (vT h1) (qT rfl rfl (cX (qN (.bool (decide ((n : Int) < (rs.length : Int)))) (vT h1) rfl (qg (.bool (decide ((n : Int) < (rs.length : Int)))) rfl (qb (qw (qv (L' := L) [.bool (decide ((n : Int) < (rs.length : Int)))] (.bool (decide ((n : Int) < (rs.length : Int)))) (.tmp rfl .nil) rfl rF rF (sD sR) ?_)))))))))))))))
  exact ⟨(vB (decide_eq_decide.2 (by omega))), rfl, rfl⟩
 refine qn (t := 7) rfl (vF h1) (qn (t := 7) rfl (vF h1) (qn (t := 7) rfl (vF h1) (qn (t := 7) rfl (vF h1) (qn (t := 7) rfl (vF h1) (cX (qG (.bool (false)) (vF h1) rfl (qg (.bool (false)) rfl (qb (qw (qv (L' := L) [.bool (false)] (.bool (false)) (.tmp rfl .nil) rfl rF rF (sD sR) ?_))))))))))
 exact ⟨(vB (decide_eq_false (by omega))), rfl, rfl⟩

/- impl.peakOk -/
set_option maxRecDepth 20000 in
theorem peakOk_spec {F : FH} {L : List HP} {arv : Value} {ar : List Int} (har : IntsF F arv ar) {rsv : Value} {rs : List (List Int × List Int)} (hrs : PairsF F rsv rs) {tpv : Value} {tp : List Int} (htp : IntsF F tpv tp) {lfv : Value} {lf : List Int} (hlf : IntsF F lfv lf) {rtv : Value} {rt : List Int} (hrt : IntsF F rtv rt) {a : Int} {u : Int} {o : Int} (hsys : sysOk ar rs = true) (hll0 : lf.length ≤ 4000000) (hlr0 : rt.length ≤ 4000000) :
    Does prog 117 [.agg #[arv, rsv], .agg #[tpv, lfv, rtv, ii (a), ii (u), ii (o)]] F (L) (fun v F' L' => (.bool (peakL ar rs tp lf rt a u o) : Value) = v ∧ F = F' ∧ L = L') := by
 refine qI func117 rfl rfl rfl ?_
 have hrl := (sysOk_iff.1 hsys).2.1
 have hRL := fun (h : 0 ≤ o ∧ o < (rs.length : Int)) => (ruleOk_iff.1 ((sysOk_iff.1 hsys).2.2 o.toNat (by omega))).left
 have hRl := fun (h : 0 ≤ o ∧ o < (rs.length : Int)) => termOk_len (hRL h)
 refine qc (qa (cX (jc [arv, rsv] rfl rfl ?_)))
 intro b1
 refine cX (jc [tpv, lfv, rtv, ii (a), ii (u), ii (o)] rfl rfl ?_)
 intro b2
 refine qg (.bool (false)) rfl (qb (qc (qc (qa (cX (qy [arv, rsv] jF jp rfl rfl (Rd.ownN [_] rfl rfl) (cX (qo (5) qC rfl qm (by decide) rfl rfl (cX (qi qQ rfl (Rd.own [] rfl rfl) (cX (qr (args := [.agg #[arv, rsv], ii (o)]) call118 rfl (ruleIn_spec (n := o) har hrs) ?_))))))))))))
 rintro _ _ _ _ ⟨rfl, rfl, rfl⟩
 refine cX (XOp.notD rfl (qf (.bool (decide (¬(0 ≤ o ∧ o < (rs.length : Int))))) rfl ?_))
 by_cases h1 : ¬(0 ≤ o ∧ o < (rs.length : Int))
 ·refine qn (t := 15) rfl (vT h1) (qn (t := 15) rfl (vT h1) (qn (t := 15) rfl (vT h1) (qn (t := 15) rfl (vT h1) (qn (t := 15) rfl (vT h1) (cX (qN (.bool (true)) (vT h1) rfl (qf (.bool (true)) rfl (qn (t := 22) rfl rfl (qn (t := 22) rfl rfl (qn (t := 22) rfl rfl ?_))))))))))
  refine qn (t := 22) rfl rfl (XL.noU (t := 26) rfl rfl (XL.noU (t := 26) rfl rfl (XL.noU (t := 26) rfl rfl (XL.noU (t := 26) rfl rfl (XL.noU (t := 26) rfl rfl (qn (t := 22) rfl rfl (cX (qN (.bool (true)) rfl rfl (qb (jq rfl ?_))))))))))
  refine qc (qa (qg (.bool (false)) rfl (qb (qw (qq (qv (L' := L) [.bool (false)] (.bool (false)) (.tmp rfl .nil) rfl rF rF (sD (sD sR)) ?_))))))
  exact ⟨(vB (by refine peakL_no (fun h => ?_); obtain ⟨h1, h2, h3, h4⟩ := h; have h5 := peakArgs_iff.1 h2; first | omega | simp_all | (simp_all; done) | (exfalso; simp_all; omega))), rfl, rfl⟩
 refine qk (t := 15) rfl (vF h1) (qy [arv, rsv] jF jp rfl rfl (Rd.ownN [_] rfl rfl) (qk (t := 15) rfl (vF h1) (qo (4) qC rfl qm (by decide) rfl rfl (qk (t := 15) rfl (vF h1) (qi qQ rfl (Rd.own [] rfl rfl) (qk (t := 15) rfl (vF h1) (qr (args := [.agg #[arv, rsv], ii (u)]) call118 rfl (ruleIn_spec (n := u) har hrs) ?_)))))))
 rintro _ _ _ _ ⟨rfl, rfl, rfl⟩
 refine qk (t := 15) rfl (vF h1) (XOp.notD rfl (cX (qG (.bool (decide (¬(0 ≤ u ∧ u < (rs.length : Int))))) (vF h1) rfl (qf (.bool (decide (¬(0 ≤ u ∧ u < (rs.length : Int))))) rfl ?_))))
 by_cases h2 : ¬(0 ≤ u ∧ u < (rs.length : Int))
 ·refine qn (t := 22) rfl (vT h2) (qn (t := 22) rfl (vT h2) (qn (t := 22) rfl (vT h2) (qn (t := 22) rfl (vT h2) (XL.noU (t := 26) rfl rfl (XL.noU (t := 26) rfl rfl (XL.noU (t := 26) rfl rfl (XL.noU (t := 26) rfl rfl (XL.noU (t := 26) rfl rfl (qn (t := 22) rfl (vT h2) ?_)))))))))
  refine cX (qN (.bool (true)) (vT h2) rfl (qb (jq rfl (qc (qa (qg (.bool (false)) rfl (qb (qw (qq (qv (L' := L) [.bool (false)] (.bool (false)) (.tmp rfl .nil) rfl rF rF (sD (sD sR)) ?_))))))))))
  exact ⟨(vB (by refine peakL_no (fun h => ?_); obtain ⟨h1, h2, h3, h4⟩ := h; have h5 := peakArgs_iff.1 h2; first | omega | simp_all | (simp_all; done) | (exfalso; simp_all; omega))), rfl, rfl⟩
 refine qk (t := 22) rfl (vF h2) (qo (3) qC rfl qm (by decide) rfl rfl (qk (t := 22) rfl (vF h2) (qi qQ rfl (Rd.own [] rfl rfl) (qk (t := 22) rfl (vF h2) (js rfl rfl (qk (t := 22) rfl (vF h2) (ql (.bool (decide ((a : Int) = 0))) rfl ?_)))))))
 by_cases h3 : (a : Int) = 0
 ·refine qk (t := 26) rfl (vT h3) (qo (5) qC rfl qm (by decide) rfl rfl (qk (t := 26) rfl (vT h3) (qi qQ rfl (Rd.own [] rfl rfl) (qk (t := 26) rfl (vT h3) (qo (4) qC rfl qm (by decide) rfl rfl (qk (t := 26) rfl (vT h3) (qi qQ rfl (Rd.own [] rfl rfl) (qk (t := 26) rfl (vT h3) (js rfl rfl (qk (t := 22) rfl (vF h2) (qN (.bool (decide ((o : Int) = u))) (vT h3) rfl (cX (qG (.bool (decide ((o : Int) = u))) (vF h2) rfl (qb ?_))))))))))))))
  refine qA (p := (o : Int) = u) rfl (fun h4 => ?_) (fun h4 => ?_)
  ·refine qc (qa (qg (.bool (false)) rfl (qb (qw (qq (qv (L' := L) [.bool (false)] (.bool (false)) (.tmp rfl .nil) rfl rF rF (sD (sD sR)) ?_))))))
   exact ⟨(vB (by refine peakL_no (fun h => ?_); obtain ⟨h1, h2, h3, h4⟩ := h; have h5 := peakArgs_iff.1 h2; first | omega | simp_all | (simp_all; done) | (exfalso; simp_all; omega))), rfl, rfl⟩
  refine qz (qc (qa (cX (qo (1) qK rfl jv (by decide) rfl rfl (cX (qi jQ rfl (Rd.own [_] rfl rfl) (cX (qo (5) qC rfl qm (by decide) rfl rfl (cX (qi qQ rfl (Rd.own [] rfl rfl) (cX (qu ((o).toNat) qX jm rfl rfl (by omega) hrs.slv (by omega) rfl (cX (XOp.fieldE (((o).toNat) * 2) qM rfl qp (by decide) rfl rfl ?_))))))))))))))
  obtain ⟨a1, a2, ha1, ha2, hr1, hr2⟩ := hrs.rd (i := (o).toNat) (by omega)
  refine cX (qi qW rfl (hr1 _) (qg (a1) rfl (qb (qc (qc (qa (cX (qo (3) qC rfl qm (by decide) rfl rfl (cX (qi qQ rfl (Rd.own [] rfl rfl) (cX (qT rfl rfl (qf (.bool (decide ((a : Int) < 0))) rfl ?_)))))))))))))
  by_cases h5 : (a : Int) < 0
  ·refine qn (t := 44) rfl (vT h5) (qn (t := 44) rfl (vT h5) (qn (t := 44) rfl (vT h5) (qn (t := 44) rfl (vT h5) (qn (t := 44) rfl (vT h5) (cX (qN (.bool (true)) (vT h5) rfl (qf (.bool (true)) rfl (qn (t := 51) rfl rfl (qn (t := 51) rfl rfl (qn (t := 51) rfl rfl ?_))))))))))
   refine qn (t := 51) rfl rfl (qn (t := 51) rfl rfl (qn (t := 51) rfl rfl (cX (qN (.bool (true)) rfl rfl (qb (jq rfl (qc (qa (qg (.bool (false)) rfl (qb (qw (qq (qv (L' := L) [.bool (false)] (.bool (false)) (.tmp rfl .nil) rfl rF rF (sD (sD sR)) ?_)))))))))))))
   exact ⟨(vB (by refine peakL_no (fun h => ?_); obtain ⟨h1, h2, h3, h4⟩ := h; have h5 := peakArgs_iff.1 h2; first | omega | simp_all | (simp_all; done) | (exfalso; simp_all; omega))), rfl, rfl⟩
  refine qk (t := 44) rfl (vF h5) (qo (3) qC rfl qm (by decide) rfl rfl (qk (t := 44) rfl (vF h5) (qi qQ rfl (Rd.own [] rfl rfl) (qk (t := 44) rfl (vF h5) (ql (a1) rfl (qk (t := 44) rfl (vF h5) (qE qd rfl ha1.slv (qk (t := 44) rfl (vF h5) (jP rfl rfl (cX (qG (.bool (decide ((a : Int) ≥ ((((rs.getD ((o).toNat) ([], [])).1).length : Nat) : Int)))) (vF h5) rfl (qf (.bool (decide ((a : Int) ≥ ((((rs.getD ((o).toNat) ([], [])).1).length : Nat) : Int)))) rfl ?_))))))))))))
  by_cases h6 : (a : Int) ≥ ((((rs.getD ((o).toNat) ([], [])).1).length : Nat) : Int)
  ·refine qn (t := 51) rfl (vT h6) (qn (t := 51) rfl (vT h6) (qn (t := 51) rfl (vT h6) (qn (t := 51) rfl (vT h6) (qn (t := 51) rfl (vT h6) (qn (t := 51) rfl (vT h6) (cX (qN (.bool (true)) (vT h6) rfl (qb (jq rfl (qc (qa ?_)))))))))))
   refine qg (.bool (false)) rfl (qb (qw (qq (qv (L' := L) [.bool (false)] (.bool (false)) (.tmp rfl .nil) rfl rF rF (sD (sD sR)) ?_))))
   exact ⟨(vB (by refine peakL_no (fun h => ?_); obtain ⟨h1, h2, h3, h4⟩ := h; have h5 := peakArgs_iff.1 h2; first | omega | simp_all | (simp_all; done) | (exfalso; simp_all; omega))), rfl, rfl⟩
  refine qk (t := 51) rfl (vF h6) (ql (a1) rfl (qk (t := 51) rfl (vF h6) (qo (3) qC rfl qm (by decide) rfl rfl (qk (t := 51) rfl (vF h6) (qi qQ rfl (Rd.own [] rfl rfl) (qk (t := 51) rfl (vF h6) (qu ((a).toNat) qd qm rfl rfl (by omega) ha1.slv (by omega) (Nat.mul_one _) (qk (t := 51) rfl (vF h6) (qi qQ rfl (ha1.rd (by omega)) (qk (t := 51) rfl (vF h6) (qT rfl rfl (cX (qG (.bool (decide ((((rs.getD ((o).toNat) ([], [])).1).getD ((a).toNat) 0 : Int) < 0))) (vF h6) rfl (qb ?_))))))))))))))
  refine qA (p := (((rs.getD ((o).toNat) ([], [])).1).getD ((a).toNat) 0 : Int) < 0) rfl (fun h7 => ?_) (fun h7 => ?_)
  ·refine qc (qa (qg (.bool (false)) rfl (qb (qw (qq (qv (L' := L) [.bool (false)] (.bool (false)) (.tmp rfl .nil) rfl rF rF (sD (sD sR)) ?_))))))
   exact ⟨(vB (by refine peakL_no (fun h => ?_); obtain ⟨h1, h2, h3, h4⟩ := h; have h5 := peakArgs_iff.1 h2; first | omega | simp_all | (simp_all; done) | (exfalso; simp_all; omega))), rfl, rfl⟩
  refine qz (qc (qa (cX (qy [arv, rsv] jF jp rfl rfl (Rd.ownN [_] rfl rfl) (cX (qo (0) qC rfl qp (by decide) rfl rfl (cX (qi qW rfl (Rd.own [] rfl rfl) (cX (qo (5) qC rfl qm (by decide) rfl rfl (cX (qi qQ rfl (Rd.own [] rfl rfl) (cX (qr (args := [.agg #[arv, rsv], tpv, ii (0), ii (o)]) call178 rfl (StepAt_spec (p := 0) (r := o) har hrs htp) ?_))))))))))))))
  rintro _ F1 _ le1 ⟨x1, rfl, hr3, hr4, rfl⟩
  replace har := har.mono le1
  replace hrs := hrs.mono le1
  replace htp := htp.mono le1
  replace hlf := hlf.mono le1
  replace hrt := hrt.mono le1
  replace ha1 := ha1.mono le1
  refine qf (.tuple #[x1, .bool ((stepAtL ar rs tp 0 o).isSome)]) rfl (cX (qH (x1) rfl rfl (cX (qH (.bool ((stepAtL ar rs tp 0 o).isSome)) rfl rfl (qg (x1) rfl (qg (.bool ((stepAtL ar rs tp 0 o).isSome)) rfl (qb (qc (qc (qa (qf (.bool ((stepAtL ar rs tp 0 o).isSome)) rfl (cX (jg rfl (qf (.bool (!((stepAtL ar rs tp 0 o).isSome))) rfl ?_))))))))))))))
  by_cases h8 : (!((stepAtL ar rs tp 0 o).isSome)) = true
  ·have hst1 : (stepAtL ar rs tp 0 o).isSome = false := by simpa using h8
   refine qn (t := 70) rfl (vB h8) (qn (t := 70) rfl (vB h8) (qn (t := 70) rfl (vB h8) (qn (t := 70) rfl (vB h8) (qn (t := 70) rfl (vB h8) (cX (qN (.bool (true)) (vB h8) rfl (qb (jq rfl (qc (qa (qg (.bool (false)) rfl ?_)))))))))))
   refine qb (qw (qq (qv (L' := L) [.bool (false)] (.bool (false)) (.tmp rfl .nil) rfl rF le1 (sD (sD sR)) ?_)))
   exact ⟨(vB (peakL_no (fun h => by first | exact opt_no1 hst1 h.2.2.1 | exact opt_no2 hst2 h.2.2.1))), rfl, rfl⟩
  rw [Bool.not_eq_true] at h8
  have hst1 : (stepAtL ar rs tp 0 o).isSome = true := by simpa using h8
  refine qk (t := 70) rfl (vB h8) (ql (x1) rfl (qk (t := 70) rfl (vB h8) (qo (2) qC rfl qp (by decide) rfl rfl (qk (t := 70) rfl (vB h8) (qi qW rfl (Rd.own [] rfl rfl) (qk (t := 70) rfl (vB h8) (qr (args := [x1, rtv]) call67 rfl (Equal_spec hr3 hrt (hbd := (by first | assumption | rfl | omega | (left; simp; done) | (right; simp; done)))) ?_)))))))
  rintro _ _ _ _ ⟨rfl, rfl, rfl⟩
  refine qk (t := 70) rfl (vB h8) (XOp.notD rfl (cX (qG (.bool (decide (¬(((stepAtL ar rs tp 0 o).getD []) = rt)))) (vB h8) rfl (qb ?_))))
  refine qA (p := ¬(((stepAtL ar rs tp 0 o).getD []) = rt)) rfl (fun h9 => ?_) (fun h9 => ?_)
  ·have hst2 : (stepAtL ar rs tp 0 o).getD [] ≠ rt := h9
   refine qc (qa (qg (.bool (false)) rfl (qb (qw (qq (qv (L' := L) [.bool (false)] (.bool (false)) (.tmp rfl .nil) rfl rF le1 (sD (sD sR)) ?_))))))
   exact ⟨(vB (peakL_no (fun h => by first | exact opt_no1 hst1 h.2.2.1 | exact opt_no2 hst2 h.2.2.1))), rfl, rfl⟩
  have hst2 : (stepAtL ar rs tp 0 o).getD [] = rt := Classical.not_not.1 h9
  refine qz (qc ?_)
  refine X.drawG [cellsH b2 [tpv, lfv, rtv, ii (a), ii (u), ii (o)] 76, cellsH b1 [arv, rsv] 32] L 10 [] [[], [0], [], [2], [], [4], [], [], [7], [5, 6, 8]] [] (phiG [pe (ptr b1 0), pe (.agg #[arv]), pe (ptr b2 0), pe tpv, pe (ptr b1 0), pe (.agg #[arv]), pe a1, pe (ptr b2 3), pe (ii (a)), fun FF us v => ((v) : Value) = v ∧ (IntsF FF (v) (pathL ar ((rs.getD ((o).toNat) ([], [])).1) ((a).toNat)))]) (ownL []) mixed rfl rfl (by kernel_rfl) (by kernel_rfl) (MonoG.get (m1 (m1 (m1 (m1 (m1 (m1 (m1 (m1 (m1 (mC (fun le h => ⟨h.1, h.2.mono le⟩) MonoG.nil))))))))))) ?_ ?_
  ·refine gD (fun W Fs R lF z9 => ?_) ?_
   ·refine qj (qo (0) qK rfl qF (by decide) rfl rfl ?_)
    exact ⟨rfl, rfl⟩
   refine gD (fun W Fs R lF z9 => ?_) ?_
   ·replace har := har.mono lF
    replace hrs := hrs.mono lF
    replace htp := htp.mono lF
    replace hlf := hlf.mono lF
    replace hrt := hrt.mono lF
    replace ha1 := ha1.mono lF
    rw [eS (l := [(0, _)]) ⟨z9 0 rfl, ⟨⟩⟩]
    refine qj (qy [arv] ja qF rfl rfl (Rd.ownN [_] rfl rfl) ?_)
    exact ⟨rfl, rfl⟩
   refine gD (fun W Fs R lF z9 => ?_) ?_
   ·refine qj (qo (0) qC rfl qp (by decide) rfl rfl ?_)
    exact ⟨rfl, rfl⟩
   refine gD (fun W Fs R lF z9 => ?_) ?_
   ·replace har := har.mono lF
    replace hrs := hrs.mono lF
    replace htp := htp.mono lF
    replace hlf := hlf.mono lF
    replace hrt := hrt.mono lF
    replace ha1 := ha1.mono lF
    rw [eS (l := [(2, _)]) ⟨z9 2 rfl, ⟨⟩⟩]
    refine qj (qi qW rfl (Rd.own [] rfl rfl) ?_)
    exact ⟨rfl, rfl⟩
   refine gD (fun W Fs R lF z9 => ?_) ?_
   ·refine qj (qo (0) qK rfl qF (by decide) rfl rfl ?_)
    exact ⟨rfl, rfl⟩
   refine gD (fun W Fs R lF z9 => ?_) ?_
   ·replace har := har.mono lF
    replace hrs := hrs.mono lF
    replace htp := htp.mono lF
    replace hlf := hlf.mono lF
    replace hrt := hrt.mono lF
    replace ha1 := ha1.mono lF
    rw [eS (l := [(4, _)]) ⟨z9 4 rfl, ⟨⟩⟩]
    refine qj (qy [arv] ja qF rfl rfl (Rd.ownN [_] rfl rfl) ?_)
    exact ⟨rfl, rfl⟩
   refine gD (fun W Fs R lF z9 => ?_) ?_
   ·refine qj (ql (a1) rfl ?_)
    exact ⟨rfl, rfl⟩
   refine gD (fun W Fs R lF z9 => ?_) ?_
   ·refine qj (qo (3) qC rfl qm (by decide) rfl rfl ?_)
    exact ⟨rfl, rfl⟩
   refine gD (fun W Fs R lF z9 => ?_) ?_
   ·replace har := har.mono lF
    replace hrs := hrs.mono lF
    replace htp := htp.mono lF
    replace hlf := hlf.mono lF
    replace hrt := hrt.mono lF
    replace ha1 := ha1.mono lF
    rw [eS (l := [(7, _)]) ⟨z9 7 rfl, ⟨⟩⟩]
    refine qj (qi qQ rfl (Rd.own [] rfl rfl) ?_)
    exact ⟨rfl, rfl⟩
   refine gD (fun W Fs R lF z9 => ?_) ?_
   ·replace har := har.mono lF
    replace hrs := hrs.mono lF
    replace htp := htp.mono lF
    replace hlf := hlf.mono lF
    replace hrt := hrt.mono lF
    replace ha1 := ha1.mono lF
    rw [eS (l := [(5, _), (6, _), (8, _)]) ⟨z9 5 rfl, z9 6 rfl, z9 8 rfl, ⟨⟩⟩]
    refine qj (jR <| qr (args := [.agg #[arv], a1, ii (((a).toNat : Nat) : Int)]) call180 (by rw [show (((a).toNat : Nat) : Int) = a from by omega]; rfl) (pathTo_spec (x := (a).toNat) har ha1 (ho := (hRL (by omega))) (hx := (by omega))) ?_)
    rintro v2 _ _ _ ⟨rfl, hs2, rfl⟩
    refine ⟨_, _, rfl, fun F2 le2 hz1 => ?_⟩
    replace har := har.mono le2
    replace hrs := hrs.mono le2
    replace htp := htp.mono le2
    replace hlf := hlf.mono le2
    replace hrt := hrt.mono le2
    have hf1 : IntsF F2 v2 ((pathL ar ((rs.getD ((o).toNat) ([], [])).1) ((a).toNat))) := intsH.fz (xs := (pathL ar ((rs.getD ((o).toNat) ([], [])).1) ((a).toNat))) hz1.fz
    exact ⟨⟨rfl, hf1⟩, rfl⟩
   exact stepsG.nil
  intro W F3 le3 hphi
  obtain ⟨e9, f9_1ha⟩ := hphi 9 (by decide)
  generalize hu1 : ((W 9)) = u1 at e9 f9_1ha
  rw [eS (l := [(1, _), (3, _), (9, u1)]) ⟨(hphi 1 (by decide)), (hphi 3 (by decide)), hu1, ⟨⟩⟩]
  replace har := har.mono le3
  replace hrs := hrs.mono le3
  replace htp := htp.mono le3
  replace hlf := hlf.mono le3
  replace hrt := hrt.mono le3
  show XL _ _ _ _ _ _ _ (cellsH b2 [tpv, lfv, rtv, ii (a), ii (u), ii (o)] 76 :: cellsH b1 [arv, rsv] 32 :: L)
  refine cX (qr (args := [.agg #[arv], tpv, u1]) call179 rfl (PlaceOf_spec har htp f9_1ha (hlp := (by have := pathL_len ar (rs.getD o.toNat ([], [])).1 a.toNat; have := hRl (by omega); omega))) ?_)
  rintro _ _ _ _ ⟨rfl, rfl, rfl⟩
  refine qg (ii (placeL ar tp ((pathL ar ((rs.getD ((o).toNat) ([], [])).1) ((a).toNat))))) rfl (qb (qc (qa (cX (qy [arv, rsv] jF jp rfl rfl (Rd.ownN [_] rfl rfl) (cX (qo (0) qC rfl qp (by decide) rfl rfl (cX (qi qW rfl (Rd.own [] rfl rfl) (qf (ii (placeL ar tp ((pathL ar ((rs.getD ((o).toNat) ([], [])).1) ((a).toNat))))) rfl (cX (qo (4) qC rfl qm (by decide) rfl rfl (cX (qi qQ rfl (Rd.own [] rfl rfl) (cX (qr (args := [.agg #[arv, rsv], tpv, ii (placeL ar tp ((pathL ar ((rs.getD ((o).toNat) ([], [])).1) ((a).toNat)))), ii (u)]) call178 rfl (StepAt_spec (p := placeL ar tp ((pathL ar ((rs.getD ((o).toNat) ([], [])).1) ((a).toNat)))) (r := u) har hrs htp) ?_))))))))))))))))
  rintro _ F4 _ le4 ⟨x2, rfl, hr5, hr6, rfl⟩
  replace har := har.mono le4
  replace hrs := hrs.mono le4
  replace htp := htp.mono le4
  replace hlf := hlf.mono le4
  replace hrt := hrt.mono le4
  refine qf (.tuple #[x2, .bool ((stepAtL ar rs tp (placeL ar tp ((pathL ar ((rs.getD ((o).toNat) ([], [])).1) ((a).toNat)))) u).isSome)]) rfl (cX (qH (x2) rfl rfl (cX (qH (.bool ((stepAtL ar rs tp (placeL ar tp ((pathL ar ((rs.getD ((o).toNat) ([], [])).1) ((a).toNat)))) u).isSome)) rfl rfl (qg (x2) rfl (qg (.bool ((stepAtL ar rs tp (placeL ar tp ((pathL ar ((rs.getD ((o).toNat) ([], [])).1) ((a).toNat)))) u).isSome)) rfl (qb (qc (qa (qf (.bool ((stepAtL ar rs tp (placeL ar tp ((pathL ar ((rs.getD ((o).toNat) ([], [])).1) ((a).toNat)))) u).isSome)) rfl (qf (.bool ((stepAtL ar rs tp (placeL ar tp ((pathL ar ((rs.getD ((o).toNat) ([], [])).1) ((a).toNat)))) u).isSome)) rfl ?_)))))))))))
  by_cases h10 : ((stepAtL ar rs tp (placeL ar tp ((pathL ar ((rs.getD ((o).toNat) ([], [])).1) ((a).toNat)))) u).isSome) = true
  ·refine qk (t := 99) rfl (vB h10) (ql (x2) rfl (qk (t := 99) rfl (vB h10) (qo (1) qC rfl qp (by decide) rfl rfl (qk (t := 99) rfl (vB h10) (qi qW rfl (Rd.own [] rfl rfl) (qk (t := 99) rfl (vB h10) (qr (args := [x2, lfv]) call67 rfl (Equal_spec hr5 hlf (hbd := (by first | assumption | rfl | omega | (left; simp; done) | (right; simp; done)))) ?_)))))))
   rintro _ _ _ _ ⟨rfl, rfl, rfl⟩
   refine cX (qN (.bool (decide (((stepAtL ar rs tp (placeL ar tp ((pathL ar ((rs.getD ((o).toNat) ([], [])).1) ((a).toNat)))) u).getD []) = lf))) (vB h10) rfl (qg (.bool (decide (((stepAtL ar rs tp (placeL ar tp ((pathL ar ((rs.getD ((o).toNat) ([], [])).1) ((a).toNat)))) u).getD []) = lf))) rfl (qb (qw (qv (L' := L) [.bool (decide (((stepAtL ar rs tp (placeL ar tp ((pathL ar ((rs.getD ((o).toNat) ([], [])).1) ((a).toNat)))) u).getD []) = lf))] (.bool (decide (((stepAtL ar rs tp (placeL ar tp ((pathL ar ((rs.getD ((o).toNat) ([], [])).1) ((a).toNat)))) u).getD []) = lf))) (.tmp rfl .nil) rfl rF (qh (qh le1 le3) le4) (sD (sD sR)) ?_)))))
   exact ⟨(vB (by rw [Bool.eq_iff_iff, peakL_iff, decide_eq_true_eq]; exact ⟨fun h => (getD_some (by assumption)).1 h.2.2.2, fun h => ⟨hsys, peakArgs_iff.2 (by omega), (getD_some hst1).2 hst2, (getD_some (by assumption)).2 h⟩⟩)), rfl, rfl⟩
  rw [Bool.not_eq_true] at h10
  refine qn (t := 99) rfl (vB h10) (qn (t := 99) rfl (vB h10) (qn (t := 99) rfl (vB h10) (qn (t := 99) rfl (vB h10) (cX (qG (.bool (false)) (vB h10) rfl (qg (.bool (false)) rfl (qb (qw (qv (L' := L) [.bool (false)] (.bool (false)) (.tmp rfl .nil) rfl rF (qh (qh le1 le3) le4) (sD (sD sR)) ?_)))))))))
  exact ⟨(vB (peakL_no (fun h => opt_no1 (by assumption) h.2.2.2))), rfl, rfl⟩
 refine qn (t := 26) rfl (vF h3) (qn (t := 26) rfl (vF h3) (qn (t := 26) rfl (vF h3) (qn (t := 26) rfl (vF h3) (qn (t := 26) rfl (vF h3) (qk (t := 22) rfl (vF h2) (qG (.bool (false)) (vF h3) rfl (cX (qG (.bool (false)) (vF h2) rfl (qb (jC rfl (qz (qc (qa ?_)))))))))))))
 refine cX (qo (1) qK rfl jv (by decide) rfl rfl (cX (qi jQ rfl (Rd.own [_] rfl rfl) (cX (qo (5) qC rfl qm (by decide) rfl rfl (cX (qi qQ rfl (Rd.own [] rfl rfl) (cX (qu ((o).toNat) qX jm rfl rfl (by omega) hrs.slv (by omega) rfl (cX (XOp.fieldE (((o).toNat) * 2) qM rfl qp (by decide) rfl rfl ?_)))))))))))
 obtain ⟨a3, a4, ha3, ha4, hr7, hr8⟩ := hrs.rd (i := (o).toNat) (by omega)
 refine cX (qi qW rfl (hr7 _) (qg (a3) rfl (qb (qc (qc (qa (cX (qo (3) qC rfl qm (by decide) rfl rfl (cX (qi qQ rfl (Rd.own [] rfl rfl) (cX (qT rfl rfl (qf (.bool (decide ((a : Int) < 0))) rfl ?_)))))))))))))
 by_cases h11 : (a : Int) < 0
 ·refine qn (t := 44) rfl (vT h11) (qn (t := 44) rfl (vT h11) (qn (t := 44) rfl (vT h11) (qn (t := 44) rfl (vT h11) (qn (t := 44) rfl (vT h11) (cX (qN (.bool (true)) (vT h11) rfl (qf (.bool (true)) rfl (qn (t := 51) rfl rfl (qn (t := 51) rfl rfl (qn (t := 51) rfl rfl ?_))))))))))
  refine qn (t := 51) rfl rfl (qn (t := 51) rfl rfl (qn (t := 51) rfl rfl (cX (qN (.bool (true)) rfl rfl (qb (jq rfl (qc (qa (qg (.bool (false)) rfl (qb (qw (qq (qv (L' := L) [.bool (false)] (.bool (false)) (.tmp rfl .nil) rfl rF rF (sD (sD sR)) ?_)))))))))))))
  exact ⟨(vB (by refine peakL_no (fun h => ?_); obtain ⟨h1, h2, h3, h4⟩ := h; have h5 := peakArgs_iff.1 h2; first | omega | simp_all | (simp_all; done) | (exfalso; simp_all; omega))), rfl, rfl⟩
 refine qk (t := 44) rfl (vF h11) (qo (3) qC rfl qm (by decide) rfl rfl (qk (t := 44) rfl (vF h11) (qi qQ rfl (Rd.own [] rfl rfl) (qk (t := 44) rfl (vF h11) (ql (a3) rfl (qk (t := 44) rfl (vF h11) (qE qd rfl ha3.slv (qk (t := 44) rfl (vF h11) (jP rfl rfl (cX (qG (.bool (decide ((a : Int) ≥ ((((rs.getD ((o).toNat) ([], [])).1).length : Nat) : Int)))) (vF h11) rfl (qf (.bool (decide ((a : Int) ≥ ((((rs.getD ((o).toNat) ([], [])).1).length : Nat) : Int)))) rfl ?_))))))))))))
 by_cases h12 : (a : Int) ≥ ((((rs.getD ((o).toNat) ([], [])).1).length : Nat) : Int)
 ·refine qn (t := 51) rfl (vT h12) (qn (t := 51) rfl (vT h12) (qn (t := 51) rfl (vT h12) (qn (t := 51) rfl (vT h12) (qn (t := 51) rfl (vT h12) (qn (t := 51) rfl (vT h12) (cX (qN (.bool (true)) (vT h12) rfl (qb (jq rfl (qc (qa ?_)))))))))))
  refine qg (.bool (false)) rfl (qb (qw (qq (qv (L' := L) [.bool (false)] (.bool (false)) (.tmp rfl .nil) rfl rF rF (sD (sD sR)) ?_))))
  exact ⟨(vB (by refine peakL_no (fun h => ?_); obtain ⟨h1, h2, h3, h4⟩ := h; have h5 := peakArgs_iff.1 h2; first | omega | simp_all | (simp_all; done) | (exfalso; simp_all; omega))), rfl, rfl⟩
 refine qk (t := 51) rfl (vF h12) (ql (a3) rfl (qk (t := 51) rfl (vF h12) (qo (3) qC rfl qm (by decide) rfl rfl (qk (t := 51) rfl (vF h12) (qi qQ rfl (Rd.own [] rfl rfl) (qk (t := 51) rfl (vF h12) (qu ((a).toNat) qd qm rfl rfl (by omega) ha3.slv (by omega) (Nat.mul_one _) (qk (t := 51) rfl (vF h12) (qi qQ rfl (ha3.rd (by omega)) (qk (t := 51) rfl (vF h12) (qT rfl rfl (cX (qG (.bool (decide ((((rs.getD ((o).toNat) ([], [])).1).getD ((a).toNat) 0 : Int) < 0))) (vF h12) rfl (qb ?_))))))))))))))
 refine qA (p := (((rs.getD ((o).toNat) ([], [])).1).getD ((a).toNat) 0 : Int) < 0) rfl (fun h13 => ?_) (fun h13 => ?_)
 ·refine qc (qa (qg (.bool (false)) rfl (qb (qw (qq (qv (L' := L) [.bool (false)] (.bool (false)) (.tmp rfl .nil) rfl rF rF (sD (sD sR)) ?_))))))
  exact ⟨(vB (by refine peakL_no (fun h => ?_); obtain ⟨h1, h2, h3, h4⟩ := h; have h5 := peakArgs_iff.1 h2; first | omega | simp_all | (simp_all; done) | (exfalso; simp_all; omega))), rfl, rfl⟩
 refine qz (qc (qa (cX (qy [arv, rsv] jF jp rfl rfl (Rd.ownN [_] rfl rfl) (cX (qo (0) qC rfl qp (by decide) rfl rfl (cX (qi qW rfl (Rd.own [] rfl rfl) (cX (qo (5) qC rfl qm (by decide) rfl rfl (cX (qi qQ rfl (Rd.own [] rfl rfl) (cX (qr (args := [.agg #[arv, rsv], tpv, ii (0), ii (o)]) call178 rfl (StepAt_spec (p := 0) (r := o) har hrs htp) ?_))))))))))))))
 rintro _ F5 _ le5 ⟨x3, rfl, hr9, hr10, rfl⟩
 replace har := har.mono le5
 replace hrs := hrs.mono le5
 replace htp := htp.mono le5
 replace hlf := hlf.mono le5
 replace hrt := hrt.mono le5
 replace ha3 := ha3.mono le5
 refine qf (.tuple #[x3, .bool ((stepAtL ar rs tp 0 o).isSome)]) rfl (cX (qH (x3) rfl rfl (cX (qH (.bool ((stepAtL ar rs tp 0 o).isSome)) rfl rfl (qg (x3) rfl (qg (.bool ((stepAtL ar rs tp 0 o).isSome)) rfl (qb (qc (qc (qa (qf (.bool ((stepAtL ar rs tp 0 o).isSome)) rfl (cX (jg rfl (qf (.bool (!((stepAtL ar rs tp 0 o).isSome))) rfl ?_))))))))))))))
 by_cases h14 : (!((stepAtL ar rs tp 0 o).isSome)) = true
 ·have hst1 : (stepAtL ar rs tp 0 o).isSome = false := by simpa using h14
  refine qn (t := 70) rfl (vB h14) (qn (t := 70) rfl (vB h14) (qn (t := 70) rfl (vB h14) (qn (t := 70) rfl (vB h14) (qn (t := 70) rfl (vB h14) (cX (qN (.bool (true)) (vB h14) rfl (qb (jq rfl (qc (qa (qg (.bool (false)) rfl ?_)))))))))))
  refine qb (qw (qq (qv (L' := L) [.bool (false)] (.bool (false)) (.tmp rfl .nil) rfl rF le5 (sD (sD sR)) ?_)))
  exact ⟨(vB (peakL_no (fun h => by first | exact opt_no1 hst1 h.2.2.1 | exact opt_no2 hst2 h.2.2.1))), rfl, rfl⟩
 rw [Bool.not_eq_true] at h14
 have hst1 : (stepAtL ar rs tp 0 o).isSome = true := by simpa using h14
 refine qk (t := 70) rfl (vB h14) (ql (x3) rfl (qk (t := 70) rfl (vB h14) (qo (2) qC rfl qp (by decide) rfl rfl (qk (t := 70) rfl (vB h14) (qi qW rfl (Rd.own [] rfl rfl) (qk (t := 70) rfl (vB h14) (qr (args := [x3, rtv]) call67 rfl (Equal_spec hr9 hrt (hbd := (by first | assumption | rfl | omega | (left; simp; done) | (right; simp; done)))) ?_)))))))
 rintro _ _ _ _ ⟨rfl, rfl, rfl⟩
 refine qk (t := 70) rfl (vB h14) (XOp.notD rfl (cX (qG (.bool (decide (¬(((stepAtL ar rs tp 0 o).getD []) = rt)))) (vB h14) rfl (qb ?_))))
 refine qA (p := ¬(((stepAtL ar rs tp 0 o).getD []) = rt)) rfl (fun h15 => ?_) (fun h15 => ?_)
 ·have hst2 : (stepAtL ar rs tp 0 o).getD [] ≠ rt := h15
  refine qc (qa (qg (.bool (false)) rfl (qb (qw (qq (qv (L' := L) [.bool (false)] (.bool (false)) (.tmp rfl .nil) rfl rF le5 (sD (sD sR)) ?_))))))
  exact ⟨(vB (peakL_no (fun h => by first | exact opt_no1 hst1 h.2.2.1 | exact opt_no2 hst2 h.2.2.1))), rfl, rfl⟩
 have hst2 : (stepAtL ar rs tp 0 o).getD [] = rt := Classical.not_not.1 h15
 refine qz (qc ?_)
 refine X.drawG [cellsH b2 [tpv, lfv, rtv, ii (a), ii (u), ii (o)] 76, cellsH b1 [arv, rsv] 32] L 10 [] [[], [0], [], [2], [], [4], [], [], [7], [5, 6, 8]] [] (phiG [pe (ptr b1 0), pe (.agg #[arv]), pe (ptr b2 0), pe tpv, pe (ptr b1 0), pe (.agg #[arv]), pe a3, pe (ptr b2 3), pe (ii (a)), fun FF us v => ((v) : Value) = v ∧ (IntsF FF (v) (pathL ar ((rs.getD ((o).toNat) ([], [])).1) ((a).toNat)))]) (ownL []) mixed rfl rfl (by kernel_rfl) (by kernel_rfl) (MonoG.get (m1 (m1 (m1 (m1 (m1 (m1 (m1 (m1 (m1 (mC (fun le h => ⟨h.1, h.2.mono le⟩) MonoG.nil))))))))))) ?_ ?_
 ·refine gD (fun W Fs R lF z9 => ?_) ?_
  ·refine qj (qo (0) qK rfl qF (by decide) rfl rfl ?_)
   exact ⟨rfl, rfl⟩
  refine gD (fun W Fs R lF z9 => ?_) ?_
  ·replace har := har.mono lF
   replace hrs := hrs.mono lF
   replace htp := htp.mono lF
   replace hlf := hlf.mono lF
   replace ha3 := ha3.mono lF
   rw [eS (l := [(0, _)]) ⟨z9 0 rfl, ⟨⟩⟩]
   refine qj (qy [arv] ja qF rfl rfl (Rd.ownN [_] rfl rfl) ?_)
   exact ⟨rfl, rfl⟩
  refine gD (fun W Fs R lF z9 => ?_) ?_
  ·refine qj (qo (0) qC rfl qp (by decide) rfl rfl ?_)
   exact ⟨rfl, rfl⟩
  refine gD (fun W Fs R lF z9 => ?_) ?_
  ·replace har := har.mono lF
   replace hrs := hrs.mono lF
   replace htp := htp.mono lF
   replace hlf := hlf.mono lF
   replace ha3 := ha3.mono lF
   rw [eS (l := [(2, _)]) ⟨z9 2 rfl, ⟨⟩⟩]
   refine qj (qi qW rfl (Rd.own [] rfl rfl) ?_)
   exact ⟨rfl, rfl⟩
  refine gD (fun W Fs R lF z9 => ?_) ?_
  ·refine qj (qo (0) qK rfl qF (by decide) rfl rfl ?_)
   exact ⟨rfl, rfl⟩
  refine gD (fun W Fs R lF z9 => ?_) ?_
  ·replace har := har.mono lF
   replace hrs := hrs.mono lF
   replace htp := htp.mono lF
   replace hlf := hlf.mono lF
   replace ha3 := ha3.mono lF
   rw [eS (l := [(4, _)]) ⟨z9 4 rfl, ⟨⟩⟩]
   refine qj (qy [arv] ja qF rfl rfl (Rd.ownN [_] rfl rfl) ?_)
   exact ⟨rfl, rfl⟩
  refine gD (fun W Fs R lF z9 => ?_) ?_
  ·refine qj (ql (a3) rfl ?_)
   exact ⟨rfl, rfl⟩
  refine gD (fun W Fs R lF z9 => ?_) ?_
  ·refine qj (qo (3) qC rfl qm (by decide) rfl rfl ?_)
   exact ⟨rfl, rfl⟩
  refine gD (fun W Fs R lF z9 => ?_) ?_
  ·replace har := har.mono lF
   replace hrs := hrs.mono lF
   replace htp := htp.mono lF
   replace hlf := hlf.mono lF
   replace ha3 := ha3.mono lF
   rw [eS (l := [(7, _)]) ⟨z9 7 rfl, ⟨⟩⟩]
   refine qj (qi qQ rfl (Rd.own [] rfl rfl) ?_)
   exact ⟨rfl, rfl⟩
  refine gD (fun W Fs R lF z9 => ?_) ?_
  ·replace har := har.mono lF
   replace hrs := hrs.mono lF
   replace htp := htp.mono lF
   replace hlf := hlf.mono lF
   replace ha3 := ha3.mono lF
   rw [eS (l := [(5, _), (6, _), (8, _)]) ⟨z9 5 rfl, z9 6 rfl, z9 8 rfl, ⟨⟩⟩]
   refine qj (jR <| qr (args := [.agg #[arv], a3, ii (((a).toNat : Nat) : Int)]) call180 (by rw [show (((a).toNat : Nat) : Int) = a from by omega]; rfl) (pathTo_spec (x := (a).toNat) har ha3 (ho := (hRL (by omega))) (hx := (by omega))) ?_)
   rintro v4 _ _ _ ⟨rfl, hs4, rfl⟩
   refine ⟨_, _, rfl, fun F6 le6 hz2 => ?_⟩
   replace har := har.mono le6
   replace hrs := hrs.mono le6
   replace htp := htp.mono le6
   replace hlf := hlf.mono le6
   have hf2 : IntsF F6 v4 ((pathL ar ((rs.getD ((o).toNat) ([], [])).1) ((a).toNat))) := intsH.fz (xs := (pathL ar ((rs.getD ((o).toNat) ([], [])).1) ((a).toNat))) hz2.fz
   exact ⟨⟨rfl, hf2⟩, rfl⟩
  exact stepsG.nil
 intro W F7 le7 hphi
 obtain ⟨e9, f9_2ha⟩ := hphi 9 (by decide)
 generalize hu2 : ((W 9)) = u2 at e9 f9_2ha
 rw [eS (l := [(1, _), (3, _), (9, u2)]) ⟨(hphi 1 (by decide)), (hphi 3 (by decide)), hu2, ⟨⟩⟩]
 replace har := har.mono le7
 replace hrs := hrs.mono le7
 replace htp := htp.mono le7
 replace hlf := hlf.mono le7
 show XL _ _ _ _ _ _ _ (cellsH b2 [tpv, lfv, rtv, ii (a), ii (u), ii (o)] 76 :: cellsH b1 [arv, rsv] 32 :: L)
 refine cX (qr (args := [.agg #[arv], tpv, u2]) call179 rfl (PlaceOf_spec har htp f9_2ha (hlp := (by have := pathL_len ar (rs.getD o.toNat ([], [])).1 a.toNat; have := hRl (by omega); omega))) ?_)
 rintro _ _ _ _ ⟨rfl, rfl, rfl⟩
 refine qg (ii (placeL ar tp ((pathL ar ((rs.getD ((o).toNat) ([], [])).1) ((a).toNat))))) rfl (qb (qc (qa (cX (qy [arv, rsv] jF jp rfl rfl (Rd.ownN [_] rfl rfl) (cX (qo (0) qC rfl qp (by decide) rfl rfl (cX (qi qW rfl (Rd.own [] rfl rfl) (qf (ii (placeL ar tp ((pathL ar ((rs.getD ((o).toNat) ([], [])).1) ((a).toNat))))) rfl (cX (qo (4) qC rfl qm (by decide) rfl rfl (cX (qi qQ rfl (Rd.own [] rfl rfl) (cX (qr (args := [.agg #[arv, rsv], tpv, ii (placeL ar tp ((pathL ar ((rs.getD ((o).toNat) ([], [])).1) ((a).toNat)))), ii (u)]) call178 rfl (StepAt_spec (p := placeL ar tp ((pathL ar ((rs.getD ((o).toNat) ([], [])).1) ((a).toNat)))) (r := u) har hrs htp) ?_))))))))))))))))
 rintro _ F8 _ le8 ⟨x4, rfl, hr11, hr12, rfl⟩
 replace hlf := hlf.mono le8
 refine qf (.tuple #[x4, .bool ((stepAtL ar rs tp (placeL ar tp ((pathL ar ((rs.getD ((o).toNat) ([], [])).1) ((a).toNat)))) u).isSome)]) rfl (cX (qH (x4) rfl rfl (cX (qH (.bool ((stepAtL ar rs tp (placeL ar tp ((pathL ar ((rs.getD ((o).toNat) ([], [])).1) ((a).toNat)))) u).isSome)) rfl rfl (qg (x4) rfl (qg (.bool ((stepAtL ar rs tp (placeL ar tp ((pathL ar ((rs.getD ((o).toNat) ([], [])).1) ((a).toNat)))) u).isSome)) rfl (qb (qc (qa (qf (.bool ((stepAtL ar rs tp (placeL ar tp ((pathL ar ((rs.getD ((o).toNat) ([], [])).1) ((a).toNat)))) u).isSome)) rfl (qf (.bool ((stepAtL ar rs tp (placeL ar tp ((pathL ar ((rs.getD ((o).toNat) ([], [])).1) ((a).toNat)))) u).isSome)) rfl ?_)))))))))))
 by_cases h16 : ((stepAtL ar rs tp (placeL ar tp ((pathL ar ((rs.getD ((o).toNat) ([], [])).1) ((a).toNat)))) u).isSome) = true
 ·refine qk (t := 99) rfl (vB h16) (ql (x4) rfl (qk (t := 99) rfl (vB h16) (qo (1) qC rfl qp (by decide) rfl rfl (qk (t := 99) rfl (vB h16) (qi qW rfl (Rd.own [] rfl rfl) (qk (t := 99) rfl (vB h16) (qr (args := [x4, lfv]) call67 rfl (Equal_spec hr11 hlf (hbd := (by first | assumption | rfl | omega | (left; simp; done) | (right; simp; done)))) ?_)))))))
  rintro _ _ _ _ ⟨rfl, rfl, rfl⟩
  refine cX (qN (.bool (decide (((stepAtL ar rs tp (placeL ar tp ((pathL ar ((rs.getD ((o).toNat) ([], [])).1) ((a).toNat)))) u).getD []) = lf))) (vB h16) rfl (qg (.bool (decide (((stepAtL ar rs tp (placeL ar tp ((pathL ar ((rs.getD ((o).toNat) ([], [])).1) ((a).toNat)))) u).getD []) = lf))) rfl (qb (qw (qv (L' := L) [.bool (decide (((stepAtL ar rs tp (placeL ar tp ((pathL ar ((rs.getD ((o).toNat) ([], [])).1) ((a).toNat)))) u).getD []) = lf))] (.bool (decide (((stepAtL ar rs tp (placeL ar tp ((pathL ar ((rs.getD ((o).toNat) ([], [])).1) ((a).toNat)))) u).getD []) = lf))) (.tmp rfl .nil) rfl rF (qh (qh le5 le7) le8) (sD (sD sR)) ?_)))))
  exact ⟨(vB (by rw [Bool.eq_iff_iff, peakL_iff, decide_eq_true_eq]; exact ⟨fun h => (getD_some (by assumption)).1 h.2.2.2, fun h => ⟨hsys, peakArgs_iff.2 (by omega), (getD_some hst1).2 hst2, (getD_some (by assumption)).2 h⟩⟩)), rfl, rfl⟩
 rw [Bool.not_eq_true] at h16
 refine qn (t := 99) rfl (vB h16) (qn (t := 99) rfl (vB h16) (qn (t := 99) rfl (vB h16) (qn (t := 99) rfl (vB h16) (cX (qG (.bool (false)) (vB h16) rfl (qg (.bool (false)) rfl (qb (qw (qv (L' := L) [.bool (false)] (.bool (false)) (.tmp rfl .nil) rfl rF (qh (qh le5 le7) le8) (sD (sD sR)) ?_)))))))))
 exact ⟨(vB (peakL_no (fun h => opt_no1 (by assumption) h.2.2.2))), rfl, rfl⟩

/- impl.PeakOk -/
theorem PeakOk_spec {F : FH} {L : List HP} {arv : Value} {ar : List Int} (har : IntsF F arv ar) {rsv : Value} {rs : List (List Int × List Int)} (hrs : PairsF F rsv rs) {tpv : Value} {tp : List Int} (htp : IntsF F tpv tp) {lfv : Value} {lf : List Int} (hlf : IntsF F lfv lf) {rtv : Value} {rt : List Int} (hrt : IntsF F rtv rt) {a : Int} {u : Int} {o : Int} (hll0 : lf.length ≤ 4000000) (hlr0 : rt.length ≤ 4000000) :
    Does prog 52 [.agg #[arv, rsv], .agg #[tpv, lfv, rtv, ii (a), ii (u), ii (o)]] F (L) (fun v F' L' => (.bool (peakL ar rs tp lf rt a u o) : Value) = v ∧ F = F' ∧ L = L') := by
 refine qI func52 rfl rfl rfl (qc (qa (cX (jc [arv, rsv] rfl rfl ?_))))
 intro b1
 refine cX (jc [tpv, lfv, rtv, ii (a), ii (u), ii (o)] rfl rfl ?_)
 intro b2
 refine qg (.bool (false)) rfl (qb (qc (qa (cX (qy [arv, rsv] jF jp rfl rfl (Rd.ownN [_] rfl rfl) (cX (qr (args := [.agg #[arv, rsv]]) call97 rfl (SystemOk_spec har hrs) ?_)))))))
 rintro _ _ _ _ ⟨rfl, rfl, rfl⟩
 refine qf (.bool (sysOk ar rs)) rfl ?_
 by_cases h1 : (sysOk ar rs) = true
 ·refine qk (t := 7) rfl (vB h1) (qy [arv, rsv] jF jp rfl rfl (Rd.ownN [_] rfl rfl) (qk (t := 7) rfl (vB h1) (qy [tpv, lfv, rtv, ii (a), ii (u), ii (o)] jM jk rfl rfl (Rd.ownN [] rfl rfl) (qk (t := 7) rfl (vB h1) (qr (args := [.agg #[arv, rsv], .agg #[tpv, lfv, rtv, ii (a), ii (u), ii (o)]]) call117 rfl (peakOk_spec har hrs htp hlf hrt (hsys := (by first | assumption | rfl | omega | simp)) (hll0 := (by first | assumption | rfl | omega | simp)) (hlr0 := (by first | assumption | rfl | omega | simp))) ?_)))))
  rintro _ _ _ _ ⟨rfl, rfl, rfl⟩
  refine cX (qN (.bool (peakL ar rs tp lf rt a u o)) (vB h1) rfl (qg (.bool (peakL ar rs tp lf rt a u o)) rfl (qb (qw (qv (L' := L) [.bool (peakL ar rs tp lf rt a u o)] (.bool (peakL ar rs tp lf rt a u o)) (.tmp rfl .nil) rfl rF rF (sD (sD sR)) ?_)))))
  exact ⟨rfl, rfl, rfl⟩
 rw [Bool.not_eq_true] at h1
 refine qn (t := 7) rfl (vB h1) (qn (t := 7) rfl (vB h1) (qn (t := 7) rfl (vB h1) (cX (qG (.bool (false)) (vB h1) rfl (qg (.bool (false)) rfl (qb (qw (qv (L' := L) [.bool (false)] (.bool (false)) (.tmp rfl .nil) rfl rF rF (sD (sD sR)) ?_))))))))
 exact ⟨(vB (peakL_no (fun h => by have := h.1; simp_all))), rfl, rfl⟩
end Go.Proofs.Ytcdjpapjjoldeaa
