/-
  Walks, one after the other (part 2).
-/
import Derived.Test.YtjpfankibmeaaaaGreatQABL1
import Derived.Test.YtjpfankibmeaaaaGreatQABB0
import Derived.Recover
import Derived.Tactics
import Derived.Tactics2
set_option linter.unusedSimpArgs false
set_option linter.unusedVariables false
namespace Go.Proofs.YtjpfankibmeaaaaGreat
open Go X M Tryz

/- spec.l7Right -/
theorem l7Right_spec {F : FH} {L : List HP} {arv : Value} {ar : List Int} (har : IntsF F arv ar) {rsv : Value} {rs : List (List Int × List Int)} (hrs : PairsF F rsv rs) {tv : Value} {t : List Int} (ht : IntsF F tv t) (hla : ar.length ≤ 4000000) (hlr : rs.length ≤ 4000000) (hrb : ∀ i, i < rs.length → (rs.getD i ([], [])).1.length ≤ 4000000 ∧ (rs.getD i ([], [])).2.length ≤ 4000000) (hlt : t.length ≤ 4000000) :
    Does prog 107 [.agg #[arv, rsv], tv] F (L) (fun v F' L' => (.bool (rightB ar rs t) : Value) = v ∧ F = F' ∧ L = L') := by
 refine qC func107 rfl rfl rfl (qc (qa (cX (qI [arv, rsv] rfl rfl ?_))))
 intro b1
 refine qd (.bool (false)) rfl (qb (qc (qa (cX (qr [arv, rsv] jG jz rfl rfl (Rd.ownN [] rfl rfl) (cX (qq (args := [.agg #[arv, rsv]]) call82 rfl (sSystemOk_spec har hrs (hla := (by first | assumption | rfl | omega | simp)) (hlr := (by first | assumption | rfl | omega | simp)) (hrb := (by first | assumption | rfl | omega | simp))) ?_)))))))
 rintro _ _ _ _ ⟨rfl, rfl, rfl⟩
 refine qg (.bool (sysOk ar rs)) rfl ?_
 by_cases h1 : (sysOk ar rs) = true
 ·refine qn (t := 7) rfl (vB h1) (qj (0) qU rfl qH (by decide) rfl rfl (qn (t := 7) rfl (vB h1) (qr [arv] qZ qH rfl rfl (Rd.ownN [] rfl rfl) (qn (t := 7) rfl (vB h1) (qo (tv) rfl (qn (t := 7) rfl (vB h1) (qq (args := [.agg #[arv], tv]) call202 rfl (sTermOk_spec har ht (hla := (by first | assumption | rfl | omega | simp)) (hlt := (by first | assumption | rfl | omega | simp))) ?_)))))))
  rintro _ _ _ _ ⟨rfl, rfl, rfl⟩
  refine cX (qT (.bool (termOk ar t)) (vB h1) rfl (qd (.bool (termOk ar t)) rfl (qb (qp (ql (L' := L) [.bool (termOk ar t)] (.bool (termOk ar t)) (.tmp rfl .nil) rfl rF rF (sD sR) ?_)))))
  exact ⟨(vB (by rw [rightB]; simp_all)), rfl, rfl⟩
 rw [Bool.not_eq_true] at h1
 refine qm (t := 7) rfl (vB h1) (qm (t := 7) rfl (vB h1) (qm (t := 7) rfl (vB h1) (qm (t := 7) rfl (vB h1) (cX (qP (.bool (false)) (vB h1) rfl (qd (.bool (false)) rfl (qb (qp (ql (L' := L) [.bool (false)] (.bool (false)) (.tmp rfl .nil) rfl rF rF (sD sR) ?_)))))))))
 exact ⟨(vB (by rw [rightB]; simp_all)), rfl, rfl⟩

/- spec.l2Filled -/
theorem l2Filled_spec {F : FH} {L : List HP} {sv : Value} {s : List (List Int)} (hs : RowsF F sv s) {tv : Value} {t : List Int} (ht : IntsF F tv t) (hsl : s.length ≤ 4000000) (hsb : ∀ i, (s.getD i []).length ≤ 4000000) (htl : t.length ≤ 4000000) (htg : ∀ k, k < t.length → -4000000 ≤ t.getD k 0) :
    Does prog 154 [.agg #[sv], tv] F (L) (fun v F' L' => ∃ (a : Value), (.tuple #[a, .bool ((fillL s t).isSome)] : Value) = v ∧ (IntsF F' a ((fillL s t).getD [])) ∧ L = L') := by
 refine qC func154 rfl rfl rfl (qc (qa (cX (qI [sv] rfl rfl ?_))))
 intro b1
 refine qd (sN) rfl (qd (.bool (false)) rfl (qb (qc (qa (cX (ja (s := 1) [] [ii (0)] [] qf qy jr rfl (by decide) rfl CellsAre.nil rfl ?_))))))
 intro v1 hv1
 refine qd (v1) rfl (qb (qc (qc (qa (qd (ii (0)) rfl (qb (qG (jd (α := Nat × Value × List Int) (fun xQ => [(1, tv), (2, ptr b1 0), (6, xQ.2.1), (7, ii (((xQ.1 : Nat) : Int)))]) (fun xQ => intsH 2 xQ.2.1 xQ.2.2 :: cellsH b1 [sv] 137 :: L) (fun xQ F' => F = F' ∧ (IsSl xQ.2.1) ∧ (xQ.1 ≤ t.length) ∧ (fillL s t = fillGo s (t.drop xQ.1) xQ.2.2) ∧ (xQ.2.2.length ≤ 60)) (fun xQ => t.length - xQ.1) (0, v1, []) ⟨rfl, rfl, rfl, rfl, ⟨⟩⟩ (sC (sC sR)) ⟨rfl, ((isSl_lit hv1)), (by (try dsimp only) <;> omega), (rfl), (by simp)⟩ ?_))))))))
 rintro ⟨k, ov, os⟩ rE _ _ ⟨rfl, hov, hk, hm, hol⟩
 show X _ _ _ _ (envs [(1, tv), (2, ptr b1 0), (6, ov), (7, ii ((k : Int)))] rE) _ (intsH 2 ov os :: cellsH b1 [sv] 137 :: L)
 dsimp only at hov hk hm hol
 have htk := htg k
 have hlk0 := lk_bound (N := 4000000) (by omega) hsb (-1 - (((-1 - t.getD k 0).toNat : Nat) : Int))
 refine qc (qc (qa (qg (ii ((k : Int))) rfl (qg (tv) rfl (cX (qB qf rfl ht.slv (cX (qK rfl rfl (qb ?_)))))))))
 refine qw (p := (k : Int) < (t.length : Int)) rfl (fun h1 => ?_) (fun h1 => ?_)
 ·refine qx (qc (qG (qc (qc (qa (qg (tv) rfl (qg (ii ((k : Int))) rfl (cX (qv k qf qy rfl rfl rfl ht.slv (by omega) (Nat.mul_one _) (cX (qh qQ rfl (ht.rd (by omega)) (cX (qK rfl rfl (qb ?_))))))))))))))
  refine qw (p := (t.getD k 0 : Int) < 0) rfl (fun h2 => ?_) (fun h2 => ?_)
  ·refine X.drawG [intsH 2 ov os, cellsH b1 [sv] 137] L 8 [] [[], [], [], [], [2, 3], [4], [5], [1, 6]] [] (phiG [pe ov, pe (.agg #[sv]), pe tv, pe (ii ((k : Int)) : Value), pe (.pointer (some (elemA tv (k)))), pe (ii (t.getD k 0)), pe (ii ((-1) - (t.getD k 0))), fun FF us v => ((v) : Value) = v ∧ (IntsF FF (v) (lk s (-1 - ((((-1) - (t.getD k 0)).toNat) : Int))))]) (ownL []) mixed rfl rfl (by kernel_rfl) (by kernel_rfl) (MonoG.get (m1 (m1 (m1 (m1 (m1 (m1 (m1 (mC (fun le h => ⟨h.1, h.2.mono le⟩) MonoG.nil))))))))) ?_ ?_
   ·refine gD (fun W Fs R lF z9 => ?_) ?_
    ·refine qk (qo (ov) rfl ?_)
     exact ⟨rfl, rfl⟩
    refine gD (fun W Fs R lF z9 => ?_) ?_
    ·replace hs := hs.mono lF
     replace ht := ht.mono lF
     refine qk (qr [sv] jH jk rfl rfl (Rd.ownN [_] rfl rfl) ?_)
     exact ⟨rfl, rfl⟩
    refine gD (fun W Fs R lF z9 => ?_) ?_
    ·refine qk (qo (tv) rfl ?_)
     exact ⟨rfl, rfl⟩
    refine gD (fun W Fs R lF z9 => ?_) ?_
    ·refine qk (qo (ii ((k : Int))) rfl ?_)
     exact ⟨rfl, rfl⟩
    refine gD (fun W Fs R lF z9 => ?_) ?_
    ·replace hs := hs.mono lF
     replace ht := ht.mono lF
     rw [eS (l := [(2, _), (3, _)]) ⟨z9 2 rfl, z9 3 rfl, ⟨⟩⟩]
     refine qk (qv k qf qy rfl rfl rfl ht.slv (by omega) (Nat.mul_one _) ?_)
     exact ⟨rfl, rfl⟩
    refine gD (fun W Fs R lF z9 => ?_) ?_
    ·replace hs := hs.mono lF
     replace ht := ht.mono lF
     rw [eS (l := [(4, _)]) ⟨z9 4 rfl, ⟨⟩⟩]
     refine qk (qh qQ rfl (ht.rd (by omega)) ?_)
     exact ⟨rfl, rfl⟩
    refine gD (fun W Fs R lF z9 => ?_) ?_
    ·rw [eS (l := [(5, _)]) ⟨z9 5 rfl, ⟨⟩⟩]
     refine qk (jo ((-1) - (t.getD k 0)) rfl rfl (by omega) (by omega) ?_)
     exact ⟨rfl, rfl⟩
    refine gD (fun W Fs R lF z9 => ?_) ?_
    ·replace hs := hs.mono lF
     replace ht := ht.mono lF
     rw [eS (l := [(1, _), (6, _)]) ⟨z9 1 rfl, z9 6 rfl, ⟨⟩⟩]
     refine qk (XOp.frzF <| qq (args := [.agg #[sv], ii ((((-1) - (t.getD k 0)).toNat : Nat) : Int)]) call184 (by rw [show ((((-1) - (t.getD k 0)).toNat : Nat) : Int) = (-1) - (t.getD k 0) from by omega]; rfl) (l2Gives_spec (i := ((-1) - (t.getD k 0)).toNat) hs (hsl := (by first | assumption | rfl | omega | simp)) (hi := (by first | assumption | rfl | omega | simp)) (hsb := (hsb _))) ?_)
     rintro v3 _ _ _ ⟨rfl, hs2, rfl⟩
     refine ⟨_, _, rfl, fun F1 le1 hz1 => ?_⟩
     replace ht := ht.mono le1
     have hf1 : IntsF F1 v3 ((lk s (-1 - ((((-1) - (t.getD k 0)).toNat) : Int)))) := intsH.fz (xs := (lk s (-1 - ((((-1) - (t.getD k 0)).toNat) : Int)))) hz1.fz
     exact ⟨⟨rfl, hf1⟩, rfl⟩
    exact stepsG.nil
   intro W F2 le2 hphi
   obtain ⟨e7, f7_1ha⟩ := hphi 7 (by decide)
   generalize hu1 : ((W 7)) = u1 at e7 f7_1ha
   rw [eS (l := [(0, _), (7, u1)]) ⟨(hphi 0 (by decide)), hu1, ⟨⟩⟩]
   replace ht := ht.mono le2
   show XL _ _ _ _ _ _ _ (intsH 2 ov os :: cellsH b1 [sv] 137 :: L)
   refine cX (XOp.appendI [] _ qf typeInfo2 rfl rfl rfl rfl rfl rfl f7_1ha (by (try simp only [List.length_append, List.length_nil, List.length_cons, List.length_singleton, List.length_take, List.length_drop]); omega) ?_)
   intro v4 hs3 hn1 hm1
   refine qd (v4) rfl (qb (qc (qa (qg (v4) rfl (cX (qB qf rfl (intsH.slv [] rfl) (cX (jn rfl rfl (qb ?_)))))))))
   refine qw (p := ((((os ++ ((lk s (-1 - ((((-1) - (t.getD k 0)).toNat) : Int))))).length : Nat) : Int) : Int) > 60) rfl (fun h3 => ?_) (fun h3 => ?_)
   ·refine qc (qa (cX (ja (s := 1) [] [ii (0)] [] qf qy jr rfl (by decide) rfl CellsAre.nil rfl ?_)))
    intro v5 hv2
    refine qd (v5) rfl (qd (.bool (false)) rfl (qb ?_))
    show X _ _ _ _ _ _ (intsH 2 v5 ([] : List Int) :: intsH 2 v4 (os ++ ((lk s (-1 - ((((-1) - (t.getD k 0)).toNat) : Int))))) :: cellsH b1 [sv] 137 :: L)
    refine ju [] _ _ rfl (fun F3 le3 hz2 => ?_)
    replace ht := ht.mono le3
    have hf2 : IntsF F3 v5 ([]) := intsH.fz (xs := []) hz2.fz
    refine qp (qA (qi (qi (qA (qi (ql (L' := L) [v5, .bool (false)] (.tuple #[v5, .bool (false)]) (.tmp rfl (.tmp rfl .nil)) rfl (qD le2 le3) rF (sD (sD sR)) ?_))))))
    have hz : fillL s t = none := hm.trans (fillGo_long (a := os ++ ((lk s (-1 - ((((-1) - (t.getD k 0)).toNat) : Int))))) (by omega) (by rw [show (-1 - (((-1 - t.getD k 0).toNat : Nat) : Int)) = t.getD k 0 from by omega]) (by omega))
    exact ⟨_, by rw [hz]; rfl, by rw [hz]; exact hf2, rfl⟩
   refine qx (qa (qg (ii ((k : Int))) rfl (cX (qN (((k + 1 : Nat) : Int)) rfl rfl (by omega) (by omega) (qd (ii (((k + 1 : Nat) : Int))) rfl (qb ?_))))))
   exact ⟨(k + 1, v4, os ++ ((lk s (-1 - ((((-1) - (t.getD k 0)).toNat) : Int))))), _, FLe.refl _, le2, ⟨rfl, rfl, rfl, rfl, ⟨⟩⟩, (sC (sC sR)), ⟨rfl, (hs3), (by (try dsimp only) <;> omega), (by dsimp only; exact hm.trans (fillGo_next (by omega) (by rw [show (-1 - (((-1 - t.getD k 0).toNat : Nat) : Int)) = t.getD k 0 from by omega]) (by omega))), (by dsimp only; omega)⟩, (by omega)⟩
  refine qa (qg (ov) rfl (qg (tv) rfl (qg (ii ((k : Int))) rfl (cX (qv k qf qy rfl rfl rfl ht.slv (by omega) (Nat.mul_one _) (cX (qh qQ rfl (ht.rd (by omega)) (cX (ja (s := 1) [ii (t.getD k 0)] [ii (0)] [(0, [ii (t.getD k 0)])] qf qy jr rfl (by decide) rfl (.cons rfl CellsAre.nil) rfl ?_)))))))))
  intro v6 hv3
  refine cX (XOp.append1 (u := t.getD k 0) [_] _ qf typeInfo2 rfl rfl rfl rfl rfl rfl (SlV.own [] rfl) (Rd.sl [] rfl rfl) (by (try simp only [List.length_append, List.length_nil, List.length_cons, List.length_singleton, List.length_take, List.length_drop]); omega) ?_)
  intro v7 hs4 hn2
  refine qd (v7) rfl (qb (qc (qa (qg (v7) rfl (cX (qB qf rfl (intsH.slv [_] rfl) (cX (jn rfl rfl (qb ?_)))))))))
  refine qw (p := ((((os ++ [t.getD k 0]).length : Nat) : Int) : Int) > 60) rfl (fun h4 => ?_) (fun h4 => ?_)
  ·refine qc (qa (cX (ja (s := 1) [] [ii (0)] [] qf qy jr rfl (by decide) rfl CellsAre.nil rfl ?_)))
   intro v8 hv4
   refine qd (v8) rfl (qd (.bool (false)) rfl (qb ?_))
   show X _ _ _ _ _ _ (intsH 2 v8 ([] : List Int) :: slH 2 1 v6 1 [ii (t.getD k 0)] :: intsH 2 v7 (os ++ [t.getD k 0]) :: cellsH b1 [sv] 137 :: L)
   refine ju [] _ _ rfl (fun F4 le4 hz3 => ?_)
   have hf3 : IntsF F4 v8 ([]) := intsH.fz (xs := []) hz3.fz
   refine qp (qA (qi (qi (qA (qi (ql (L' := L) [v8, .bool (false)] (.tuple #[v8, .bool (false)]) (.tmp rfl (.tmp rfl .nil)) rfl le4 rF (sD (sD (sD sR))) ?_))))))
   have hz : fillL s t = none := hm.trans (fillGo_long (a := os ++ [t.getD k 0]) (by omega) (by rw [lk_sym (by omega)]) (by omega))
   exact ⟨_, by rw [hz]; rfl, by rw [hz]; exact hf3, rfl⟩
  refine qx (qa (qg (ii ((k : Int))) rfl (cX (qN (((k + 1 : Nat) : Int)) rfl rfl (by omega) (by omega) (qd (ii (((k + 1 : Nat) : Int))) rfl (qb ?_))))))
  exact ⟨(k + 1, v7, os ++ [t.getD k 0]), _, FLe.refl _, rF, ⟨rfl, rfl, rfl, rfl, ⟨⟩⟩, (sD (sC (sC sR))), ⟨rfl, (hs4), (by (try dsimp only) <;> omega), (by dsimp only; exact hm.trans (fillGo_next (by omega) (by rw [lk_sym (by omega)]) (by omega))), (by dsimp only; omega)⟩, (by omega)⟩
 refine jb (qu (qu (qJ (qc (qa (qg (ov) rfl (qd (ov) rfl (qd (.bool (true)) rfl (qb (ju [] _ _ rfl (fun F5 le5 hz4 => ?_)))))))))))
 have hf4 : IntsF F5 ov os := intsH.fz (xs := os) hz4.fz
 refine qp (ql (L' := L) [ov, .bool (true)] (.tuple #[ov, .bool (true)]) (.tmp rfl (.tmp rfl .nil)) rfl le5 rF (sD sR) ?_)
 have hz : fillL s t = some os := hm.trans (fillGo_done (by omega))
 exact ⟨_, by rw [hz]; rfl, by rw [hz]; exact hf4, rfl⟩

/- spec.l3Put -/
theorem l3Put_spec {F : FH} {L : List HP} {arv : Value} {ar : List Int} (har : IntsF F arv ar) {tv : Value} {t : List Int} (ht : IntsF F tv t) {p : Nat} {uv : Value} {u : List Int} (hu : IntsF F uv u) (ho : termOk ar t = true) (hp : p < t.length) (hul : u.length ≤ 4000000) :
    Does prog 155 [.agg #[arv], tv, ii ((p : Int)), uv] F (L) (fun v F' L' => ∃ (a : Value), (.tuple #[a, .bool ((putL ar t p u).isSome)] : Value) = v ∧ (IntsF F' a ((putL ar t p u).getD [])) ∧ L = L') := by
 refine qC func155 rfl rfl rfl ?_
 have hsig := termOk_sig ho
 have hsl := sigOk_spec hsig
 have htl := termOk_len ho
 have hee := endN_spec ho hp
 refine qc (qa (cX (qI [arv] rfl rfl ?_)))
 intro b1
 refine qd (sN) rfl (qd (.bool (false)) rfl (qb (qc (qa (qg (tv) rfl (qg (ii ((p : Int))) rfl (cX (XOp.sliceI 0 p qf qy rfl ht rfl ⟨_, rfl⟩ (by omega) (by omega) ?_))))))))
 intro v1 hv1 hn1
 refine cX (qq (args := [v1]) call105 rfl (l1Copy_spec hv1 (hlt := (by simp; omega))) ?_)
 rintro v2 _ _ _ ⟨rfl, hs1, rfl⟩
 refine qg (uv) rfl (cX (XOp.appendI [] _ qf typeInfo2 rfl rfl rfl rfl rfl rfl hu (by (try simp only [List.length_append, List.length_nil, List.length_cons, List.length_singleton, List.length_take, List.length_drop]); omega) ?_))
 intro v3 hs2 hn2 hm1
 refine qd (v3) rfl (qb (qc (qa (qg (v3) rfl (qg (tv) rfl (cX (qr [arv] qZ qH rfl rfl (Rd.ownN [_] rfl rfl) (qg (tv) rfl (qg (ii ((p : Int))) rfl (cX (qq (args := [.agg #[arv], tv, ii (p : Int)]) call208 rfl (l1End_ok (p := p) har ht (ho := (by first | assumption | rfl | omega | (left; simp; done) | (right; simp; done))) (hp := (by first | assumption | rfl | omega | (left; simp; done) | (right; simp; done)))) ?_)))))))))))
 rintro _ _ _ _ ⟨rfl, rfl, rfl⟩
 refine cX (XOp.sliceI (endN ar t p) ((t).length) qf qy rfl ht ⟨_, rfl⟩ rfl (by omega) (by omega) ?_)
 intro v4 hv2 hn3
 refine cX (XOp.appendI [] _ qf typeInfo2 rfl rfl rfl rfl rfl rfl hv2 (by (try simp only [List.length_append, List.length_nil, List.length_cons, List.length_singleton, List.length_take, List.length_drop]); omega) ?_)
 intro v5 hs3 hn4 hm2
 refine qd (v5) rfl (qb (qc (qc (qa (qg (v5) rfl (cX (qB qf rfl (intsH.slv [] rfl) (cX (jn rfl rfl (qb ?_))))))))))
 refine qw (p := ((((((((((t.drop 0).take (p - 0))))) ++ u) ++ (((t.drop (endN ar t p)).take (((t).length) - (endN ar t p))))).length : Nat) : Int) : Int) > 60) rfl (fun h1 => ?_) (fun h1 => ?_)
 ·refine qc (qa (cX (ja (s := 1) [] [ii (0)] [] qf qy jr rfl (by decide) rfl CellsAre.nil rfl ?_)))
  intro v6 hv3
  refine qd (v6) rfl (qd (.bool (false)) rfl (qb ?_))
  show X _ _ _ _ _ _ (intsH 2 v6 ([] : List Int) :: intsH 2 v5 (((((((t.drop 0).take (p - 0))))) ++ u) ++ (((t.drop (endN ar t p)).take (((t).length) - (endN ar t p))))) :: cellsH b1 [arv] 36 :: L)
  refine ju [] _ _ rfl (fun F1 le1 hz1 => ?_)
  have hf1 : IntsF F1 v6 ([]) := intsH.fz (xs := []) hz1.fz
  refine qp (qi (ql (L' := L) [v6, .bool (false)] (.tuple #[v6, .bool (false)]) (.tmp rfl (.tmp rfl .nil)) rfl le1 rF (sD (sD sR)) ?_))
  have hz : putL ar t p u = none := putL_none put_three (by omega)
  exact ⟨_, by rw [hz]; rfl, by rw [hz]; exact hf1, rfl⟩
 refine qx (qc (qa (qg (v5) rfl (qd (v5) rfl (qd (.bool (true)) rfl (qb (ju [] _ _ rfl (fun F2 le2 hz2 => ?_))))))))
 have hf2 : IntsF F2 v5 (((((((t.drop 0).take (p - 0))))) ++ u) ++ (((t.drop (endN ar t p)).take (((t).length) - (endN ar t p))))) := intsH.fz (xs := ((((((t.drop 0).take (p - 0))))) ++ u) ++ (((t.drop (endN ar t p)).take (((t).length) - (endN ar t p))))) hz2.fz
 refine qp (ql (L' := L) [v5, .bool (true)] (.tuple #[v5, .bool (true)]) (.tmp rfl (.tmp rfl .nil)) rfl le2 rF (sD sR) ?_)
 have hz := putL_some (ar := ar) (t := t) (p := p) (u := u) put_three (by omega)
 exact ⟨_, by rw [hz]; rfl, by rw [hz]; exact hf2, rfl⟩

/- spec.l7Step -/
theorem l7Step_spec {F : FH} {L : List HP} {arv : Value} {ar : List Int} (har : IntsF F arv ar) {rsv : Value} {rs : List (List Int × List Int)} (hrs : PairsF F rsv rs) {tv : Value} {t : List Int} (ht : IntsF F tv t) {p : Nat} {r : Nat} (hsys : sysOk ar rs = true) (ho : termOk ar t = true) (hp : p < t.length) (hr : r < rs.length) :
    Does prog 110 [.agg #[arv, rsv], tv, ii ((p : Int)), ii ((r : Int))] F (L) (fun v F' L' => ∃ (a : Value), (.tuple #[a, .bool ((stepL ar rs t p r).isSome)] : Value) = v ∧ (IntsF F' a ((stepL ar rs t p r).getD [])) ∧ L = L') := by
 refine qC func110 rfl rfl rfl ?_
 have hnn := notNil_of_pos ht (by have := termOk_len ho; omega)
 have htl := termOk_len ho
 have hrl := (sysOk_iff.1 hsys).2.1
 have hsig := (sysOk_iff.1 hsys).1
 have hsl := sigOk_spec hsig
 have hR := ruleOk_iff.1 ((sysOk_iff.1 hsys).2.2 r hr)
 have hRl := hR.left
 have hRr := hR.right
 have hso := sub_ok ho hp
 have hsb := sub_length ho hp
 have hee := endN_spec ho hp
 have hRrl := termOk_len hRr
 have hRg := fun k (hk : k < (rs.getD r ([], [])).2.length) => termOk_ge hRr hk
 have hmp := matchP_len (ar := ar) (p := (rs.getD r ([], [])).1) (t := sub ar t p)
 have hmp2 := hmp.2
 have hmp3 := hmp.1
 refine qc (qa (cX (qI [arv, rsv] rfl rfl ?_)))
 intro b1
 refine qd (sN) rfl (qd (.bool (false)) rfl (qb (qc (qa (cX (qj (1) qU rfl jJ (by decide) rfl rfl (cX (qh isAgg37 rfl (Rd.own [] rfl rfl) (qg (ii ((r : Int))) rfl (cX (qv r ji jy rfl rfl rfl hrs.slv (by omega) rfl ?_)))))))))))
 obtain ⟨a1, a2, ha1, ha2, hr1, hr2⟩ := hrs.rd (i := r) (by omega)
 refine cX (qr [a1, a2] isAgg76 jy rfl rfl (Rd.two (hr1 _) (hr2 _)) (cX (qY [sN, sN] zeroValue76 rfl ?_)))
 intro b2
 refine cX (qL [] _ [a1, a2] jy rfl rfl rfl (qz (qW (qM ha1)) (qz (qW (qM ha2)) qS)) rfl rfl rfl (qb (qc ?_)))
 refine X.drawG [cellsH b2 [a1, a2] 76, cellsH b1 [arv, rsv] 39] L 15 [[], [], [], [], [], [], [], [], [], [], [9], [9], [], [], [9, 13]] [[], [0], [], [2], [], [4], [], [], [5, 6, 7], [1, 3, 8], [9], [9, 10], [9, 10], [], [9, 11, 13]] [[], [], [], [], [], [], [], [], [], [], [], [], [], [], [13]] (phiG [pe (ptr b1 0), pe (.agg #[arv]), pe (ptr b2 0), pe a1, pe (ptr b1 0), pe (.agg #[arv]), pe tv, pe (ii ((p : Int)) : Value), fun FF us v => ((v) : Value) = v ∧ (IntsF FF (v) (sub ar t p)), fun FF us v => (.tuple #[.agg #[((aggAt (tupAt v 0) 0))], .bool ((matchB ar ((rs.getD r ([], [])).1) ((sub ar t p))).isSome)] : Value) = v ∧ (RowsF FF ((aggAt (tupAt v 0) 0)) (matchP ar ((rs.getD r ([], [])).1) ((sub ar t p)))), fun FF us v => v = (.tuple #[.agg #[((aggAt (tupAt (us.getD 0 undef) 0) 0))], .bool ((matchB ar ((rs.getD r ([], [])).1) ((sub ar t p))).isSome)] : Value), fun FF us v => v = (.agg #[((aggAt (tupAt (us.getD 0 undef) 0) 0))] : Value), pe (.bool ((matchB ar ((rs.getD r ([], [])).1) ((sub ar t p))).isSome)), fun FF us v => v = ptr (blk v) 0, fun FF us v => True]) (ownL [o0, o0, o0, o0, o0, o0, o0, o0, o0, o0, o0, o0, o0, fun us v => [cellsH (blk v) [sN] 137], fun us v => [cellsH (blk (us.getD 1 undef)) [((aggAt (tupAt (us.getD 0 undef) 0) 0))] 137]]) mixed rfl rfl (by kernel_rfl) (by kernel_rfl) (MonoG.get (m1 (m1 (m1 (m1 (m1 (m1 (m1 (m1 (mC (fun le h => ⟨h.1, h.2.mono le⟩) (mC (fun le h => ⟨h.1, h.2.mono le⟩) (mC (fun le h => h) (mC (fun le h => h) (m1 (mC (fun le h => h) (mC (fun le h => h) MonoG.nil)))))))))))))))) ?_ ?_
 ·refine gD (fun W Fs R lF z9 => ?_) ?_
  ·refine qk (qj (0) qU rfl qH (by decide) rfl rfl ?_)
   exact ⟨rfl, rfl⟩
  refine gD (fun W Fs R lF z9 => ?_) ?_
  ·replace har := har.mono lF
   replace ht := ht.mono lF
   replace ha1 := ha1.mono lF
   replace ha2 := ha2.mono lF
   rw [eS (l := [(0, _)]) ⟨z9 0 rfl, ⟨⟩⟩]
   refine qk (qr [arv] qZ qH rfl rfl (Rd.ownN [_] rfl rfl) ?_)
   exact ⟨rfl, rfl⟩
  refine gD (fun W Fs R lF z9 => ?_) ?_
  ·refine qk (qj (0) jc rfl qs (by decide) rfl rfl ?_)
   exact ⟨rfl, rfl⟩
  refine gD (fun W Fs R lF z9 => ?_) ?_
  ·replace har := har.mono lF
   replace ht := ht.mono lF
   replace ha1 := ha1.mono lF
   replace ha2 := ha2.mono lF
   rw [eS (l := [(2, _)]) ⟨z9 2 rfl, ⟨⟩⟩]
   refine qk (qh qF rfl (Rd.own [] rfl rfl) ?_)
   exact ⟨rfl, rfl⟩
  refine gD (fun W Fs R lF z9 => ?_) ?_
  ·refine qk (qj (0) qU rfl qH (by decide) rfl rfl ?_)
   exact ⟨rfl, rfl⟩
  refine gD (fun W Fs R lF z9 => ?_) ?_
  ·replace har := har.mono lF
   replace ht := ht.mono lF
   replace ha1 := ha1.mono lF
   replace ha2 := ha2.mono lF
   rw [eS (l := [(4, _)]) ⟨z9 4 rfl, ⟨⟩⟩]
   refine qk (qr [arv] qZ qH rfl rfl (Rd.ownN [_] rfl rfl) ?_)
   exact ⟨rfl, rfl⟩
  refine gD (fun W Fs R lF z9 => ?_) ?_
  ·refine qk (qo (tv) rfl ?_)
   exact ⟨rfl, rfl⟩
  refine gD (fun W Fs R lF z9 => ?_) ?_
  ·refine qk (qo (ii ((p : Int))) rfl ?_)
   exact ⟨rfl, rfl⟩
  refine gD (fun W Fs R lF z9 => ?_) ?_
  ·replace har := har.mono lF
   replace ht := ht.mono lF
   replace ha1 := ha1.mono lF
   replace ha2 := ha2.mono lF
   rw [eS (l := [(5, _), (6, _), (7, _)]) ⟨z9 5 rfl, z9 6 rfl, z9 7 rfl, ⟨⟩⟩]
   refine qk (XOp.frzF <| qq (args := [.agg #[arv], tv, ii (p : Int)]) call150 rfl (l1Sub_spec (p := p) har ht (ho := (by first | assumption | rfl | omega | simp)) (hp := (by first | assumption | rfl | omega | simp))) ?_)
   rintro v2 _ _ _ ⟨rfl, hs2, rfl⟩
   refine ⟨_, _, rfl, fun F2 le2 hz1 => ?_⟩
   replace har := har.mono le2
   replace ht := ht.mono le2
   replace ha1 := ha1.mono le2
   replace ha2 := ha2.mono le2
   have hf1 : IntsF F2 v2 ((sub ar t p)) := intsH.fz (xs := (sub ar t p)) hz1.fz
   exact ⟨⟨rfl, hf1⟩, rfl⟩
  refine gD (fun W Fs R lF z9 => ?_) ?_
  ·obtain ⟨e8, f8_1ha⟩ := z9 8 rfl
   replace har := har.mono lF
   replace ht := ht.mono lF
   replace ha1 := ha1.mono lF
   replace ha2 := ha2.mono lF
   rw [eS (l := [(1, _), (3, _), (8, ((W 8)))]) ⟨z9 1 rfl, z9 3 rfl, (e8).symm, ⟨⟩⟩]
   refine qk (qq (args := [.agg #[arv], a1, ((W 8))]) call216 rfl (l4Match_spec har ha1 f8_1ha (ho := (by first | assumption | rfl | omega | simp)) (hpo := (by first | assumption | rfl | omega | simp))) ?_)
   rintro _ F3 _ le3 ⟨x2, rfl, hr4, rfl⟩
   replace har := har.mono le3
   replace ht := ht.mono le3
   replace ha2 := ha2.mono le3
   replace f8_1ha := f8_1ha.mono le3
   exact ⟨⟨rfl, hr4⟩, rfl⟩
  refine gD (fun W Fs R lF z9 => ?_) ?_
  ·obtain ⟨e9, f9_1hr⟩ := z9 9 rfl
   rw [eS (l := [(9, (.tuple #[.agg #[((aggAt (tupAt (W 9) 0) 0))], .bool ((matchB ar ((rs.getD r ([], [])).1) ((sub ar t p))).isSome)]))]) ⟨(e9).symm, ⟨⟩⟩]
   refine qk (qo (.tuple #[.agg #[((aggAt (tupAt (W 9) 0) 0))], .bool ((matchB ar ((rs.getD r ([], [])).1) ((sub ar t p))).isSome)]) rfl ?_)
   exact ⟨rfl, rfl⟩
  refine gD (fun W Fs R lF z9 => ?_) ?_
  ·obtain ⟨e9, f9_1hr⟩ := z9 9 rfl
   have e10 : W 10 = (.tuple #[.agg #[((aggAt (tupAt (W 9) 0) 0))], .bool ((matchB ar ((rs.getD r ([], [])).1) ((sub ar t p))).isSome)] : Value) := z9 10 rfl
   rw [eS (l := [(9, (.tuple #[.agg #[((aggAt (tupAt (W 9) 0) 0))], .bool ((matchB ar ((rs.getD r ([], [])).1) ((sub ar t p))).isSome)])), (10, (.tuple #[.agg #[((aggAt (tupAt (W 9) 0) 0))], .bool ((matchB ar ((rs.getD r ([], [])).1) ((sub ar t p))).isSome)]))]) ⟨(e9).symm, e10, ⟨⟩⟩]
   refine qk (qO (.agg #[((aggAt (tupAt (W 9) 0) 0))]) rfl rfl ?_)
   exact ⟨rfl, rfl⟩
  refine gD (fun W Fs R lF z9 => ?_) ?_
  ·obtain ⟨e9, f9_1hr⟩ := z9 9 rfl
   have e10 : W 10 = (.tuple #[.agg #[((aggAt (tupAt (W 9) 0) 0))], .bool ((matchB ar ((rs.getD r ([], [])).1) ((sub ar t p))).isSome)] : Value) := z9 10 rfl
   rw [eS (l := [(9, (.tuple #[.agg #[((aggAt (tupAt (W 9) 0) 0))], .bool ((matchB ar ((rs.getD r ([], [])).1) ((sub ar t p))).isSome)])), (10, (.tuple #[.agg #[((aggAt (tupAt (W 9) 0) 0))], .bool ((matchB ar ((rs.getD r ([], [])).1) ((sub ar t p))).isSome)]))]) ⟨(e9).symm, e10, ⟨⟩⟩]
   refine qk (qO (.bool ((matchB ar ((rs.getD r ([], [])).1) ((sub ar t p))).isSome)) rfl rfl ?_)
   exact ⟨rfl, rfl⟩
  refine gD (fun W Fs R lF z9 => ?_) ?_
  ·replace har := har.mono lF
   replace ht := ht.mono lF
   replace ha2 := ha2.mono lF
   refine qk (qY [sN] jC rfl ?_)
   intro b4
   exact ⟨rfl, rfl⟩
  refine gD (fun W Fs R lF z9 => ?_) ?_
  ·obtain ⟨e9, f9_1hr⟩ := z9 9 rfl
   have e11 : W 11 = (.agg #[((aggAt (tupAt (W 9) 0) 0))] : Value) := z9 11 rfl
   have e13 : W 13 = ptr (blk (W 13)) 0 := z9 13 rfl
   replace har := har.mono lF
   replace ht := ht.mono lF
   replace ha2 := ha2.mono lF
   rw [eS (l := [(9, (.tuple #[.agg #[((aggAt (tupAt (W 9) 0) 0))], .bool ((matchB ar ((rs.getD r ([], [])).1) ((sub ar t p))).isSome)])), (11, (.agg #[((aggAt (tupAt (W 9) 0) 0))])), (13, ptr (blk (W 13)) 0)]) ⟨(e9).symm, e11, e13, ⟨⟩⟩]
   show XG _ _ _ _ _ (cellsH (blk (W 13)) [sN] 137 :: ([cellsH b2 [a1, a2] 76, cellsH b1 [arv, rsv] 39] ++ R)) _
   refine qk (qL [] _ [((aggAt (tupAt (W 9) 0) 0))] jk rfl rfl rfl (qz (qW (RowsF.isSl f9_1hr)) qS) rfl rfl rfl ?_)
   exact ⟨trivial, rfl⟩
  exact stepsG.nil
 intro W F4 le4 hphi
 obtain ⟨e8, f8_1ha⟩ := hphi 8 (by decide)
 obtain ⟨e9, f9_1hr⟩ := hphi 9 (by decide)
 have e10 : W 10 = (.tuple #[.agg #[((aggAt (tupAt (W 9) 0) 0))], .bool ((matchB ar ((rs.getD r ([], [])).1) ((sub ar t p))).isSome)] : Value) := hphi 10 (by decide)
 have e11 : W 11 = (.agg #[((aggAt (tupAt (W 9) 0) 0))] : Value) := hphi 11 (by decide)
 have e13 : W 13 = ptr (blk (W 13)) 0 := hphi 13 (by decide)
 generalize hu1 : ((W 8)) = u1 at e8 f8_1ha e9 f9_1hr e10 e11 e13
 generalize hu2 : ((aggAt (tupAt (W 9) 0) 0)) = u2 at e8 f8_1ha e9 f9_1hr e10 e11 e13
 generalize hu3 : blk (W 13) = b5 at e8 f8_1ha e9 f9_1hr e10 e11 e13
 rw [eS (l := [(9, (.tuple #[.agg #[u2], .bool ((matchB ar ((rs.getD r ([], [])).1) ((sub ar t p))).isSome)])), (12, _), (13, ptr b5 0)]) ⟨(e9).symm, (hphi 12 (by decide)), e13, ⟨⟩⟩]
 replace har := har.mono le4
 replace ht := ht.mono le4
 replace ha2 := ha2.mono le4
 show XL _ _ _ _ _ _ _ (cellsH b5 [u2] 137 :: cellsH b2 [a1, a2] 76 :: cellsH b1 [arv, rsv] 39 :: L)
 refine qd (.bool ((matchB ar ((rs.getD r ([], [])).1) ((sub ar t p))).isSome)) rfl (qb (qc (qc (qa (qg (.bool ((matchB ar ((rs.getD r ([], [])).1) ((sub ar t p))).isSome)) rfl (cX (jg rfl (qb ?_))))))))
 refine jF (t := !((matchB ar ((rs.getD r ([], [])).1) ((sub ar t p))).isSome)) rfl (fun h1 => ?_) (fun h1 => ?_)
 ·have hms : (matchB ar (rs.getD r ([], [])).1 (sub ar t p)).isSome = false := by simpa using h1
  refine qc (qa (cX (ja (s := 1) [] [ii (0)] [] qf qy jr rfl (by decide) rfl CellsAre.nil rfl ?_)))
  intro v3 hv1
  refine qd (v3) rfl (qd (.bool (false)) rfl (qb ?_))
  show X _ _ _ _ _ _ (intsH 2 v3 ([] : List Int) :: cellsH b5 [u2] 137 :: cellsH b2 [a1, a2] 76 :: cellsH b1 [arv, rsv] 39 :: L)
  refine ju [] _ _ rfl (fun F5 le5 hz2 => ?_)
  replace har := har.mono le5
  replace ht := ht.mono le5
  replace ha2 := ha2.mono le5
  replace f9_1hr := f9_1hr.mono le5
  have hf2 : IntsF F5 v3 ([]) := intsH.fz (xs := []) hz2.fz
  refine qp (qi (ql (L' := L) [v3, .bool (false)] (.tuple #[v3, .bool (false)]) (.tmp rfl (.tmp rfl .nil)) rfl (qD le4 le5) rF (sD (sD (sD sR))) ?_))
  have hz := stepL_nomatch hms
  exact ⟨_, by rw [hz]; rfl, by rw [hz]; exact hf2, rfl⟩
 have hms : (matchB ar (rs.getD r ([], [])).1 (sub ar t p)).isSome = true := by simpa using h1
 refine qx (qc (qa (cX (qr [u2] jH jk rfl rfl (Rd.ownN [] rfl rfl) (cX (qj (1) jc rfl qs (by decide) rfl rfl (cX (qh qF rfl (Rd.own [_] rfl rfl) (cX (qq (args := [.agg #[u2], a2]) call154 rfl (l2Filled_spec f9_1hr ha2 (hsl := (by first | assumption | rfl | omega | simp)) (hsb := (fun i => by have := hmp2 i; omega)) (htl := (by first | assumption | rfl | omega | simp)) (htg := (fun k hk => by have := hRg k hk; omega))) ?_))))))))))
 rintro _ F6 _ le6 ⟨x3, rfl, hr5, rfl⟩
 replace har := har.mono le6
 replace ht := ht.mono le6
 refine qg (.tuple #[x3, .bool ((fillL (matchP ar ((rs.getD r ([], [])).1) ((sub ar t p))) ((rs.getD r ([], [])).2)).isSome)]) rfl (cX (qO (x3) rfl rfl (cX (qO (.bool ((fillL (matchP ar ((rs.getD r ([], [])).1) ((sub ar t p))) ((rs.getD r ([], [])).2)).isSome)) rfl rfl (qd (x3) rfl (qd (.bool ((fillL (matchP ar ((rs.getD r ([], [])).1) ((sub ar t p))) ((rs.getD r ([], [])).2)).isSome)) rfl (qb (qc (qc (qa (qg (.bool ((fillL (matchP ar ((rs.getD r ([], [])).1) ((sub ar t p))) ((rs.getD r ([], [])).2)).isSome)) rfl (cX (jg rfl (qb ?_))))))))))))))
 refine jF (t := !((fillL (matchP ar ((rs.getD r ([], [])).1) ((sub ar t p))) ((rs.getD r ([], [])).2)).isSome)) rfl (fun h2 => ?_) (fun h2 => ?_)
 ·have hfs : (fillL (matchP ar (rs.getD r ([], [])).1 (sub ar t p)) (rs.getD r ([], [])).2).isSome = false := by simpa using h2
  refine qc (qa (cX (ja (s := 1) [] [ii (0)] [] qf qy jr rfl (by decide) rfl CellsAre.nil rfl ?_)))
  intro v4 hv2
  refine qd (v4) rfl (qd (.bool (false)) rfl (qb ?_))
  show X _ _ _ _ _ _ (intsH 2 v4 ([] : List Int) :: cellsH b5 [u2] 137 :: cellsH b2 [a1, a2] 76 :: cellsH b1 [arv, rsv] 39 :: L)
  refine ju [] _ _ rfl (fun F7 le7 hz3 => ?_)
  replace har := har.mono le7
  replace ht := ht.mono le7
  replace hr5 := hr5.mono le7
  have hf3 : IntsF F7 v4 ([]) := intsH.fz (xs := []) hz3.fz
  refine qp (qi (ql (L' := L) [v4, .bool (false)] (.tuple #[v4, .bool (false)]) (.tmp rfl (.tmp rfl .nil)) rfl (qD (qD le4 le6) le7) rF (sD (sD (sD sR))) ?_))
  have hz := stepL_nofill hms hfs
  exact ⟨_, by rw [hz]; rfl, by rw [hz]; exact hf3, rfl⟩
 have hfs : (fillL (matchP ar (rs.getD r ([], [])).1 (sub ar t p)) (rs.getD r ([], [])).2).isSome = true := by simpa using h2
 have hfl := fill_getD_len hfs (by omega)
 refine qx (qc (qa (cX (qj (0) qU rfl qH (by decide) rfl rfl (cX (qr [arv] qZ qH rfl rfl (Rd.ownN [_, _] rfl rfl) (qg (tv) rfl (qg (ii ((p : Int))) rfl (qg (x3) rfl (cX (qq (args := [.agg #[arv], tv, ii (p : Int), x3]) call155 rfl (l3Put_spec (p := p) har ht hr5 (ho := (by first | assumption | rfl | omega | simp)) (hp := (by first | assumption | rfl | omega | simp)) (hul := (by first | assumption | rfl | omega | simp))) ?_)))))))))))
 rintro _ F8 _ le8 ⟨x4, rfl, hr6, rfl⟩
 refine cX (qO (x4) rfl rfl (cX (qO (.bool ((putL ar t p ((fillL (matchP ar ((rs.getD r ([], [])).1) ((sub ar t p))) ((rs.getD r ([], [])).2)).getD [])).isSome)) rfl rfl (qd (x4) rfl (qd (.bool ((putL ar t p ((fillL (matchP ar ((rs.getD r ([], [])).1) ((sub ar t p))) ((rs.getD r ([], [])).2)).getD [])).isSome)) rfl (qb (qp (ql (L' := L) [x4, .bool ((putL ar t p ((fillL (matchP ar ((rs.getD r ([], [])).1) ((sub ar t p))) ((rs.getD r ([], [])).2)).getD [])).isSome)] (.tuple #[x4, .bool ((putL ar t p ((fillL (matchP ar ((rs.getD r ([], [])).1) ((sub ar t p))) ((rs.getD r ([], [])).2)).getD [])).isSome)]) (.tmp rfl (.tmp rfl .nil)) rfl (qD (qD le4 le6) le8) rF (sD (sD (sD sR))) ?_))))))))
 have hz := stepL_put hms hfs
 exact ⟨_, by rw [hz], by rw [hz]; exact hr6, rfl⟩

/- laws.szInt64S -/
theorem szInt64S_spec {F : FH} {L : List HP} {xsv : Value} {xs : List Int} (hxs : IntsF F xsv xs) {z : Int} (hz : 0 ≤ z ∧ z ≤ 4000000) (hlx : xs.length ≤ 9223372036854775807) :
    Does prog 65 [xsv, ii (z)] F (L) (fun v F' L' => (ii (dec z xs.length) : Value) = v ∧ F = F' ∧ L = L') := by
 refine qC func65 rfl rfl rfl (qc (qa (qd (ii (0)) rfl (qb (qc (qa (qg (ii (z)) rfl (qg (xsv) rfl (cX (qB qf rfl hxs.slv (cX (jo (z - ((xs.length : Int))) rfl rfl (by omega) (by omega) (qd (ii (z - ((xs.length : Int)))) rfl (qb (qc (qc (qa ?_)))))))))))))))))
 refine qg (ii (z - ((xs.length : Int)))) rfl (cX (qK rfl rfl (qb ?_)))
 refine qw (p := (z - ((xs.length : Int)) : Int) < 0) rfl (fun h1 => ?_) (fun h1 => ?_)
 ·refine qc (qa (qd (ii (-1)) rfl (qb (qp (qi (ql (L' := L) [ii (-1)] (ii (-1)) (.tmp rfl .nil) rfl rF rF sR ?_))))))
  exact ⟨(vI (dec_neg (by omega))), rfl, rfl⟩
 refine qx (qc (qa (qg (ii (z - ((xs.length : Int)))) rfl (qd (ii (z - ((xs.length : Int)))) rfl (qb (qp (ql (L' := L) [ii (z - ((xs.length : Int)))] (ii (z - ((xs.length : Int)))) (.tmp rfl .nil) rfl rF rF sR ?_)))))))
 exact ⟨(vI (dec_pos (by omega))), rfl, rfl⟩

/- laws.szSig -/
theorem szSig_spec {F : FH} {L : List HP} {xsv : Value} {xs : List Int} (hxs : IntsF F xsv xs) {z : Int} (hz : 0 ≤ z ∧ z ≤ 4000000) (hlx : xs.length ≤ 9223372036854775807) :
    Does prog 62 [.agg #[xsv], ii (z)] F (L) (fun v F' L' => (ii (dec z xs.length) : Value) = v ∧ F = F' ∧ L = L') := by
 refine qC func62 rfl rfl rfl ?_
 have hdr := dec_range z xs.length
 refine qc (qa (cX (qI [xsv] rfl rfl ?_)))
 intro b1
 refine qd (ii (0)) rfl (qb (qc (qa (cX (qj (0) runUnderlying24 rfl qs (by decide) rfl rfl (cX (qh qF rfl (Rd.own [] rfl rfl) (qg (ii (z)) rfl (cX (qq (args := [xsv, ii (z)]) call65 rfl (szInt64S_spec (z := z) hxs (hz := (by first | assumption | rfl | omega | simp)) (hlx := (by first | assumption | rfl | omega | simp))) ?_))))))))))
 rintro _ _ _ _ ⟨rfl, rfl, rfl⟩
 refine qd (ii (dec z xs.length)) rfl (qb (qc (qc (qa (qg (ii (dec z xs.length)) rfl (cX (qK rfl rfl (qb ?_))))))))
 refine qw (p := (dec z xs.length : Int) < 0) rfl (fun h1 => ?_) (fun h1 => ?_)
 ·refine qc (qa (qd (ii (-1)) rfl (qb (qp (qi (ql (L' := L) [ii (-1)] (ii (-1)) (.tmp rfl .nil) rfl rF rF (sD sR) ?_))))))
  exact ⟨(vI (by omega)), rfl, rfl⟩
 refine qx (qc (qa (qg (ii (dec z xs.length)) rfl (qd (ii (dec z xs.length)) rfl (qb (qp (ql (L' := L) [ii (dec z xs.length)] (ii (dec z xs.length)) (.tmp rfl .nil) rfl rF rF (sD sR) ?_)))))))
 exact ⟨rfl, rfl, rfl⟩

/- laws.szRule -/
theorem szRule_spec {F : FH} {L : List HP} {lv : Value} {l : List Int} (hl : IntsF F lv l) {rv : Value} {r : List Int} (hr : IntsF F rv r) {z : Int} (hz : 0 ≤ z ∧ z ≤ 4000000) (hll : l.length ≤ 9223372036854775807) (hlr : r.length ≤ 9223372036854775807) :
    Does prog 166 [.agg #[lv, rv], ii (z)] F (L) (fun v F' L' => (ii (dec z (l.length + r.length)) : Value) = v ∧ F = F' ∧ L = L') := by
 refine qC func166 rfl rfl rfl ?_
 have hdr := dec_range z l.length
 refine qc (qa (cX (qI [lv, rv] rfl rfl ?_)))
 intro b1
 refine qd (ii (0)) rfl (qb (qc (qa (cX (qj (0) runUnderlying224 rfl qs (by decide) rfl rfl (cX (qh qF rfl (Rd.own [] rfl rfl) (qg (ii (z)) rfl (cX (qq (args := [lv, ii (z)]) call65 rfl (szInt64S_spec (z := z) hl (hz := (by first | assumption | rfl | omega | simp)) (hlx := (by first | assumption | rfl | omega | simp))) ?_))))))))))
 rintro _ _ _ _ ⟨rfl, rfl, rfl⟩
 refine qd (ii (dec z l.length)) rfl (qb (qc (qc (qa (qg (ii (dec z l.length)) rfl (cX (qK rfl rfl (qb ?_))))))))
 refine qw (p := (dec z l.length : Int) < 0) rfl (fun h1 => ?_) (fun h1 => ?_)
 ·refine qc (qa (qd (ii (-1)) rfl (qb (qp (qi (ql (L' := L) [ii (-1)] (ii (-1)) (.tmp rfl .nil) rfl rF rF (sD sR) ?_))))))
  exact ⟨(vI (dec_out (by omega))), rfl, rfl⟩
 refine qx (qc (qa (cX (qj (1) runUnderlying224 rfl qs (by decide) rfl rfl (cX (qh qF rfl (Rd.own [] rfl rfl) (qg (ii (dec z l.length)) rfl (cX (qq (args := [rv, ii (dec z l.length)]) call65 rfl (szInt64S_spec (z := dec z l.length) hr (hz := (by first | assumption | rfl | omega | simp)) (hlx := (by first | assumption | rfl | omega | simp))) ?_)))))))))
 rintro _ _ _ _ ⟨rfl, rfl, rfl⟩
 refine qd (ii (dec (dec z l.length) r.length)) rfl (qb (qc (qc (qa (qg (ii (dec (dec z l.length) r.length)) rfl (cX (qK rfl rfl (qb ?_))))))))
 refine qw (p := (dec (dec z l.length) r.length : Int) < 0) rfl (fun h2 => ?_) (fun h2 => ?_)
 ·refine qc (qa (qd (ii (-1)) rfl (qb (qp (qi (ql (L' := L) [ii (-1)] (ii (-1)) (.tmp rfl .nil) rfl rF rF (sD sR) ?_))))))
  exact ⟨(vI (by rw [← dec_dec (by omega)]; have := (dec_range (dec z l.length) r.length).1; omega)), rfl, rfl⟩
 refine qx (qc (qa (qg (ii (dec (dec z l.length) r.length)) rfl (qd (ii (dec (dec z l.length) r.length)) rfl (qb (qp (ql (L' := L) [ii (dec (dec z l.length) r.length)] (ii (dec (dec z l.length) r.length)) (.tmp rfl .nil) rfl rF rF (sD sR) ?_)))))))
 exact ⟨(vI ((dec_dec (by omega)).symm)), rfl, rfl⟩

/- laws.eqSig -/
theorem eqSig_spec {F : FH} {L : List HP} {av : Value} {a : List Int} (ha : IntsF F av a) {bv : Value} {b : List Int} (hb : IntsF F bv b) (hbd : a.length ≤ 9223372036854775807 ∨ b.length ≤ 9223372036854775807) :
    Does prog 76 [.agg #[av], .agg #[bv]] F (L) (fun v F' L' => (.bool (decide (a = b)) : Value) = v ∧ F = F' ∧ L = L') := by
 refine qC func76 rfl rfl rfl (qc (qa (cX (qI [av] rfl rfl ?_))))
 intro b1
 refine cX (qI [bv] rfl rfl ?_)
 intro b2
 refine qd (.bool (false)) rfl (qb (qc (qc (qa (cX (qj (0) jl rfl qs (by decide) rfl rfl (cX (qh qF rfl (Rd.own [_] rfl rfl) (cX (qj (0) jl rfl qs (by decide) rfl rfl (cX (qh qF rfl (Rd.own [] rfl rfl) (cX (qq (args := [av, bv]) call79 rfl (eqInt64S_spec ha hb (hbd := (by first | assumption | rfl | omega | (left; simp; done) | (right; simp; done)))) ?_))))))))))))))
 rintro _ _ _ _ ⟨rfl, rfl, rfl⟩
 refine cX (jx rfl (qb ?_))
 refine qw (p := ¬(a = b)) rfl (fun h1 => ?_) (fun h1 => ?_)
 ·refine qc (qa (qd (.bool (false)) rfl (qb (qp (qi (ql (L' := L) [.bool (false)] (.bool (false)) (.tmp rfl .nil) rfl rF rF (sD (sD sR)) ?_))))))
  exact ⟨(vB (decide_eq_false (by assumption))), rfl, rfl⟩
 refine qx (qc (qa (qd (.bool (true)) rfl (qb (qp (ql (L' := L) [.bool (true)] (.bool (true)) (.tmp rfl .nil) rfl rF rF (sD (sD sR)) ?_))))))
 exact ⟨(vB (decide_eq_true (by first | assumption | exact Classical.not_not.1 (by assumption)))), rfl, rfl⟩

/- laws.eqRule -/
theorem eqRule_spec {F : FH} {L : List HP} {av : Value} {a : List Int} (ha : IntsF F av a) {bv : Value} {b : List Int} (hb : IntsF F bv b) {cv : Value} {c : List Int} (hc : IntsF F cv c) {dv : Value} {d : List Int} (hd : IntsF F dv d) (hbd : a.length ≤ 9223372036854775807 ∨ c.length ≤ 9223372036854775807) (hbe : b.length ≤ 9223372036854775807 ∨ d.length ≤ 9223372036854775807) :
    Does prog 176 [.agg #[av, bv], .agg #[cv, dv]] F (L) (fun v F' L' => (.bool (decide ((a, b) = (c, d))) : Value) = v ∧ F = F' ∧ L = L') := by
 refine qC func176 rfl rfl rfl (qc (qa (cX (qI [av, bv] rfl rfl ?_))))
 intro b1
 refine cX (qI [cv, dv] rfl rfl ?_)
 intro b2
 refine qd (.bool (false)) rfl (qb (qc (qc (qa (cX (qj (0) jc rfl qs (by decide) rfl rfl (cX (qh qF rfl (Rd.own [_] rfl rfl) (cX (qj (0) jc rfl qs (by decide) rfl rfl (cX (qh qF rfl (Rd.own [] rfl rfl) (cX (qq (args := [av, cv]) call79 rfl (eqInt64S_spec ha hc (hbd := (by first | assumption | rfl | omega | (left; simp; done) | (right; simp; done)))) ?_))))))))))))))
 rintro _ _ _ _ ⟨rfl, rfl, rfl⟩
 refine cX (jx rfl (qb ?_))
 refine qw (p := ¬(a = c)) rfl (fun h1 => ?_) (fun h1 => ?_)
 ·refine qc (qa (qd (.bool (false)) rfl (qb (qp (qi (ql (L' := L) [.bool (false)] (.bool (false)) (.tmp rfl .nil) rfl rF rF (sD (sD sR)) ?_))))))
  exact ⟨(vB (decide_eq_false (by intro e; simp_all))), rfl, rfl⟩
 refine qx (qc (qc (qa (cX (qj (1) jc rfl qs (by decide) rfl rfl (cX (qh qF rfl (Rd.own [_] rfl rfl) (cX (qj (1) jc rfl qs (by decide) rfl rfl (cX (qh qF rfl (Rd.own [] rfl rfl) (cX (qq (args := [bv, dv]) call79 rfl (eqInt64S_spec hb hd (hbd := (by first | assumption | rfl | omega | (left; simp; done) | (right; simp; done)))) ?_)))))))))))))
 rintro _ _ _ _ ⟨rfl, rfl, rfl⟩
 refine cX (jx rfl (qb ?_))
 refine qw (p := ¬(b = d)) rfl (fun h2 => ?_) (fun h2 => ?_)
 ·refine qc (qa (qd (.bool (false)) rfl (qb (qp (qi (ql (L' := L) [.bool (false)] (.bool (false)) (.tmp rfl .nil) rfl rF rF (sD (sD sR)) ?_))))))
  exact ⟨(vB (decide_eq_false (by intro e; simp_all))), rfl, rfl⟩
 refine qx (qc (qa (qd (.bool (true)) rfl (qb (qp (ql (L' := L) [.bool (true)] (.bool (true)) (.tmp rfl .nil) rfl rF rF (sD (sD sR)) ?_))))))
 exact ⟨(vB (decide_eq_true (by simp_all))), rfl, rfl⟩

/- laws.szRuleS -/
theorem szRuleS_spec {F : FH} {L : List HP} {rsv : Value} {rs : List (List Int × List Int)} (hrs : PairsF F rsv rs) {z : Int} (hz : 0 ≤ z ∧ z ≤ 4000000) (hrl : rs.length ≤ 9223372036854775807) (hrb : ∀ i, i < rs.length → (rs.getD i ([], [])).1.length ≤ 9223372036854775807 ∧ (rs.getD i ([], [])).2.length ≤ 9223372036854775807) :
    Does prog 63 [rsv, ii (z)] F (L) (fun v F' L' => (ii (dec z (szR rs)) : Value) = v ∧ F = F' ∧ L = L') := by
 refine qC func63 rfl rfl rfl (qc (qa (qd (ii (0)) rfl (qb (qc (qa (qg (ii (z)) rfl (qg (rsv) rfl (cX (qB runUnderlying25 rfl hrs.slv (cX (jo (z - ((rs.length : Int))) rfl rfl (by omega) (by omega) (qd (ii (z - ((rs.length : Int)))) rfl (qb (qc (qc (qa ?_)))))))))))))))))
 refine qg (ii (z - ((rs.length : Int)))) rfl (cX (qK rfl rfl (qb ?_)))
 refine qw (p := (z - ((rs.length : Int)) : Int) < 0) rfl (fun h1 => ?_) (fun h1 => ?_)
 ·refine qc (qa (qd (ii (-1)) rfl (qb (qp (qi (ql (L' := L) [ii (-1)] (ii (-1)) (.tmp rfl .nil) rfl rF rF sR ?_))))))
  exact ⟨(vI (dec_mono (n := rs.length) (by rw [dec_neg (by omega)]; omega) (by unfold szR; omega))), rfl, rfl⟩
 refine qx (qc (qc (qa (qd (ii (0)) rfl (qb (qG (jd (α := Nat) (fun k => [(0, rsv), (1, ii (dec z (rs.length + szTo rs k))), (5, ii ((k : Int)))]) (fun k => L) (fun k F' => F = F' ∧ (k ≤ rs.length) ∧ (0 ≤ dec z (rs.length + szTo rs k))) (fun k => rs.length - k) 0 ⟨rfl, (vI (by show z - rs.length = dec z (rs.length + 0); rw [Nat.add_zero, dec_pos (by omega)])), rfl, ⟨⟩⟩ sR ⟨rfl, (by (try dsimp only) <;> omega), (by show 0 ≤ dec z (rs.length + 0); rw [Nat.add_zero, dec_pos (by omega)]; omega)⟩ ?_)))))))
 rintro k rE _ _ ⟨rfl, hk, hnn⟩
 show X _ _ _ _ (envs [(0, rsv), (1, ii (dec z (rs.length + szTo rs k))), (5, ii ((k : Int)))] rE) _ (L)
 have hdr := dec_range z (rs.length + szTo rs k)
 have hrk := hrb k
 refine qc (qc (qa (qg (ii ((k : Int))) rfl (qg (rsv) rfl (cX (qB runUnderlying25 rfl hrs.slv (cX (qK rfl rfl (qb ?_)))))))))
 refine qw (p := (k : Int) < (rs.length : Int)) rfl (fun h2 => ?_) (fun h2 => ?_)
 ·refine qx (qc (qG (qc (qa (qg (rsv) rfl (qg (ii ((k : Int))) rfl (cX (qv k runUnderlying25 sizeOf224 rfl rfl rfl hrs.slv (by omega) rfl ?_))))))))
  obtain ⟨a1, a2, ha1, ha2, hr1, hr2⟩ := hrs.rd (i := k) (by omega)
  refine cX (qr [a1, a2] isAgg224 sizeOf224 rfl rfl (Rd.two (hr1 _) (hr2 _)) (qg (ii (dec z (rs.length + szTo rs k))) rfl (cX (qq (args := [.agg #[a1, a2], ii (dec z (rs.length + szTo rs k))]) call166 rfl (szRule_spec (z := dec z (rs.length + szTo rs k)) ha1 ha2 (hz := (by first | assumption | rfl | omega | simp)) (hll := (by first | assumption | rfl | omega | simp)) (hlr := (by first | assumption | rfl | omega | simp))) ?_))))
  rintro _ _ _ _ ⟨rfl, rfl, rfl⟩
  refine qd (ii (dec (dec z (rs.length + szTo rs k)) (((rs.getD k ([], [])).1).length + ((rs.getD k ([], [])).2).length))) rfl (qb (qc (qa (qg (ii (dec (dec z (rs.length + szTo rs k)) (((rs.getD k ([], [])).1).length + ((rs.getD k ([], [])).2).length))) rfl (cX (qK rfl rfl (qb ?_)))))))
  refine qw (p := (dec (dec z (rs.length + szTo rs k)) (((rs.getD k ([], [])).1).length + ((rs.getD k ([], [])).2).length) : Int) < 0) rfl (fun h3 => ?_) (fun h3 => ?_)
  ·refine qc (qa (qd (ii (-1)) rfl (qb (qp (qA (qi (qi (qA (qi (ql (L' := L) [ii (-1)] (ii (-1)) (.tmp rfl .nil) rfl rF rF sR ?_))))))))))
   exact ⟨(vI (by have h9 := szTo_le (rs := rs) (k + 1) rs.length (by omega) (Nat.le_refl _); refine dec_mono (n := rs.length + szTo rs (k + 1)) ?_ (by unfold szR; omega); rw [← szTo_succ (by omega), ← Nat.add_assoc, ← dec_dec (by omega)]; omega)), rfl, rfl⟩
  refine qx (qa (qg (ii ((k : Int))) rfl (cX (qN (((k + 1 : Nat) : Int)) rfl rfl (by omega) (by omega) (qd (ii (((k + 1 : Nat) : Int))) rfl (qb ?_))))))
  exact ⟨k + 1, _, FLe.refl _, rF, ⟨rfl, (vI (by rw [dec_dec (by omega), Nat.add_assoc, szTo_succ (by omega)])), rfl, ⟨⟩⟩, sR, ⟨rfl, (by (try dsimp only) <;> omega), (by (try dsimp only); rw [← szTo_succ (by omega), ← Nat.add_assoc, ← dec_dec (by omega)]; omega)⟩, (by omega)⟩
 refine jb (qu (qu (qJ (qc (qa (qg (ii (dec z (rs.length + szTo rs k))) rfl (qd (ii (dec z (rs.length + szTo rs k))) rfl (qb (qp (ql (L' := L) [ii (dec z (rs.length + szTo rs k))] (ii (dec z (rs.length + szTo rs k))) (.tmp rfl .nil) rfl rF rF sR ?_))))))))))
 exact ⟨(vI (by rw [szR, show k = rs.length from by omega])), rfl, rfl⟩

/- laws.szSystem -/
theorem szSystem_spec {F : FH} {L : List HP} {arv : Value} {ar : List Int} (har : IntsF F arv ar) {rsv : Value} {rs : List (List Int × List Int)} (hrs : PairsF F rsv rs) {z : Int} (hz : 0 ≤ z ∧ z ≤ 4000000) (hal : ar.length ≤ 9223372036854775807) (hrl : rs.length ≤ 9223372036854775807) (hrb : ∀ i, i < rs.length → (rs.getD i ([], [])).1.length ≤ 9223372036854775807 ∧ (rs.getD i ([], [])).2.length ≤ 9223372036854775807) :
    Does prog 9 [.agg #[arv, rsv], ii (z)] F (L) (fun v F' L' => (ii (dec z (ar.length + szR rs)) : Value) = v ∧ F = F' ∧ L = L') := by
 refine qC func9 rfl rfl rfl ?_
 have hdr := dec_range z ar.length
 refine qc (qa (cX (qI [arv, rsv] rfl rfl ?_)))
 intro b1
 refine qd (ii (0)) rfl (qb (qc (qa (cX (qj (0) runUnderlying27 rfl sizeOf24 (by decide) rfl rfl (cX (qr [arv] isAgg24 sizeOf24 rfl rfl (Rd.ownN [] rfl rfl) (qg (ii (z)) rfl (cX (qq (args := [.agg #[arv], ii (z)]) call62 rfl (szSig_spec (z := z) har (hz := (by first | assumption | rfl | omega | simp)) (hlx := (by first | assumption | rfl | omega | simp))) ?_))))))))))
 rintro _ _ _ _ ⟨rfl, rfl, rfl⟩
 refine qd (ii (dec z ar.length)) rfl (qb (qc (qc (qa (qg (ii (dec z ar.length)) rfl (cX (qK rfl rfl (qb ?_))))))))
 refine qw (p := (dec z ar.length : Int) < 0) rfl (fun h1 => ?_) (fun h1 => ?_)
 ·refine qc (qa (qd (ii (-1)) rfl (qb (qp (qi (ql (L' := L) [ii (-1)] (ii (-1)) (.tmp rfl .nil) rfl rF rF (sD sR) ?_))))))
  exact ⟨(vI (dec_out (by omega))), rfl, rfl⟩
 refine qx (qc (qa (cX (qj (1) runUnderlying27 rfl sizeOf25 (by decide) rfl rfl (cX (qh isAgg25 rfl (Rd.own [] rfl rfl) (qg (ii (dec z ar.length)) rfl (cX (qq (args := [rsv, ii (dec z ar.length)]) call63 rfl (szRuleS_spec (z := dec z ar.length) hrs (hz := (by first | assumption | rfl | omega | simp)) (hrl := (by first | assumption | rfl | omega | simp)) (hrb := (by first | assumption | rfl | omega | simp))) ?_)))))))))
 rintro _ _ _ _ ⟨rfl, rfl, rfl⟩
 refine qd (ii (dec (dec z ar.length) (szR rs))) rfl (qb (qc (qc (qa (qg (ii (dec (dec z ar.length) (szR rs))) rfl (cX (qK rfl rfl (qb ?_))))))))
 refine qw (p := (dec (dec z ar.length) (szR rs) : Int) < 0) rfl (fun h2 => ?_) (fun h2 => ?_)
 ·refine qc (qa (qd (ii (-1)) rfl (qb (qp (qi (ql (L' := L) [ii (-1)] (ii (-1)) (.tmp rfl .nil) rfl rF rF (sD sR) ?_))))))
  exact ⟨(vI (by rw [← dec_dec (by omega)]; have := (dec_range (dec z ar.length) (szR rs)).1; omega)), rfl, rfl⟩
 refine qx (qc (qa (qg (ii (dec (dec z ar.length) (szR rs))) rfl (qd (ii (dec (dec z ar.length) (szR rs))) rfl (qb (qp (ql (L' := L) [ii (dec (dec z ar.length) (szR rs))] (ii (dec (dec z ar.length) (szR rs))) (.tmp rfl .nil) rfl rF rF (sD sR) ?_)))))))
 exact ⟨(vI ((dec_dec (by omega)).symm)), rfl, rfl⟩

/- laws.eqRuleS -/
theorem eqRuleS_spec {F : FH} {L : List HP} {av : Value} {a : List (List Int × List Int)} (ha : PairsF F av a) {bv : Value} {b : List (List Int × List Int)} (hb : PairsF F bv b) (hal : a.length ≤ 9223372036854775807) (hbd : ∀ i, i < a.length → (a.getD i ([], [])).1.length ≤ 9223372036854775807 ∧ (a.getD i ([], [])).2.length ≤ 9223372036854775807) :
    Does prog 77 [av, bv] F (L) (fun v F' L' => (.bool (decide (a = b)) : Value) = v ∧ F = F' ∧ L = L') := by
 refine qC func77 rfl rfl rfl (qc (qa (qd (.bool (false)) rfl (qb (qc (qc (qa (qg (av) rfl (cX (qB ji rfl ha.slv (qg (bv) rfl (cX (qB ji rfl hb.slv (cX (XOp.neq rfl rfl (qb ?_))))))))))))))))
 refine qw (p := ((a.length : Int) : Int) ≠ (b.length : Int)) rfl (fun h1 => ?_) (fun h1 => ?_)
 ·refine qc (qa (qd (.bool (false)) rfl (qb (qp (qi (ql (L' := L) [.bool (false)] (.bool (false)) (.tmp rfl .nil) rfl rF rF sR ?_))))))
  exact ⟨(vB (decide_eq_false (fun e => by rw [e] at h1; omega))), rfl, rfl⟩
 refine qx (qc (qc (qa (qd (ii (0)) rfl (qb (qG (jd (α := Nat) (fun k => [(0, av), (1, bv), (5, ii ((k : Int)))]) (fun k => L) (fun k F' => F = F' ∧ (k ≤ a.length) ∧ (∀ i, i < k → a.getD i ([], []) = b.getD i ([], []))) (fun k => a.length - k) 0 ⟨rfl, rfl, rfl, ⟨⟩⟩ sR ⟨rfl, (by (try dsimp only) <;> omega), (fun i hi => absurd hi (by omega))⟩ ?_)))))))
 rintro k rE _ _ ⟨rfl, hk, hall⟩
 show X _ _ _ _ (envs [(0, av), (1, bv), (5, ii ((k : Int)))] rE) _ (L)
 have hbk := hbd k
 refine qc (qc (qa (qg (ii ((k : Int))) rfl (qg (av) rfl (cX (qB ji rfl ha.slv (cX (qK rfl rfl (qb ?_)))))))))
 refine qw (p := (k : Int) < (a.length : Int)) rfl (fun h2 => ?_) (fun h2 => ?_)
 ·refine qx (qc (qG (qc ?_)))
  obtain ⟨a1, a2, ha1, ha2, hr1, hr2⟩ := ha.rd (i := k) (by omega)
  obtain ⟨a3, a4, ha3, ha4, hr3, hr4⟩ := hb.rd (i := k) (by omega)
  refine jB [] L 8 [] [[], [], [0, 1], [2], [], [], [4, 5], [6]] (phiL [qe av, qe (ii ((k : Int)) : Value), qe (.pointer (some (elemA av (k * 2)))), qe (.agg #[a1, a2]), qe bv, qe (ii ((k : Int)) : Value), qe (.pointer (some (elemA bv (k * 2)))), qe (.agg #[a3, a4])]) (ownL []) mixed rfl rfl (by kernel_rfl) ?_ ?_
  ·refine pD (fun W R z9 => ?_) ?_
   ·refine qk (qo (av) rfl ?_)
    exact ⟨rfl, rfl, rfl⟩
   refine pD (fun W R z9 => ?_) ?_
   ·refine qk (qo (ii ((k : Int))) rfl ?_)
    exact ⟨rfl, rfl, rfl⟩
   refine pD (fun W R z9 => ?_) ?_
   ·rw [eS (l := [(0, _), (1, _)]) ⟨z9 0 rfl, z9 1 rfl, ⟨⟩⟩]
    refine qk (qv k ji jy rfl rfl rfl ha.slv (by omega) rfl ?_)
    exact ⟨rfl, rfl, rfl⟩
   refine pD (fun W R z9 => ?_) ?_
   ·rw [eS (l := [(2, _)]) ⟨z9 2 rfl, ⟨⟩⟩]
    refine qk (qr [a1, a2] isAgg76 jy rfl rfl (Rd.two (hr1 _) (hr2 _)) ?_)
    exact ⟨rfl, rfl, rfl⟩
   refine pD (fun W R z9 => ?_) ?_
   ·refine qk (qo (bv) rfl ?_)
    exact ⟨rfl, rfl, rfl⟩
   refine pD (fun W R z9 => ?_) ?_
   ·refine qk (qo (ii ((k : Int))) rfl ?_)
    exact ⟨rfl, rfl, rfl⟩
   refine pD (fun W R z9 => ?_) ?_
   ·rw [eS (l := [(4, _), (5, _)]) ⟨z9 4 rfl, z9 5 rfl, ⟨⟩⟩]
    refine qk (qv k ji jy rfl rfl rfl hb.slv (by omega) rfl ?_)
    exact ⟨rfl, rfl, rfl⟩
   refine pD (fun W R z9 => ?_) ?_
   ·rw [eS (l := [(6, _)]) ⟨z9 6 rfl, ⟨⟩⟩]
    refine qk (qr [a3, a4] isAgg76 jy rfl rfl (Rd.two (hr3 _) (hr4 _)) ?_)
    exact ⟨rfl, rfl, rfl⟩
   exact stepsP.nil
  intro W hphi
  rw [eS (l := [(3, _), (7, _)]) ⟨(hphi 3 (by decide)), (hphi 7 (by decide)), ⟨⟩⟩]
  show XL _ _ _ _ _ _ _ (L)
  refine cX (qq (args := [.agg #[a1, a2], .agg #[a3, a4]]) call176 rfl (eqRule_spec ha1 ha2 ha3 ha4 (hbd := (.inl (hbk (by omega)).1)) (hbe := (.inl (hbk (by omega)).2))) ?_)
  rintro _ _ _ _ ⟨rfl, rfl, rfl⟩
  refine cX (jx rfl (qb ?_))
  refine qw (p := ¬((((a.getD k ([], [])).1), ((a.getD k ([], [])).2)) = (((b.getD k ([], [])).1), ((b.getD k ([], [])).2)))) rfl (fun h3 => ?_) (fun h3 => ?_)
  ·refine qc (qa (qd (.bool (false)) rfl (qb (qp (qA (qi (qi (qA (qi (ql (L' := L) [.bool (false)] (.bool (false)) (.tmp rfl .nil) rfl rF rF sR ?_))))))))))
   exact ⟨(vB (decide_eq_false (fun e => by subst e; simp at *))), rfl, rfl⟩
  refine qx (qa (qg (ii ((k : Int))) rfl (cX (qN (((k + 1 : Nat) : Int)) rfl rfl (by omega) (by omega) (qd (ii (((k + 1 : Nat) : Int))) rfl (qb ?_))))))
  exact ⟨k + 1, _, FLe.refl _, rF, ⟨rfl, rfl, rfl, ⟨⟩⟩, sR, ⟨rfl, (by (try dsimp only) <;> omega), (fun i hi => (Nat.lt_or_ge i k).elim (fun h => hall i h) (fun h => by obtain rfl : i = k := (by omega); first | assumption | exact Classical.not_not.1 (by assumption)))⟩, (by omega)⟩
 refine jb (qu (qu (qJ (qc (qa (qd (.bool (true)) rfl (qb (qp (ql (L' := L) [.bool (true)] (.bool (true)) (.tmp rfl .nil) rfl rF rF sR ?_)))))))))
 exact ⟨(vB (decide_eq_true (ext_pair (by omega) (fun i hi => hall i (by omega))))), rfl, rfl⟩

/- laws.eqSystem -/
theorem eqSystem_spec {F : FH} {L : List HP} {cv : Value} {c : List Int} (hc : IntsF F cv c) {av : Value} {a : List (List Int × List Int)} (ha : PairsF F av a) {dv : Value} {d : List Int} (hd : IntsF F dv d) {bv : Value} {b : List (List Int × List Int)} (hb : PairsF F bv b) (hcl : c.length ≤ 9223372036854775807) (hal : a.length ≤ 9223372036854775807) (hbd : ∀ i, i < a.length → (a.getD i ([], [])).1.length ≤ 9223372036854775807 ∧ (a.getD i ([], [])).2.length ≤ 9223372036854775807) :
    Does prog 17 [.agg #[cv, av], .agg #[dv, bv]] F (L) (fun v F' L' => (.bool (decide (c = d ∧ a = b)) : Value) = v ∧ F = F' ∧ L = L') := by
 refine qC func17 rfl rfl rfl (qc (qa (cX (qI [cv, av] rfl rfl ?_))))
 intro b1
 refine cX (qI [dv, bv] rfl rfl ?_)
 intro b2
 refine qd (.bool (false)) rfl (qb (qc (qc (qa (cX (qj (0) qU rfl qH (by decide) rfl rfl (cX (qr [cv] qZ qH rfl rfl (Rd.ownN [_] rfl rfl) (cX (qj (0) qU rfl qH (by decide) rfl rfl (cX (qr [dv] qZ qH rfl rfl (Rd.ownN [] rfl rfl) (cX (qq (args := [.agg #[cv], .agg #[dv]]) call76 rfl (eqSig_spec hc hd (hbd := (.inl hcl))) ?_))))))))))))))
 rintro _ _ _ _ ⟨rfl, rfl, rfl⟩
 refine cX (jx rfl (qb ?_))
 refine qw (p := ¬(c = d)) rfl (fun h1 => ?_) (fun h1 => ?_)
 ·refine qc (qa (qd (.bool (false)) rfl (qb (qp (qi (ql (L' := L) [.bool (false)] (.bool (false)) (.tmp rfl .nil) rfl rF rF (sD (sD sR)) ?_))))))
  exact ⟨(vB (decide_eq_false (by intro e; simp_all))), rfl, rfl⟩
 refine qx (qc (qc (qa (cX (qj (1) qU rfl jJ (by decide) rfl rfl (cX (qh isAgg37 rfl (Rd.own [_] rfl rfl) (cX (qj (1) qU rfl jJ (by decide) rfl rfl (cX (qh isAgg37 rfl (Rd.own [] rfl rfl) (cX (qq (args := [av, bv]) call77 rfl (eqRuleS_spec ha hb (hal := (by first | assumption | rfl | omega | simp)) (hbd := (by first | assumption | rfl | omega | simp))) ?_)))))))))))))
 rintro _ _ _ _ ⟨rfl, rfl, rfl⟩
 refine cX (jx rfl (qb ?_))
 refine qw (p := ¬(a = b)) rfl (fun h2 => ?_) (fun h2 => ?_)
 ·refine qc (qa (qd (.bool (false)) rfl (qb (qp (qi (ql (L' := L) [.bool (false)] (.bool (false)) (.tmp rfl .nil) rfl rF rF (sD (sD sR)) ?_))))))
  exact ⟨(vB (decide_eq_false (by intro e; simp_all))), rfl, rfl⟩
 refine qx (qc (qa (qd (.bool (true)) rfl (qb (qp (ql (L' := L) [.bool (true)] (.bool (true)) (.tmp rfl .nil) rfl rF rF (sD (sD sR)) ?_))))))
 exact ⟨(vB (decide_eq_true (by simp_all))), rfl, rfl⟩

/- laws.toInt64S -/
theorem toInt64S_spec {F : FH} {L : List HP} {xsv : Value} {xs : List Int} (hxs : IntsF F xsv xs) (hlx : xs.length ≤ 4000000) :
    Does prog 72 [xsv] F (L) (fun v F' L' => F = F' ∧ IsSl v ∧ intsH 2 v xs :: L = L') := by
 refine qC func72 rfl rfl rfl (qc (qa (qd (sN) rfl (qb (qc (qa (qg (xsv) rfl (cX (qB qf rfl hxs.slv (cX (XOp.makeSlice (n := (xs).length) (bytes := 8) [ii (0)] qf qy typeInfo2 rfl jr rfl rfl rfl rfl (by omega) (by omega) ?_)))))))))))
 intro v1 hv1
 rw [intsH_zeros]
 refine qd (v1) rfl (qb (qc (qc (qa (qd (ii (0)) rfl (qb (qG (jd (α := Nat × List Int) (fun xQ => [(0, xsv), (3, v1), (4, ii (((xQ.1 : Nat) : Int)))]) (fun xQ => intsH 2 v1 xQ.2 :: L) (fun xQ F' => F = F' ∧ (xQ.1 ≤ xs.length) ∧ (xQ.2.length = xs.length) ∧ (xQ.2.take xQ.1 = xs.take xQ.1)) (fun xQ => xs.length - xQ.1) (0, (List.replicate xs.length 0)) ⟨rfl, rfl, rfl, ⟨⟩⟩ (sC sR) ⟨rfl, (by (try dsimp only) <;> omega), (by simp), (rfl)⟩ ?_))))))))
 rintro ⟨k, os⟩ rE _ _ ⟨rfl, hk, hol, hos⟩
 show X _ _ _ _ (envs [(0, xsv), (3, v1), (4, ii ((k : Int)))] rE) _ (intsH 2 v1 os :: L)
 dsimp only at hk hol hos
 refine qc (qc (qa (qg (ii ((k : Int))) rfl (qg (xsv) rfl (cX (qB qf rfl hxs.slv (cX (qK rfl rfl (qb ?_)))))))))
 refine qw (p := (k : Int) < (xs.length : Int)) rfl (fun h1 => ?_) (fun h1 => ?_)
 ·refine qx (qc (qG (qa (qg (v1) rfl (qg (ii ((k : Int))) rfl (qg (xsv) rfl (qg (ii ((k : Int))) rfl (cX (qv k qf qy rfl rfl rfl hxs.slv (by omega) (Nat.mul_one _) (cX (qh qQ rfl (hxs.rd (by omega)) (cX (qv k qf qy rfl rfl rfl (intsH.slv [] rfl) (by omega) (Nat.mul_one _) (cX (intsH.storeX (i := k) (v := v1) [] _ (os.set k (xs.getD k 0)) qy rfl rfl rfl (by omega) rfl (qb (qa ?_)))))))))))))))))
  refine qg (ii ((k : Int))) rfl (cX (qN (((k + 1 : Nat) : Int)) rfl rfl (by omega) (by omega) (qd (ii (((k + 1 : Nat) : Int))) rfl (qb ?_))))
  exact ⟨(k + 1, (os.set k (xs.getD k 0))), _, FLe.refl _, rF, ⟨rfl, rfl, rfl, ⟨⟩⟩, (sC sR), ⟨rfl, (by (try dsimp only) <;> omega), (by dsimp only; rw [List.length_set]; exact hol), (by dsimp only; rw [take_set_next (by omega) (by omega), hos, take_succ_getD 0 (by omega)])⟩, (by omega)⟩
 refine jb (qu (qu (qJ (qc (qa (qg (v1) rfl (qd (v1) rfl (qb (qp (ql (L' := intsH 2 v1 os :: L) [v1] (v1) (.tmp rfl .nil) rfl rF rF (sC sR) ?_))))))))))
 refine ⟨rfl, (isSl_lit hv1), ?_⟩
 have hxs : (xs : List Int) = os := by rw [← List.take_of_length_le (l := xs) (i := k) (by omega), ← hos, List.take_of_length_le (by omega)]
 exact congrArg (fun z => intsH 2 _ z :: L) hxs

/- laws.toSig -/
theorem toSig_spec {F : FH} {L : List HP} {xsv : Value} {xs : List Int} (hxs : IntsF F xsv xs) (hlx : xs.length ≤ 4000000) :
    Does prog 69 [.agg #[xsv]] F (L) (fun v F' L' => ∃ (a : Value), (.agg #[a] : Value) = v ∧ (IntsF F' a xs) ∧ (Fresh F F' (star [intsH 2 a xs])) ∧ L = L') := by
 refine qC func69 rfl rfl rfl (qc (qa (cX (qI [xsv] rfl rfl ?_))))
 intro b1
 refine cX (qY [sN] zeroValue36 rfl ?_)
 intro b2
 refine qb (qc (qa (cX (qY [sN] zeroValue36 rfl ?_))))
 intro b3
 refine qb (qc (qa (cX (qj (0) runUnderlying24 rfl qs (by decide) rfl rfl (cX (qh qF rfl (Rd.own [_, _] rfl rfl) (cX (XOp.frzF <| qq (args := [xsv]) call72 rfl (toInt64S_spec hxs (hlx := (by first | assumption | rfl | omega | simp))) ?_))))))))
 rintro v1 _ _ _ ⟨rfl, hs1, rfl⟩
 refine ⟨_, _, rfl, fun F1 le1 hz1 => ?_⟩
 have hf1 : IntsF F1 v1 ((xs)) := intsH.fz (xs := (xs)) hz1.fz
 refine cX (qj (0) jl rfl qs (by decide) rfl rfl (cX (jt [] _ [v1] qs rfl rfl (qW (qM hf1)) rfl rfl rfl (qb (qc (qa (cX (qr [v1] qZ qH rfl rfl (Rd.ownN [] rfl rfl) (cX (qL [_] _ [v1] qH rfl rfl rfl (qz (qW (qM hf1)) qS) rfl rfl rfl (qb (qp (ql (L' := L) [.agg #[v1]] (.agg #[v1]) (.cell rfl (jq [v1] qZ qH rfl (Rd.ownN [_] rfl rfl)) .nil) rfl le1 rF (sD (sD (sD sR))) ?_)))))))))))))
 exact ⟨_, rfl, hf1, (Fresh.one hz1), rfl⟩

/- laws.toRule -/
theorem toRule_spec {F : FH} {L : List HP} {lv : Value} {l : List Int} (hl : IntsF F lv l) {rv : Value} {r : List Int} (hr : IntsF F rv r) (hll : l.length ≤ 4000000) (hlr : r.length ≤ 4000000) :
    Does prog 170 [.agg #[lv, rv]] F (L) (fun v F' L' => ∃ (a : Value), ∃ (b : Value), (.agg #[a, b] : Value) = v ∧ (IntsF F' a l) ∧ (IntsF F' b r) ∧ (Fresh F F' (star [intsH 2 a l, intsH 2 b r])) ∧ L = L') := by
 refine qC func170 rfl rfl rfl (qc (qa (cX (qI [lv, rv] rfl rfl ?_))))
 intro b1
 refine cX (qY [sN, sN] zeroValue76 rfl ?_)
 intro b2
 refine qb (qc (qa (cX (qY [sN, sN] zeroValue76 rfl ?_))))
 intro b3
 refine qb (qc (qa (cX (qj (0) runUnderlying224 rfl qs (by decide) rfl rfl (cX (qh qF rfl (Rd.own [_, _] rfl rfl) (cX (XOp.frzF <| qq (args := [lv]) call72 rfl (toInt64S_spec hl (hlx := (by first | assumption | rfl | omega | simp))) ?_))))))))
 rintro v1 _ _ _ ⟨rfl, hs1, rfl⟩
 refine ⟨_, _, rfl, fun F1 le1 hz1 => ?_⟩
 replace hr := hr.mono le1
 have hf1 : IntsF F1 v1 ((l)) := intsH.fz (xs := (l)) hz1.fz
 refine cX (qj (0) jc rfl qs (by decide) rfl rfl (cX (jt [] _ [v1, sN] qs rfl rfl (qW (qM hf1)) rfl rfl rfl (qb (qc (qa (cX (qj (1) runUnderlying224 rfl qs (by decide) rfl rfl (cX (qh qF rfl (Rd.own [_, _] rfl rfl) (cX (XOp.frzF <| qq (args := [rv]) call72 rfl (toInt64S_spec hr (hlx := (by first | assumption | rfl | omega | simp))) ?_))))))))))))
 rintro v2 _ _ _ ⟨rfl, hs2, rfl⟩
 refine ⟨_, _, rfl, fun F2 le2 hz2 => ?_⟩
 replace hf1 := hf1.mono le2
 have hf2 : IntsF F2 v2 ((r)) := intsH.fz (xs := (r)) hz2.fz
 refine cX (qj (1) jc rfl qs (by decide) rfl rfl (cX (jt [] _ [v1, v2] qs rfl rfl (qW (qM hf2)) rfl rfl rfl (qb (qc (qa (cX (qr [v1, v2] isAgg76 jy rfl rfl (Rd.ownN [] rfl rfl) (cX (qL [_] _ [v1, v2] jy rfl rfl rfl (qz (qW (qM hf1)) (qz (qW (qM hf2)) qS)) rfl rfl rfl (qb (qp (ql (L' := L) [.agg #[v1, v2]] (.agg #[v1, v2]) (.cell rfl (jq [v1, v2] isAgg76 jy rfl (Rd.ownN [_] rfl rfl)) .nil) rfl (qD le1 le2) rF (sD (sD (sD sR))) ?_)))))))))))))
 exact ⟨_, _, rfl, hf1, hf2, (Fresh.app (Fresh.one hz1) le1 (Fresh.one hz2) le2), rfl⟩

/- laws.toStep -/
theorem toStep_spec {F : FH} {L : List HP} {i : Int} {j : Int} {lv : Value} {l : List Int} (hl : IntsF F lv l) (hll : l.length ≤ 4000000) :
    Does prog 171 [.agg #[ii (i), ii (j), lv]] F (L) (fun v F' L' => ∃ (a : Value), (.agg #[ii (i), ii (j), a] : Value) = v ∧ (IntsF F' a l) ∧ (Fresh F F' (star [intsH 2 a l])) ∧ L = L') := by
 refine qC func171 rfl rfl rfl (qc (qa (cX (qI [ii (i), ii (j), lv] rfl rfl ?_))))
 intro b1
 refine cX (qY [ii (0), ii (0), sN] zeroValue192 rfl ?_)
 intro b2
 refine qb (qc (qa (cX (qY [ii (0), ii (0), sN] zeroValue192 rfl ?_))))
 intro b3
 refine qb (qc (qa (cX (qj (0) runUnderlying226 rfl qy (by decide) rfl rfl (cX (qh qQ rfl (Rd.own [_, _] rfl rfl) (cX (qj (0) js rfl qy (by decide) rfl rfl (cX (jt [] _ [ii (i), ii (0), sN] qy rfl rfl rfl rfl rfl rfl (qb (qc (qa (cX (qj (1) runUnderlying226 rfl qy (by decide) rfl rfl (cX (qh qQ rfl (Rd.own [_, _] rfl rfl) (cX (qj (1) js rfl qy (by decide) rfl rfl (cX (jt [] _ [ii (i), ii (j), sN] qy rfl rfl rfl rfl rfl rfl ?_)))))))))))))))))))))
 refine qb (qc (qa (cX (qj (2) runUnderlying226 rfl qs (by decide) rfl rfl (cX (qh qF rfl (Rd.own [_, _] rfl rfl) (cX (XOp.frzF <| qq (args := [lv]) call72 rfl (toInt64S_spec hl (hlx := (by first | assumption | rfl | omega | simp))) ?_))))))))
 rintro v1 _ _ _ ⟨rfl, hs1, rfl⟩
 refine ⟨_, _, rfl, fun F1 le1 hz1 => ?_⟩
 have hf1 : IntsF F1 v1 ((l)) := intsH.fz (xs := (l)) hz1.fz
 refine cX (qj (2) js rfl qs (by decide) rfl rfl (cX (jt [] _ [ii (i), ii (j), v1] qs rfl rfl (qW (qM hf1)) rfl rfl rfl (qb (qc (qa (cX (qr [ii (i), ii (j), v1] isAgg192 jK rfl rfl (Rd.ownN [] rfl rfl) (cX (qL [_] _ [ii (i), ii (j), v1] jK rfl rfl rfl (qz rfl (qz rfl (qz (qW (qM hf1)) qS))) rfl rfl rfl (qb (qp (ql (L' := L) [.agg #[ii (i), ii (j), v1]] (.agg #[ii (i), ii (j), v1]) (.cell rfl (jq [ii (i), ii (j), v1] isAgg192 jK rfl (Rd.ownN [_] rfl rfl)) .nil) rfl le1 rF (sD (sD (sD sR))) ?_)))))))))))))
 exact ⟨_, rfl, hf1, (Fresh.one hz1), rfl⟩

/- laws.toRuleS -/
theorem toRuleS_spec {F : FH} {L : List HP} {xv : Value} {x : List (List Int × List Int)} (hx : PairsF F xv x) (hlx : x.length ≤ 4000000) (hrb : ∀ i, i < x.length → (x.getD i ([], [])).1.length ≤ 4000000 ∧ (x.getD i ([], [])).2.length ≤ 4000000) :
    Does prog 70 [xv] F (L) (fun v F' L' => ∃ (a : Value), (a : Value) = v ∧ (PairsF F' a x) ∧ (Fresh F F' (star [pairsD 2 76 a x])) ∧ L = L') := by
 refine qC func70 rfl rfl rfl (qc (qa (qd (sN) rfl (qb (qc (qa (qg (xv) rfl (cX (qB runUnderlying25 rfl hx.slv (cX (XOp.makeSlice (n := (x).length) (bytes := 48) [sN, sN] ji jy typeInfo76 rfl zeroValue76 rfl rfl rfl rfl (by omega) (by omega) ?_)))))))))))
 intro v1 hv1
 obtain ⟨cs1, hq1, hc1⟩ : ∃ cs, ((List.range (((x).length) * 2)).map fun i => [sN, sN].toArray[i % [sN, sN].toArray.size]!) = cs ∧ PairsC F cs (List.replicate ((x).length) ([], []) : List (List Int × List Int)) := ⟨_, rfl, PairsC.nils _⟩
 rw [hq1]
 refine qd (v1) rfl (qb (qc (qc (qa (qd (ii (0)) rfl (qb (qG ?_)))))))
 obtain ⟨L0, hD0, hS0⟩ := deepNils2 2 x.length
 rw [hq1] at hD0
 refine jd (α := Nat × List (List Int × List Int) × List Value × List HP × FH) (fun xQ => [(0, xv), (3, v1), (4, ii (((xQ.1 : Nat) : Int)))]) (fun xQ => slH 76 2 v1 x.length xQ.2.2.1 :: L) (fun xQ F' => xQ.2.2.2.2 = F' ∧ F ≤ xQ.2.2.2.2 ∧ (PairsC xQ.2.2.2.2 xQ.2.2.1 xQ.2.1) ∧ (xQ.1 ≤ x.length) ∧ (xQ.2.1.length = x.length) ∧ (xQ.2.1.take xQ.1 = x.take xQ.1) ∧ (DeepL 2 (PairO 2) xQ.2.2.1 xQ.2.1 xQ.2.2.2.1) ∧ (Fresh F xQ.2.2.2.2 (star xQ.2.2.2.1))) (fun xQ => x.length - xQ.1) (0, (List.replicate ((x).length) ([], []) : List (List Int × List Int)), cs1, L0, F) ⟨rfl, rfl, rfl, ⟨⟩⟩ (sC sR) ⟨rfl, FLe.refl _, (hc1), (by (try dsimp only) <;> omega), (by simp), (rfl), (hD0), (Fresh.empty hS0)⟩ ?_
 rintro ⟨k, os, cs, Ls, G1⟩ rE _ _ ⟨rfl, leG, hC, hk, hol, hos, hD, hZ⟩
 show X _ _ _ _ (envs [(0, xv), (3, v1), (4, ii ((k : Int)))] rE) _ (slH 76 2 v1 x.length cs :: L)
 replace leG : F ≤ G1 := leG
 dsimp only at hC hk hol hos hD hZ
 have hrk := hrb k
 have leG1 := leG
 replace hx := hx.mono leG1
 refine qc (qc (qa (qg (ii ((k : Int))) rfl (qg (xv) rfl (cX (qB runUnderlying25 rfl hx.slv (cX (qK rfl rfl (qb ?_)))))))))
 refine qw (p := (k : Int) < (x.length : Int)) rfl (fun h1 => ?_) (fun h1 => ?_)
 ·refine qx (qc (qG (qa (qg (v1) rfl (qg (ii ((k : Int))) rfl (qg (xv) rfl (qg (ii ((k : Int))) rfl (cX (qv k runUnderlying25 sizeOf224 rfl rfl rfl hx.slv (by omega) rfl ?_)))))))))
  obtain ⟨a1, a2, ha1, ha2, hr1, hr2⟩ := hx.rd (i := k) (by omega)
  refine cX (qr [a1, a2] isAgg224 sizeOf224 rfl rfl (Rd.two (hr1 _) (hr2 _)) (cX (qq (args := [.agg #[a1, a2]]) call170 rfl (toRule_spec ha1 ha2 (hll := (by first | assumption | rfl | omega | simp)) (hlr := (by first | assumption | rfl | omega | simp))) ?_)))
  rintro _ F1 _ le1 ⟨x1, x2, rfl, hr3, hr4, hr5, rfl⟩
  replace hC := hC.mono le1
  refine cX (qv k ji jy rfl rfl rfl (SlV.own [] rfl) (by omega) rfl (cX (XOp.storeSN (i := k * 2) (m := 2) (vs := [x1, x2]) (cs := cs) [] _ jy rfl rfl rfl (qz (qW (qM hr3)) (qz (qW (qM hr4)) qS)) rfl (show k * 2 + 2 ≤ _ from by have h9 := CO.len hC; (try simp only [List.length_set, List.length_replicate] at h9); omega) (Nat.succ_pos _) ?_)))
  have hc2 := hC.set (j := k) (by (try simp only [List.length_set, List.length_replicate]); omega) hr3 hr4
  refine qb (qa (qg (ii ((k : Int))) rfl (cX (qN (((k + 1 : Nat) : Int)) rfl rfl (by omega) (by omega) (qd (ii (((k + 1 : Nat) : Int))) rfl (qb ?_))))))
  obtain ⟨A, K, B, es, hLs, hel, hR, hg, hput⟩ := hD.at (d := ([], [])) (k := k) (by omega)
  rw [hLs] at hZ
  have hDn := hput _ (((x.getD k ([], [])).1), ((x.getD k ([], [])).2)) [intsH 2 x1 (((x.getD k ([], [])).1)), intsH 2 x2 (((x.getD k ([], [])).2))] rfl ⟨_, _,  rfl, rfl⟩
  exact ⟨(k + 1, (os.set k (((x.getD k ([], [])).1), ((x.getD k ([], [])).2))), (cs.take (k * 2) ++ [x1, x2] ++ cs.drop (k * 2 + 2)), A ++ ([intsH 2 x1 (((x.getD k ([], [])).1)), intsH 2 x2 (((x.getD k ([], [])).2))] ++ B), F1), _, (qD leG1 le1), rF, ⟨rfl, rfl, rfl, ⟨⟩⟩, (sC sR), ⟨rfl, (qD leG1 le1), (hc2), (by (try dsimp only) <;> omega), (by dsimp only; rw [List.length_set]; exact hol), (by dsimp only; rw [take_set_any (by omega), hos, take_succ_getD ([], []) (by omega)]), (hDn), ((Fresh.swap hZ leG1 hr5 le1))⟩, (by omega)⟩
 refine jb (qu (qu (qJ (qc (qa (qg (v1) rfl (qd (v1) rfl (qb (ju [] _ _ rfl (fun F2 le2 hz1 => ?_))))))))))
 replace hC := hC.mono le2
 have hf1 : PairsF F2 v1 os := CO.fz hC (by first | rfl | omega | (rw [List.length_set]; omega) | (simp; done)) hz1.fz
 refine qp (ql (L' := L) [v1] (v1) (.tmp rfl .nil) rfl (qD leG1 le2) rF sR ?_)
 have e : os = x := by rw [← List.take_of_length_le (l := x) (i := k) (by omega), ← hos, List.take_of_length_le (by omega)]
 subst e
 exact ⟨_, rfl, hf1, Fresh.one (Fresh.deep hD hZ leG1 hz1 rfl le2), rfl⟩

/- laws.toStepS -/
theorem toStepS_spec {F : FH} {L : List HP} {xv : Value} {x : List StepT} (hx : StepsF F xv x) (hlx : x.length ≤ 4000000) (hrb : ∀ i, i < x.length → (x.getD i (0, 0, [])).2.2.length ≤ 4000000) :
    Does prog 73 [xv] F (L) (fun v F' L' => ∃ (a : Value), (a : Value) = v ∧ (StepsF F' a x) ∧ (Fresh F F' (star [stepsD 2 192 a x])) ∧ L = L') := by
 refine qC func73 rfl rfl rfl (qc (qa (qd (sN) rfl (qb (qc (qa (qg (xv) rfl (cX (qB runUnderlying29 rfl hx.slv (cX (XOp.makeSlice (n := (x).length) (bytes := 40) [ii (0), ii (0), sN] jp jK typeInfo192 rfl zeroValue192 rfl rfl rfl rfl (by omega) (by omega) ?_)))))))))))
 intro v1 hv1
 obtain ⟨cs1, hq1, hc1⟩ : ∃ cs, ((List.range (((x).length) * 3)).map fun i => [Value.int .i64 0, Value.int .i64 0, sN].toArray[i % [Value.int .i64 0, Value.int .i64 0, sN].toArray.size]!) = cs ∧ StepsC F cs (List.replicate ((x).length) (0, 0, []) : List StepT) := ⟨_, rfl, by obtain ⟨_, h1, h2⟩ := deepNils3 2 ((x).length); exact DeepL.stepsNil h1 h2⟩
 rw [hq1]
 refine qd (v1) rfl (qb (qc (qc (qa (qd (ii (0)) rfl (qb (qG ?_)))))))
 obtain ⟨L0, hD0, hS0⟩ := deepNils3 2 x.length
 rw [hq1] at hD0
 refine jd (α := Nat × List StepT × List Value × List HP × FH) (fun xQ => [(0, xv), (3, v1), (4, ii (((xQ.1 : Nat) : Int)))]) (fun xQ => slH 192 3 v1 x.length xQ.2.2.1 :: L) (fun xQ F' => xQ.2.2.2.2 = F' ∧ F ≤ xQ.2.2.2.2 ∧ (StepsC xQ.2.2.2.2 xQ.2.2.1 xQ.2.1) ∧ (xQ.1 ≤ x.length) ∧ (xQ.2.1.length = x.length) ∧ (xQ.2.1.take xQ.1 = x.take xQ.1) ∧ (DeepL 3 (StepO 2) xQ.2.2.1 xQ.2.1 xQ.2.2.2.1) ∧ (Fresh F xQ.2.2.2.2 (star xQ.2.2.2.1))) (fun xQ => x.length - xQ.1) (0, (List.replicate ((x).length) (0, 0, []) : List StepT), cs1, L0, F) ⟨rfl, rfl, rfl, ⟨⟩⟩ (sC sR) ⟨rfl, FLe.refl _, (hc1), (by (try dsimp only) <;> omega), (by simp), (rfl), (hD0), (Fresh.empty hS0)⟩ ?_
 rintro ⟨k, os, cs, Ls, G1⟩ rE _ _ ⟨rfl, leG, hC, hk, hol, hos, hD, hZ⟩
 show X _ _ _ _ (envs [(0, xv), (3, v1), (4, ii ((k : Int)))] rE) _ (slH 192 3 v1 x.length cs :: L)
 replace leG : F ≤ G1 := leG
 dsimp only at hC hk hol hos hD hZ
 have hrk := hrb k
 have leG1 := leG
 replace hx := hx.mono leG1
 refine qc (qc (qa (qg (ii ((k : Int))) rfl (qg (xv) rfl (cX (qB runUnderlying29 rfl hx.slv (cX (qK rfl rfl (qb ?_)))))))))
 refine qw (p := (k : Int) < (x.length : Int)) rfl (fun h1 => ?_) (fun h1 => ?_)
 ·refine qx (qc (qG (qa (qg (v1) rfl (qg (ii ((k : Int))) rfl (qg (xv) rfl (qg (ii ((k : Int))) rfl (cX (qv k runUnderlying29 sizeOf226 rfl rfl rfl hx.slv (by omega) rfl ?_)))))))))
  obtain ⟨a1, ha1, hr1, hr2, hr3⟩ := hx.rd (i := k) (by omega)
  refine cX (qr [ii ((x.getD k (0, 0, [])).1), ii ((x.getD k (0, 0, [])).2.1), a1] isAgg226 sizeOf226 rfl rfl (Rd.three (hr1 _) (hr2 _) (hr3 _)) (cX (qq (args := [.agg #[ii ((x.getD k (0, 0, [])).1), ii ((x.getD k (0, 0, [])).2.1), a1]]) call171 rfl (toStep_spec ha1 (hll := (by first | assumption | rfl | omega | simp))) ?_)))
  rintro _ F1 _ le1 ⟨x1, rfl, hr4, hr5, rfl⟩
  replace hC := hC.mono le1
  refine cX (qv k jp jK rfl rfl rfl (SlV.own [] rfl) (by omega) rfl (cX (XOp.storeSN (i := k * 3) (m := 3) (vs := [ii (((x.getD k (0, 0, [])).1)), ii (((x.getD k (0, 0, [])).2.1)), x1]) (cs := cs) [] _ jK rfl rfl rfl (qz rfl (qz rfl (qz (qW (qM hr4)) qS))) rfl (show k * 3 + 3 ≤ _ from by have h9 := CO.len hC; (try simp only [List.length_set, List.length_replicate] at h9); omega) (Nat.succ_pos _) ?_)))
  have hc2 := hC.set (j := k) (a := (((x.getD k (0, 0, [])).1))) (b := (((x.getD k (0, 0, [])).2.1))) (by (try simp only [List.length_set, List.length_replicate]); omega) hr4
  refine qb (qa (qg (ii ((k : Int))) rfl (cX (qN (((k + 1 : Nat) : Int)) rfl rfl (by omega) (by omega) (qd (ii (((k + 1 : Nat) : Int))) rfl (qb ?_))))))
  obtain ⟨A, K, B, es, hLs, hel, hR, hg, hput⟩ := hD.at (d := ((0 : Int), (0 : Int), ([] : List Int))) (k := k) (by omega)
  rw [hLs] at hZ
  have hDn := hput _ (((x.getD k (0, 0, [])).1), ((x.getD k (0, 0, [])).2.1), ((x.getD k (0, 0, [])).2.2)) [intsH 2 x1 (((x.getD k (0, 0, [])).2.2))] rfl ⟨_,  rfl, rfl⟩
  exact ⟨(k + 1, (os.set k (((x.getD k (0, 0, [])).1), ((x.getD k (0, 0, [])).2.1), ((x.getD k (0, 0, [])).2.2))), (cs.take (k * 3) ++ [ii (((x.getD k (0, 0, [])).1)), ii (((x.getD k (0, 0, [])).2.1)), x1] ++ cs.drop (k * 3 + 3)), A ++ ([intsH 2 x1 (((x.getD k (0, 0, [])).2.2))] ++ B), F1), _, (qD leG1 le1), rF, ⟨rfl, rfl, rfl, ⟨⟩⟩, (sC sR), ⟨rfl, (qD leG1 le1), (hc2), (by (try dsimp only) <;> omega), (by dsimp only; rw [List.length_set]; exact hol), (by dsimp only; rw [take_set_any (by omega), hos, take_succ_getD ((0 : Int), (0 : Int), ([] : List Int)) (by omega)]), (hDn), ((Fresh.swap hZ leG1 hr5 le1))⟩, (by omega)⟩
 refine jb (qu (qu (qJ (qc (qa (qg (v1) rfl (qd (v1) rfl (qb (ju [] _ _ rfl (fun F2 le2 hz1 => ?_))))))))))
 replace hC := hC.mono le2
 have hf1 : StepsF F2 v1 os := CO.fz hC (by first | rfl | omega | (rw [List.length_set]; omega) | (simp; done)) hz1.fz
 refine qp (ql (L' := L) [v1] (v1) (.tmp rfl .nil) rfl (qD leG1 le2) rF sR ?_)
 have e : os = x := by rw [← List.take_of_length_le (l := x) (i := k) (by omega), ← hos, List.take_of_length_le (by omega)]
 subst e
 exact ⟨_, rfl, hf1, Fresh.one (Fresh.deep hD hZ leG1 hz1 rfl le2), rfl⟩

/- laws.toSystem -/
theorem toSystem_spec {F : FH} {L : List HP} {arv : Value} {ar : List Int} (har : IntsF F arv ar) {rsv : Value} {rs : List (List Int × List Int)} (hrs : PairsF F rsv rs) (hla : ar.length ≤ 4000000) (hrl : rs.length ≤ 4000000) (hrb : ∀ i, i < rs.length → (rs.getD i ([], [])).1.length ≤ 4000000 ∧ (rs.getD i ([], [])).2.length ≤ 4000000) :
    Does prog 13 [.agg #[arv, rsv]] F (L) (fun v F' L' => ∃ (a : Value), ∃ (b : Value), (.agg #[a, b] : Value) = v ∧ (IntsF F' a ar) ∧ (PairsF F' b rs) ∧ (Fresh F F' (star [intsH 2 a ar, pairsD 2 76 b rs])) ∧ L = L') := by
 refine qC func13 rfl rfl rfl (qc (qa (cX (qI [arv, rsv] rfl rfl ?_))))
 intro b1
 refine cX (qY [sN, sN] zeroValue39 rfl ?_)
 intro b2
 refine qb (qc (qa (cX (qY [sN, sN] zeroValue39 rfl ?_))))
 intro b3
 refine qb (qc (qa (cX (qj (0) runUnderlying27 rfl sizeOf24 (by decide) rfl rfl (cX (qr [arv] isAgg24 sizeOf24 rfl rfl (Rd.ownN [_, _] rfl rfl) (cX (qq (args := [.agg #[arv]]) call69 rfl (toSig_spec har (hlx := (by first | assumption | rfl | omega | simp))) ?_))))))))
 rintro _ F1 _ le1 ⟨x1, rfl, hr1, hr2, rfl⟩
 replace hrs := hrs.mono le1
 refine cX (qj (0) qU rfl qH (by decide) rfl rfl (cX (qL [] _ [x1, sN] qH rfl rfl rfl (qz (qW (qM hr1)) qS) rfl rfl rfl (qb (qc (qa (cX (qj (1) runUnderlying27 rfl sizeOf25 (by decide) rfl rfl (cX (qh isAgg25 rfl (Rd.own [_, _] rfl rfl) (cX (qq (args := [rsv]) call70 rfl (toRuleS_spec hrs (hlx := (by first | assumption | rfl | omega | simp)) (hrb := (by first | assumption | rfl | omega | simp))) ?_))))))))))))
 rintro _ F2 _ le2 ⟨x2, rfl, hr3, hr4, rfl⟩
 replace hr1 := hr1.mono le2
 refine cX (qj (1) qU rfl jJ (by decide) rfl rfl (cX (jt [] _ [x1, x2] jJ rfl rfl (qW (PairsF.isSl hr3)) rfl rfl rfl (qb (qc (qa (cX (qr [x1, x2] jG jz rfl rfl (Rd.ownN [] rfl rfl) (cX (qL [_] _ [x1, x2] jz rfl rfl rfl (qz (qW (qM hr1)) (qz (qW (PairsF.isSl hr3)) qS)) rfl rfl rfl (qb (qp (ql (L' := L) [.agg #[x1, x2]] (.agg #[x1, x2]) (.cell rfl (jq [x1, x2] jG jz rfl (Rd.ownN [_] rfl rfl)) .nil) rfl (qD le1 le2) rF (sD (sD (sD sR))) ?_)))))))))))))
 exact ⟨_, _, rfl, hr1, hr3, (Fresh.app hr2 le1 hr4 le2), rfl⟩

/- laws.toWalk -/
theorem toWalk_spec {F : FH} {L : List HP} {fv : Value} {f : List Int} (hf : IntsF F fv f) {ssv : Value} {ss : List StepT} (hss : StepsF F ssv ss) (hfl : f.length ≤ 4000000) (hsl : ss.length ≤ 4000000) (hsb : ∀ i, i < ss.length → (ss.getD i (0, 0, [])).2.2.length ≤ 4000000) :
    Does prog 15 [.agg #[fv, ssv]] F (L) (fun v F' L' => ∃ (a : Value), ∃ (b : Value), (.agg #[a, b] : Value) = v ∧ (IntsF F' a f) ∧ (StepsF F' b ss) ∧ (Fresh F F' (star [intsH 2 a f, stepsD 2 192 b ss])) ∧ L = L') := by
 refine qC func15 rfl rfl rfl (qc (qa (cX (qI [fv, ssv] rfl rfl ?_))))
 intro b1
 refine cX (qY [sN, sN] zeroValue45 rfl ?_)
 intro b2
 refine qb (qc (qa (cX (qY [sN, sN] zeroValue45 rfl ?_))))
 intro b3
 refine qb (qc (qa (cX (qj (0) runUnderlying31 rfl qs (by decide) rfl rfl (cX (qh qF rfl (Rd.own [_, _] rfl rfl) (cX (XOp.frzF <| qq (args := [fv]) call72 rfl (toInt64S_spec hf (hlx := (by first | assumption | rfl | omega | simp))) ?_))))))))
 rintro v1 _ _ _ ⟨rfl, hs1, rfl⟩
 refine ⟨_, _, rfl, fun F1 le1 hz1 => ?_⟩
 replace hss := hss.mono le1
 have hf1 : IntsF F1 v1 ((f)) := intsH.fz (xs := (f)) hz1.fz
 refine cX (qj (0) jj rfl qs (by decide) rfl rfl (cX (jt [] _ [v1, sN] qs rfl rfl (qW (qM hf1)) rfl rfl rfl (qb (qc (qa (cX (qj (1) runUnderlying31 rfl sizeOf29 (by decide) rfl rfl (cX (qh isAgg29 rfl (Rd.own [_, _] rfl rfl) (cX (qq (args := [ssv]) call73 rfl (toStepS_spec hss (hlx := (by first | assumption | rfl | omega | simp)) (hrb := (by first | assumption | rfl | omega | simp))) ?_))))))))))))
 rintro _ F2 _ le2 ⟨x1, rfl, hr1, hr2, rfl⟩
 replace hf1 := hf1.mono le2
 refine cX (qj (1) jj rfl sizeOf43 (by decide) rfl rfl (cX (jt [] _ [v1, x1] sizeOf43 rfl rfl (qW (StepsF.isSl hr1)) rfl rfl rfl (qb (qc (qa (cX (qr [v1, x1] isAgg45 sizeOf45 rfl rfl (Rd.ownN [] rfl rfl) (cX (qL [_] _ [v1, x1] sizeOf45 rfl rfl rfl (qz (qW (qM hf1)) (qz (qW (StepsF.isSl hr1)) qS)) rfl rfl rfl (qb (qp (ql (L' := L) [.agg #[v1, x1]] (.agg #[v1, x1]) (.cell rfl (jq [v1, x1] isAgg45 sizeOf45 rfl (Rd.ownN [_] rfl rfl)) .nil) rfl (qD le1 le2) rF (sD (sD (sD sR))) ?_)))))))))))))
 exact ⟨_, _, rfl, hf1, hr1, (Fresh.app (Fresh.one hz1) le1 hr2 le2), rfl⟩

/- laws.szStep -/
theorem szStep_spec {F : FH} {L : List HP} {i : Int} {j : Int} {lv : Value} {l : List Int} (hl : IntsF F lv l) {z : Int} (hz : 0 ≤ z ∧ z ≤ 4000000) (hll : l.length ≤ 9223372036854775807) :
    Does prog 167 [.agg #[ii (i), ii (j), lv], ii (z)] F (L) (fun v F' L' => (ii (dec z l.length) : Value) = v ∧ F = F' ∧ L = L') := by
 refine qC func167 rfl rfl rfl ?_
 have hdr := dec_range z l.length
 refine qc (qa (cX (qI [ii (i), ii (j), lv] rfl rfl ?_)))
 intro b1
 refine qd (ii (0)) rfl (qb (qc (qa (cX (qj (2) runUnderlying226 rfl qs (by decide) rfl rfl (cX (qh qF rfl (Rd.own [] rfl rfl) (qg (ii (z)) rfl (cX (qq (args := [lv, ii (z)]) call65 rfl (szInt64S_spec (z := z) hl (hz := (by first | assumption | rfl | omega | simp)) (hlx := (by first | assumption | rfl | omega | simp))) ?_))))))))))
 rintro _ _ _ _ ⟨rfl, rfl, rfl⟩
 refine qd (ii (dec z l.length)) rfl (qb (qc (qc (qa (qg (ii (dec z l.length)) rfl (cX (qK rfl rfl (qb ?_))))))))
 refine qw (p := (dec z l.length : Int) < 0) rfl (fun h1 => ?_) (fun h1 => ?_)
 ·refine qc (qa (qd (ii (-1)) rfl (qb (qp (qi (ql (L' := L) [ii (-1)] (ii (-1)) (.tmp rfl .nil) rfl rF rF (sD sR) ?_))))))
  exact ⟨(vI (by omega)), rfl, rfl⟩
 refine qx (qc (qa (qg (ii (dec z l.length)) rfl (qd (ii (dec z l.length)) rfl (qb (qp (ql (L' := L) [ii (dec z l.length)] (ii (dec z l.length)) (.tmp rfl .nil) rfl rF rF (sD sR) ?_)))))))
 exact ⟨rfl, rfl, rfl⟩

/- laws.szStepS -/
theorem szStepS_spec {F : FH} {L : List HP} {rsv : Value} {rs : List StepT} (hrs : StepsF F rsv rs) {z : Int} (hz : 0 ≤ z ∧ z ≤ 4000000) (hrl : rs.length ≤ 9223372036854775807) (hrb : ∀ i, i < rs.length → (rs.getD i (0, 0, [])).2.2.length ≤ 9223372036854775807) :
    Does prog 66 [rsv, ii (z)] F (L) (fun v F' L' => (ii (dec z (szG lenS rs)) : Value) = v ∧ F = F' ∧ L = L') := by
 refine qC func66 rfl rfl rfl (qc (qa (qd (ii (0)) rfl (qb (qc (qa (qg (ii (z)) rfl (qg (rsv) rfl (cX (qB runUnderlying29 rfl hrs.slv (cX (jo (z - ((rs.length : Int))) rfl rfl (by omega) (by omega) (qd (ii (z - ((rs.length : Int)))) rfl (qb (qc (qc (qa ?_)))))))))))))))))
 refine qg (ii (z - ((rs.length : Int)))) rfl (cX (qK rfl rfl (qb ?_)))
 refine qw (p := (z - ((rs.length : Int)) : Int) < 0) rfl (fun h1 => ?_) (fun h1 => ?_)
 ·refine qc (qa (qd (ii (-1)) rfl (qb (qp (qi (ql (L' := L) [ii (-1)] (ii (-1)) (.tmp rfl .nil) rfl rF rF sR ?_))))))
  exact ⟨(vI (dec_mono (n := rs.length) (by rw [dec_neg (by omega)]; omega) (by unfold szG; omega))), rfl, rfl⟩
 refine qx (qc (qc (qa (qd (ii (0)) rfl (qb (qG (jd (α := Nat) (fun k => [(0, rsv), (1, ii (dec z (rs.length + gTo lenS rs k))), (5, ii ((k : Int)))]) (fun k => L) (fun k F' => F = F' ∧ (k ≤ rs.length) ∧ (0 ≤ dec z (rs.length + gTo lenS rs k))) (fun k => rs.length - k) 0 ⟨rfl, (vI (by show z - rs.length = dec z (rs.length + 0); rw [Nat.add_zero, dec_pos (by omega)])), rfl, ⟨⟩⟩ sR ⟨rfl, (by (try dsimp only) <;> omega), (by show 0 ≤ dec z (rs.length + 0); rw [Nat.add_zero, dec_pos (by omega)]; omega)⟩ ?_)))))))
 rintro k rE _ _ ⟨rfl, hk, hnn⟩
 show X _ _ _ _ (envs [(0, rsv), (1, ii (dec z (rs.length + gTo lenS rs k))), (5, ii ((k : Int)))] rE) _ (L)
 have hdr := dec_range z (rs.length + gTo lenS rs k)
 have hrk := hrb k
 have hgk : lenS (rs.getD k (0, 0, [])) = (rs.getD k (0, 0, [])).2.2.length := rfl
 refine qc (qc (qa (qg (ii ((k : Int))) rfl (qg (rsv) rfl (cX (qB runUnderlying29 rfl hrs.slv (cX (qK rfl rfl (qb ?_)))))))))
 refine qw (p := (k : Int) < (rs.length : Int)) rfl (fun h2 => ?_) (fun h2 => ?_)
 ·refine qx (qc (qG (qc (qa (qg (rsv) rfl (qg (ii ((k : Int))) rfl (cX (qv k runUnderlying29 sizeOf226 rfl rfl rfl hrs.slv (by omega) rfl ?_))))))))
  obtain ⟨a1, ha1, hr1, hr2, hr3⟩ := hrs.rd (i := k) (by omega)
  refine cX (qr [ii ((rs.getD k (0, 0, [])).1), ii ((rs.getD k (0, 0, [])).2.1), a1] isAgg226 sizeOf226 rfl rfl (Rd.three (hr1 _) (hr2 _) (hr3 _)) (qg (ii (dec z (rs.length + gTo lenS rs k))) rfl (cX (qq (args := [.agg #[ii ((rs.getD k (0, 0, [])).1), ii ((rs.getD k (0, 0, [])).2.1), a1], ii (dec z (rs.length + gTo lenS rs k))]) call167 rfl (szStep_spec (z := dec z (rs.length + gTo lenS rs k)) ha1 (hz := (by first | assumption | rfl | omega | simp)) (hll := (by first | assumption | rfl | omega | simp))) ?_))))
  rintro _ _ _ _ ⟨rfl, rfl, rfl⟩
  refine qd (ii (dec (dec z (rs.length + gTo lenS rs k)) ((rs.getD k (0, 0, [])).2.2).length)) rfl (qb (qc (qa (qg (ii (dec (dec z (rs.length + gTo lenS rs k)) ((rs.getD k (0, 0, [])).2.2).length)) rfl (cX (qK rfl rfl (qb ?_)))))))
  refine qw (p := (dec (dec z (rs.length + gTo lenS rs k)) ((rs.getD k (0, 0, [])).2.2).length : Int) < 0) rfl (fun h3 => ?_) (fun h3 => ?_)
  ·refine qc (qa (qd (ii (-1)) rfl (qb (qp (qA (qi (qi (qA (qi (ql (L' := L) [ii (-1)] (ii (-1)) (.tmp rfl .nil) rfl rF rF sR ?_))))))))))
   exact ⟨(vI (by have h9 := gTo_le (f := lenS) (l := rs) ((0 : Int), (0 : Int), ([] : List Int)) (k + 1) rs.length (by omega) (Nat.le_refl _); refine dec_mono (n := rs.length + gTo lenS rs (k + 1)) ?_ (by unfold szG; omega); rw [← gTo_succ ((0 : Int), (0 : Int), ([] : List Int)) (by omega), ← Nat.add_assoc, ← dec_dec (by omega)]; assumption)), rfl, rfl⟩
  refine qx (qa (qg (ii ((k : Int))) rfl (cX (qN (((k + 1 : Nat) : Int)) rfl rfl (by omega) (by omega) (qd (ii (((k + 1 : Nat) : Int))) rfl (qb ?_))))))
  exact ⟨k + 1, _, FLe.refl _, rF, ⟨rfl, (vI (by rw [dec_dec (by omega), Nat.add_assoc, ← gTo_succ ((0 : Int), (0 : Int), ([] : List Int)) (by omega)]; rfl)), rfl, ⟨⟩⟩, sR, ⟨rfl, (by (try dsimp only) <;> omega), (by (try dsimp only); rw [← gTo_succ ((0 : Int), (0 : Int), ([] : List Int)) (by omega), ← Nat.add_assoc, ← dec_dec (by omega)]; exact Int.not_lt.1 (by assumption))⟩, (by omega)⟩
 refine jb (qu (qu (qJ (qc (qa (qg (ii (dec z (rs.length + gTo lenS rs k))) rfl (qd (ii (dec z (rs.length + gTo lenS rs k))) rfl (qb (qp (ql (L' := L) [ii (dec z (rs.length + gTo lenS rs k))] (ii (dec z (rs.length + gTo lenS rs k))) (.tmp rfl .nil) rfl rF rF sR ?_))))))))))
 exact ⟨(vI (by rw [szG, show k = rs.length from by omega])), rfl, rfl⟩

/- laws.szWalk -/
theorem szWalk_spec {F : FH} {L : List HP} {fv : Value} {f : List Int} (hf : IntsF F fv f) {rsv : Value} {rs : List StepT} (hrs : StepsF F rsv rs) {z : Int} (hz : 0 ≤ z ∧ z ≤ 4000000) (hal : f.length ≤ 9223372036854775807) (hrl : rs.length ≤ 9223372036854775807) (hrb : ∀ i, i < rs.length → (rs.getD i (0, 0, [])).2.2.length ≤ 9223372036854775807) :
    Does prog 11 [.agg #[fv, rsv], ii (z)] F (L) (fun v F' L' => (ii (dec z (f.length + szG lenS rs)) : Value) = v ∧ F = F' ∧ L = L') := by
 refine qC func11 rfl rfl rfl ?_
 have hdr := dec_range z f.length
 refine qc (qa (cX (qI [fv, rsv] rfl rfl ?_)))
 intro b1
 refine qd (ii (0)) rfl (qb (qc (qa (cX (qj (0) runUnderlying31 rfl qs (by decide) rfl rfl (cX (qh qF rfl (Rd.own [] rfl rfl) (qg (ii (z)) rfl (cX (qq (args := [fv, ii (z)]) call65 rfl (szInt64S_spec (z := z) hf (hz := (by first | assumption | rfl | omega | simp)) (hlx := (by first | assumption | rfl | omega | simp))) ?_))))))))))
 rintro _ _ _ _ ⟨rfl, rfl, rfl⟩
 refine qd (ii (dec z f.length)) rfl (qb (qc (qc (qa (qg (ii (dec z f.length)) rfl (cX (qK rfl rfl (qb ?_))))))))
 refine qw (p := (dec z f.length : Int) < 0) rfl (fun h1 => ?_) (fun h1 => ?_)
 ·refine qc (qa (qd (ii (-1)) rfl (qb (qp (qi (ql (L' := L) [ii (-1)] (ii (-1)) (.tmp rfl .nil) rfl rF rF (sD sR) ?_))))))
  exact ⟨(vI (dec_out (by omega))), rfl, rfl⟩
 refine qx (qc (qa (cX (qj (1) runUnderlying31 rfl sizeOf29 (by decide) rfl rfl (cX (qh isAgg29 rfl (Rd.own [] rfl rfl) (qg (ii (dec z f.length)) rfl (cX (qq (args := [rsv, ii (dec z f.length)]) call66 rfl (szStepS_spec (z := dec z f.length) hrs (hz := (by first | assumption | rfl | omega | simp)) (hrl := (by first | assumption | rfl | omega | simp)) (hrb := (by first | assumption | rfl | omega | simp))) ?_)))))))))
 rintro _ _ _ _ ⟨rfl, rfl, rfl⟩
 refine qd (ii (dec (dec z f.length) (szG lenS rs))) rfl (qb (qc (qc (qa (qg (ii (dec (dec z f.length) (szG lenS rs))) rfl (cX (qK rfl rfl (qb ?_))))))))
 refine qw (p := (dec (dec z f.length) (szG lenS rs) : Int) < 0) rfl (fun h2 => ?_) (fun h2 => ?_)
 ·refine qc (qa (qd (ii (-1)) rfl (qb (qp (qi (ql (L' := L) [ii (-1)] (ii (-1)) (.tmp rfl .nil) rfl rF rF (sD sR) ?_))))))
  exact ⟨(vI (by rw [← dec_dec (by omega)]; have := (dec_range (dec z f.length) (szG lenS rs)).1; omega)), rfl, rfl⟩
 refine qx (qc (qa (qg (ii (dec (dec z f.length) (szG lenS rs))) rfl (qd (ii (dec (dec z f.length) (szG lenS rs))) rfl (qb (qp (ql (L' := L) [ii (dec (dec z f.length) (szG lenS rs))] (ii (dec (dec z f.length) (szG lenS rs))) (.tmp rfl .nil) rfl rF rF (sD sR) ?_)))))))
 exact ⟨(vI ((dec_dec (by omega)).symm)), rfl, rfl⟩

/- laws.eqStep -/
theorem eqStep_spec {F : FH} {L : List HP} {i : Int} {j : Int} {av : Value} {a : List Int} (ha : IntsF F av a) {p : Int} {q : Int} {bv : Value} {b : List Int} (hb : IntsF F bv b) (hbd : a.length ≤ 9223372036854775807 ∨ b.length ≤ 9223372036854775807) :
    Does prog 177 [.agg #[ii (i), ii (j), av], .agg #[ii (p), ii (q), bv]] F (L) (fun v F' L' => (.bool (decide ((i, j, a) = (p, q, b))) : Value) = v ∧ F = F' ∧ L = L') := by
 refine qC func177 rfl rfl rfl (qc (qa (cX (qI [ii (i), ii (j), av] rfl rfl ?_))))
 intro b1
 refine cX (qI [ii (p), ii (q), bv] rfl rfl ?_)
 intro b2
 refine qd (.bool (false)) rfl (qb (qc (qc (qa (cX (qj (0) js rfl qy (by decide) rfl rfl (cX (qh qQ rfl (Rd.own [_] rfl rfl) (cX (qj (0) js rfl qy (by decide) rfl rfl (cX (qh qQ rfl (Rd.own [] rfl rfl) (cX (XOp.neq rfl rfl (qb ?_)))))))))))))))
 refine qw (p := (i : Int) ≠ p) rfl (fun h1 => ?_) (fun h1 => ?_)
 ·refine qc (qa (qd (.bool (false)) rfl (qb (qp (qi (ql (L' := L) [.bool (false)] (.bool (false)) (.tmp rfl .nil) rfl rF rF (sD (sD sR)) ?_))))))
  exact ⟨(vB (decide_eq_false (by intro e; simp_all))), rfl, rfl⟩
 refine qx (qc (qc (qa (cX (qj (1) js rfl qy (by decide) rfl rfl (cX (qh qQ rfl (Rd.own [_] rfl rfl) (cX (qj (1) js rfl qy (by decide) rfl rfl (cX (qh qQ rfl (Rd.own [] rfl rfl) (cX (XOp.neq rfl rfl (qb ?_))))))))))))))
 refine qw (p := (j : Int) ≠ q) rfl (fun h2 => ?_) (fun h2 => ?_)
 ·refine qc (qa (qd (.bool (false)) rfl (qb (qp (qi (ql (L' := L) [.bool (false)] (.bool (false)) (.tmp rfl .nil) rfl rF rF (sD (sD sR)) ?_))))))
  exact ⟨(vB (decide_eq_false (by intro e; simp_all))), rfl, rfl⟩
 refine qx (qc (qc (qa (cX (qj (2) js rfl qs (by decide) rfl rfl (cX (qh qF rfl (Rd.own [_] rfl rfl) (cX (qj (2) js rfl qs (by decide) rfl rfl (cX (qh qF rfl (Rd.own [] rfl rfl) (cX (qq (args := [av, bv]) call79 rfl (eqInt64S_spec ha hb (hbd := (by first | assumption | rfl | omega | (left; simp; done) | (right; simp; done)))) ?_)))))))))))))
 rintro _ _ _ _ ⟨rfl, rfl, rfl⟩
 refine cX (jx rfl (qb ?_))
 refine qw (p := ¬(a = b)) rfl (fun h3 => ?_) (fun h3 => ?_)
 ·refine qc (qa (qd (.bool (false)) rfl (qb (qp (qi (ql (L' := L) [.bool (false)] (.bool (false)) (.tmp rfl .nil) rfl rF rF (sD (sD sR)) ?_))))))
  exact ⟨(vB (decide_eq_false (by intro e; simp_all))), rfl, rfl⟩
 refine qx (qc (qa (qd (.bool (true)) rfl (qb (qp (ql (L' := L) [.bool (true)] (.bool (true)) (.tmp rfl .nil) rfl rF rF (sD (sD sR)) ?_))))))
 exact ⟨(vB (decide_eq_true (by simp_all))), rfl, rfl⟩

/- laws.eqStepS -/
theorem eqStepS_spec {F : FH} {L : List HP} {av : Value} {a : List StepT} (ha : StepsF F av a) {bv : Value} {b : List StepT} (hb : StepsF F bv b) (hal : a.length ≤ 9223372036854775807) (hbd : ∀ i, i < a.length → (a.getD i (0, 0, [])).2.2.length ≤ 9223372036854775807) :
    Does prog 80 [av, bv] F (L) (fun v F' L' => (.bool (decide (a = b)) : Value) = v ∧ F = F' ∧ L = L') := by
 refine qC func80 rfl rfl rfl (qc (qa (qd (.bool (false)) rfl (qb (qc (qc (qa (qg (av) rfl (cX (qB jp rfl ha.slv (qg (bv) rfl (cX (qB jp rfl hb.slv (cX (XOp.neq rfl rfl (qb ?_))))))))))))))))
 refine qw (p := ((a.length : Int) : Int) ≠ (b.length : Int)) rfl (fun h1 => ?_) (fun h1 => ?_)
 ·refine qc (qa (qd (.bool (false)) rfl (qb (qp (qi (ql (L' := L) [.bool (false)] (.bool (false)) (.tmp rfl .nil) rfl rF rF sR ?_))))))
  exact ⟨(vB (decide_eq_false (fun e => by rw [e] at h1; omega))), rfl, rfl⟩
 refine qx (qc (qc (qa (qd (ii (0)) rfl (qb (qG (jd (α := Nat) (fun k => [(0, av), (1, bv), (5, ii ((k : Int)))]) (fun k => L) (fun k F' => F = F' ∧ (k ≤ a.length) ∧ (∀ i, i < k → a.getD i ((0 : Int), (0 : Int), ([] : List Int)) = b.getD i ((0 : Int), (0 : Int), ([] : List Int)))) (fun k => a.length - k) 0 ⟨rfl, rfl, rfl, ⟨⟩⟩ sR ⟨rfl, (by (try dsimp only) <;> omega), (fun i hi => absurd hi (by omega))⟩ ?_)))))))
 rintro k rE _ _ ⟨rfl, hk, hall⟩
 show X _ _ _ _ (envs [(0, av), (1, bv), (5, ii ((k : Int)))] rE) _ (L)
 have hbk := hbd k
 refine qc (qc (qa (qg (ii ((k : Int))) rfl (qg (av) rfl (cX (qB jp rfl ha.slv (cX (qK rfl rfl (qb ?_)))))))))
 refine qw (p := (k : Int) < (a.length : Int)) rfl (fun h2 => ?_) (fun h2 => ?_)
 ·refine qx (qc (qG (qc ?_)))
  obtain ⟨a1, ha1, hr1, hr2, hr3⟩ := ha.rd (i := k) (by omega)
  obtain ⟨a2, ha2, hr4, hr5, hr6⟩ := hb.rd (i := k) (by omega)
  refine jB [] L 8 [] [[], [], [0, 1], [2], [], [], [4, 5], [6]] (phiL [qe av, qe (ii ((k : Int)) : Value), qe (.pointer (some (elemA av (k * 3)))), qe (.agg #[ii ((a.getD k (0, 0, [])).1), ii ((a.getD k (0, 0, [])).2.1), a1]), qe bv, qe (ii ((k : Int)) : Value), qe (.pointer (some (elemA bv (k * 3)))), qe (.agg #[ii ((b.getD k (0, 0, [])).1), ii ((b.getD k (0, 0, [])).2.1), a2])]) (ownL []) mixed rfl rfl (by kernel_rfl) ?_ ?_
  ·refine pD (fun W R z9 => ?_) ?_
   ·refine qk (qo (av) rfl ?_)
    exact ⟨rfl, rfl, rfl⟩
   refine pD (fun W R z9 => ?_) ?_
   ·refine qk (qo (ii ((k : Int))) rfl ?_)
    exact ⟨rfl, rfl, rfl⟩
   refine pD (fun W R z9 => ?_) ?_
   ·rw [eS (l := [(0, _), (1, _)]) ⟨z9 0 rfl, z9 1 rfl, ⟨⟩⟩]
    refine qk (qv k jp jK rfl rfl rfl ha.slv (by omega) rfl ?_)
    exact ⟨rfl, rfl, rfl⟩
   refine pD (fun W R z9 => ?_) ?_
   ·rw [eS (l := [(2, _)]) ⟨z9 2 rfl, ⟨⟩⟩]
    refine qk (qr [ii ((a.getD k (0, 0, [])).1), ii ((a.getD k (0, 0, [])).2.1), a1] isAgg192 jK rfl rfl (Rd.three (hr1 _) (hr2 _) (hr3 _)) ?_)
    exact ⟨rfl, rfl, rfl⟩
   refine pD (fun W R z9 => ?_) ?_
   ·refine qk (qo (bv) rfl ?_)
    exact ⟨rfl, rfl, rfl⟩
   refine pD (fun W R z9 => ?_) ?_
   ·refine qk (qo (ii ((k : Int))) rfl ?_)
    exact ⟨rfl, rfl, rfl⟩
   refine pD (fun W R z9 => ?_) ?_
   ·rw [eS (l := [(4, _), (5, _)]) ⟨z9 4 rfl, z9 5 rfl, ⟨⟩⟩]
    refine qk (qv k jp jK rfl rfl rfl hb.slv (by omega) rfl ?_)
    exact ⟨rfl, rfl, rfl⟩
   refine pD (fun W R z9 => ?_) ?_
   ·rw [eS (l := [(6, _)]) ⟨z9 6 rfl, ⟨⟩⟩]
    refine qk (qr [ii ((b.getD k (0, 0, [])).1), ii ((b.getD k (0, 0, [])).2.1), a2] isAgg192 jK rfl rfl (Rd.three (hr4 _) (hr5 _) (hr6 _)) ?_)
    exact ⟨rfl, rfl, rfl⟩
   exact stepsP.nil
  intro W hphi
  rw [eS (l := [(3, _), (7, _)]) ⟨(hphi 3 (by decide)), (hphi 7 (by decide)), ⟨⟩⟩]
  show XL _ _ _ _ _ _ _ (L)
  refine cX (qq (args := [.agg #[ii ((a.getD k (0, 0, [])).1), ii ((a.getD k (0, 0, [])).2.1), a1], .agg #[ii ((b.getD k (0, 0, [])).1), ii ((b.getD k (0, 0, [])).2.1), a2]]) call177 rfl (eqStep_spec ha1 ha2 (hbd := (.inl (hbk (by omega))))) ?_)
  rintro _ _ _ _ ⟨rfl, rfl, rfl⟩
  refine cX (jx rfl (qb ?_))
  refine qw (p := ¬((((a.getD k (0, 0, [])).1), ((a.getD k (0, 0, [])).2.1), ((a.getD k (0, 0, [])).2.2)) = (((b.getD k (0, 0, [])).1), ((b.getD k (0, 0, [])).2.1), ((b.getD k (0, 0, [])).2.2)))) rfl (fun h3 => ?_) (fun h3 => ?_)
  ·refine qc (qa (qd (.bool (false)) rfl (qb (qp (qA (qi (qi (qA (qi (ql (L' := L) [.bool (false)] (.bool (false)) (.tmp rfl .nil) rfl rF rF sR ?_))))))))))
   exact ⟨(vB (decide_eq_false (fun e => by subst e; simp at *))), rfl, rfl⟩
  refine qx (qa (qg (ii ((k : Int))) rfl (cX (qN (((k + 1 : Nat) : Int)) rfl rfl (by omega) (by omega) (qd (ii (((k + 1 : Nat) : Int))) rfl (qb ?_))))))
  exact ⟨k + 1, _, FLe.refl _, rF, ⟨rfl, rfl, rfl, ⟨⟩⟩, sR, ⟨rfl, (by (try dsimp only) <;> omega), (fun i hi => (Nat.lt_or_ge i k).elim (fun h => hall i h) (fun h => by obtain rfl : i = k := (by omega); first | assumption | exact Classical.not_not.1 (by assumption)))⟩, (by omega)⟩
 refine jb (qu (qu (qJ (qc (qa (qd (.bool (true)) rfl (qb (qp (ql (L' := L) [.bool (true)] (.bool (true)) (.tmp rfl .nil) rfl rF rF sR ?_)))))))))
 exact ⟨(vB (decide_eq_true (ext_any ((0 : Int), (0 : Int), ([] : List Int)) (by omega) (fun i hi => hall i (by omega))))), rfl, rfl⟩

/- laws.eqWalk -/
theorem eqWalk_spec {F : FH} {L : List HP} {fv : Value} {f : List Int} (hf : IntsF F fv f) {av : Value} {a : List StepT} (ha : StepsF F av a) {gv : Value} {g : List Int} (hg : IntsF F gv g) {bv : Value} {b : List StepT} (hb : StepsF F bv b) (hfl : f.length ≤ 9223372036854775807) (hal : a.length ≤ 9223372036854775807) (hbd : ∀ i, i < a.length → (a.getD i (0, 0, [])).2.2.length ≤ 9223372036854775807) :
    Does prog 19 [.agg #[fv, av], .agg #[gv, bv]] F (L) (fun v F' L' => (.bool (decide (f = g ∧ a = b)) : Value) = v ∧ F = F' ∧ L = L') := by
 refine qC func19 rfl rfl rfl (qc (qa (cX (qI [fv, av] rfl rfl ?_))))
 intro b1
 refine cX (qI [gv, bv] rfl rfl ?_)
 intro b2
 refine qd (.bool (false)) rfl (qb (qc (qc (qa (cX (qj (0) jj rfl qs (by decide) rfl rfl (cX (qh qF rfl (Rd.own [_] rfl rfl) (cX (qj (0) jj rfl qs (by decide) rfl rfl (cX (qh qF rfl (Rd.own [] rfl rfl) (cX (qq (args := [fv, gv]) call79 rfl (eqInt64S_spec hf hg (hbd := (.inl hfl))) ?_))))))))))))))
 rintro _ _ _ _ ⟨rfl, rfl, rfl⟩
 refine cX (jx rfl (qb ?_))
 refine qw (p := ¬(f = g)) rfl (fun h1 => ?_) (fun h1 => ?_)
 ·refine qc (qa (qd (.bool (false)) rfl (qb (qp (qi (ql (L' := L) [.bool (false)] (.bool (false)) (.tmp rfl .nil) rfl rF rF (sD (sD sR)) ?_))))))
  exact ⟨(vB (decide_eq_false (by intro e; simp_all))), rfl, rfl⟩
 refine qx (qc (qc (qa (cX (qj (1) jj rfl sizeOf43 (by decide) rfl rfl (cX (qh isAgg43 rfl (Rd.own [_] rfl rfl) (cX (qj (1) jj rfl sizeOf43 (by decide) rfl rfl (cX (qh isAgg43 rfl (Rd.own [] rfl rfl) (cX (qq (args := [av, bv]) call80 rfl (eqStepS_spec ha hb (hal := (by first | assumption | rfl | omega | simp)) (hbd := (by first | assumption | rfl | omega | simp))) ?_)))))))))))))
 rintro _ _ _ _ ⟨rfl, rfl, rfl⟩
 refine cX (jx rfl (qb ?_))
 refine qw (p := ¬(a = b)) rfl (fun h2 => ?_) (fun h2 => ?_)
 ·refine qc (qa (qd (.bool (false)) rfl (qb (qp (qi (ql (L' := L) [.bool (false)] (.bool (false)) (.tmp rfl .nil) rfl rF rF (sD (sD sR)) ?_))))))
  exact ⟨(vB (decide_eq_false (by intro e; simp_all))), rfl, rfl⟩
 refine qx (qc (qa (qd (.bool (true)) rfl (qb (qp (ql (L' := L) [.bool (true)] (.bool (true)) (.tmp rfl .nil) rfl rF rF (sD (sD sR)) ?_))))))
 exact ⟨(vB (decide_eq_true (by simp_all))), rfl, rfl⟩

/- impl.stepArgs -/
theorem stepArgs_spec {F : FH} {L : List HP} {arv : Value} {ar : List Int} (har : IntsF F arv ar) {rsv : Value} {rs : List (List Int × List Int)} (hrs : PairsF F rsv rs) {tv : Value} {t : List Int} (ht : IntsF F tv t) {p : Int} {r : Int} :
    Does prog 342 [.agg #[arv, rsv], tv, ii (p), ii (r)] F (L) (fun v F' L' => (.bool (stepAtOk ar rs t p r) : Value) = v ∧ F = F' ∧ L = L') := by
 refine qC func342 rfl rfl rfl (qc (qa (cX (qI [arv, rsv] rfl rfl ?_))))
 intro b1
 refine qd (.bool (false)) rfl (qb (qc (qa (cX (qr [arv, rsv] jG jz rfl rfl (Rd.ownN [] rfl rfl) (cX (qq (args := [.agg #[arv, rsv]]) call172 rfl (SystemOk_spec har hrs) ?_)))))))
 rintro _ _ _ _ ⟨rfl, rfl, rfl⟩
 refine qg (.bool (sysOk ar rs)) rfl ?_
 by_cases h1 : (sysOk ar rs) = true
 ·refine qn (t := 11) rfl (vB h1) (qj (0) qU rfl qH (by decide) rfl rfl (qn (t := 11) rfl (vB h1) (qr [arv] qZ qH rfl rfl (Rd.ownN [] rfl rfl) (qn (t := 11) rfl (vB h1) (qo (tv) rfl (qn (t := 11) rfl (vB h1) (qo (ii (p)) rfl (qn (t := 11) rfl (vB h1) (qq (args := [.agg #[arv], tv, ii (p)]) call372 rfl (posOk_spec (n := p) har ht) ?_)))))))))
  rintro _ _ _ _ ⟨rfl, rfl, rfl⟩
  refine cX (qT (.bool (posOk ar t p)) (vB h1) rfl (qg (.bool (posOk ar t p)) rfl ?_))
  by_cases h2 : (posOk ar t p) = true
  ·refine qn (t := 18) rfl (vB h2) (qo (ii (r)) rfl (qn (t := 18) rfl (vB h2) (XOp.geq rfl rfl (cX (qT (.bool (decide ((r : Int) ≥ 0))) (vB h2) rfl (qg (.bool (decide ((r : Int) ≥ 0))) rfl ?_))))))
   by_cases h3 : (r : Int) ≥ 0
   ·refine qn (t := 22) rfl (vT h3) (qo (ii (r)) rfl (qn (t := 22) rfl (vT h3) (qj (1) qU rfl jJ (by decide) rfl rfl (qn (t := 22) rfl (vT h3) (qh isAgg37 rfl (Rd.own [] rfl rfl) (qn (t := 22) rfl (vT h3) (qB ji rfl hrs.slv (qn (t := 22) rfl (vT h3) (qK rfl rfl (cX (qT (.bool (decide ((r : Int) < (rs.length : Int)))) (vT h3) rfl (qd (.bool (decide ((r : Int) < (rs.length : Int)))) rfl (qb (qp (ql (L' := L) [.bool (decide ((r : Int) < (rs.length : Int)))] (.bool (decide ((r : Int) < (rs.length : Int)))) (.tmp rfl .nil) rfl rF rF (sD sR) ?_)))))))))))))))
    exact ⟨(vB (by unfold stepAtOk rightB; cases hA : sysOk ar rs <;> cases hB : termOk ar t <;> simp_all [posOk] <;> omega)), rfl, rfl⟩
   refine qm (t := 22) rfl (vF h3) (qm (t := 22) rfl (vF h3) (qm (t := 22) rfl (vF h3) (qm (t := 22) rfl (vF h3) (qm (t := 22) rfl (vF h3) (cX (qP (.bool (false)) (vF h3) rfl (qd (.bool (false)) rfl (qb (qp (ql (L' := L) [.bool (false)] (.bool (false)) (.tmp rfl .nil) rfl rF rF (sD sR) ?_))))))))))
   exact ⟨(vB (by unfold stepAtOk rightB; cases hA : sysOk ar rs <;> cases hB : termOk ar t <;> simp_all [posOk] <;> omega)), rfl, rfl⟩
  rw [Bool.not_eq_true] at h2
  refine qm (t := 18) rfl (vB h2) (qm (t := 18) rfl (vB h2) (cX (qP (.bool (false)) (vB h2) rfl (qg (.bool (false)) rfl (qm (t := 22) rfl rfl (qm (t := 22) rfl rfl (qm (t := 22) rfl rfl (qm (t := 22) rfl rfl (qm (t := 22) rfl rfl (cX (qP (.bool (false)) rfl rfl ?_)))))))))))
  refine qd (.bool (false)) rfl (qb (qp (ql (L' := L) [.bool (false)] (.bool (false)) (.tmp rfl .nil) rfl rF rF (sD sR) ?_)))
  exact ⟨(vB (by unfold stepAtOk rightB; cases hA : sysOk ar rs <;> cases hB : termOk ar t <;> simp_all [posOk] <;> omega)), rfl, rfl⟩
 rw [Bool.not_eq_true] at h1
 refine qm (t := 11) rfl (vB h1) (qm (t := 11) rfl (vB h1) (qm (t := 11) rfl (vB h1) (qm (t := 11) rfl (vB h1) (qm (t := 11) rfl (vB h1) (cX (qP (.bool (false)) (vB h1) rfl (qg (.bool (false)) rfl (qm (t := 18) rfl rfl (qm (t := 18) rfl rfl (cX (qP (.bool (false)) rfl rfl ?_)))))))))))
 refine qg (.bool (false)) rfl (qm (t := 22) rfl rfl (qm (t := 22) rfl rfl (qm (t := 22) rfl rfl (qm (t := 22) rfl rfl (qm (t := 22) rfl rfl (cX (qP (.bool (false)) rfl rfl (qd (.bool (false)) rfl (qb (qp (ql (L' := L) [.bool (false)] (.bool (false)) (.tmp rfl .nil) rfl rF rF (sD sR) ?_)))))))))))
 exact ⟨(vB (by unfold stepAtOk rightB; cases hA : sysOk ar rs <;> cases hB : termOk ar t <;> simp_all [posOk] <;> omega)), rfl, rfl⟩

/- impl.StepAt -/
theorem StepAt_spec {F : FH} {L : List HP} {arv : Value} {ar : List Int} (har : IntsF F arv ar) {rsv : Value} {rs : List (List Int × List Int)} (hrs : PairsF F rsv rs) {tv : Value} {t : List Int} (ht : IntsF F tv t) {p : Int} {r : Int} :
    Does prog 273 [.agg #[arv, rsv], tv, ii (p), ii (r)] F (L) (fun v F' L' => ∃ (a : Value), (.tuple #[a, .bool ((stepAtL ar rs t p r).isSome)] : Value) = v ∧ (IntsF F' a ((stepAtL ar rs t p r).getD [])) ∧ (Fresh F F' (intsH 2 a ((stepAtL ar rs t p r).getD []))) ∧ L = L') := by
 refine qC func273 rfl rfl rfl (qc (qa (cX (qI [arv, rsv] rfl rfl ?_))))
 intro b1
 refine qd (sN) rfl (qd (.bool (false)) rfl (qb (qc (qc (qa (cX (qr [arv, rsv] jG jz rfl rfl (Rd.ownN [] rfl rfl) (qg (tv) rfl (qg (ii (p)) rfl (qg (ii (r)) rfl (cX (qq (args := [.agg #[arv, rsv], tv, ii (p), ii (r)]) call342 rfl (stepArgs_spec (p := p) (r := r) har hrs ht) ?_))))))))))))
 rintro _ _ _ _ ⟨rfl, rfl, rfl⟩
 refine cX (jg rfl (qb ?_))
 refine jF (t := !(stepAtOk ar rs t p r)) rfl (fun h1 => ?_) (fun h1 => ?_)
 ·have hz0 : stepAtL ar rs t p r = none := by rw [stepAtL, if_neg (by simpa using h1)]
  refine qc (qa (qd (sN) rfl (qd (.bool (false)) rfl (qb (qp (qi (ql (L' := L) [sN, .bool (false)] (.tuple #[sN, .bool (false)]) (.tmp rfl (.tmp rfl .nil)) rfl rF rF (sD sR) ?_)))))))
  exact ⟨_, by rw [hz0]; rfl, by rw [hz0]; exact IntsF.nilV, by rw [hz0]; exact Fresh.ofNil _, rfl⟩
 have hok : stepAtOk ar rs t p r = true := by simpa using h1
 have hok2 := hok
 unfold stepAtOk rightB at hok2
 simp only [Bool.and_eq_true, decide_eq_true_eq] at hok2
 obtain ⟨⟨⟨hsys, ho⟩, hp1⟩, hr1⟩ := hok2
 refine qx (qc (qa (cX (qr [arv, rsv] jG jz rfl rfl (Rd.ownN [] rfl rfl) (qg (tv) rfl (qg (ii (p)) rfl (qg (ii (r)) rfl (cX (qq (args := [.agg #[arv, rsv], tv, ii (((p).toNat : Nat) : Int), ii (((r).toNat : Nat) : Int)]) call249 (by rw [show (((p).toNat : Nat) : Int) = p from by omega, show (((r).toNat : Nat) : Int) = r from by omega]; rfl) (step_spec (p := (p).toNat) (r := (r).toNat) har hrs ht (hsys := (by first | assumption | rfl | omega | simp)) (ho := (by first | assumption | rfl | omega | simp)) (hp := (by first | assumption | rfl | omega | simp)) (hr := (by first | assumption | rfl | omega | simp))) ?_)))))))))
 rintro _ F1 _ le1 ⟨x1, rfl, hr1, hr2, hr3, rfl⟩
 refine cX (qO (x1) rfl rfl (cX (qO (.bool ((stepL ar rs t ((p).toNat) ((r).toNat)).isSome)) rfl rfl (qd (x1) rfl (qd (.bool ((stepL ar rs t ((p).toNat) ((r).toNat)).isSome)) rfl (qb (qp (ql (L' := L) [x1, .bool ((stepL ar rs t ((p).toNat) ((r).toNat)).isSome)] (.tuple #[x1, .bool ((stepL ar rs t ((p).toNat) ((r).toNat)).isSome)]) (.tmp rfl (.tmp rfl .nil)) rfl le1 rF (sD sR) ?_))))))))
 have e := show stepAtL ar rs t p r = stepL ar rs t p.toNat r.toNat from by rw [stepAtL, if_pos hok]
 exact ⟨_, by rw [e], by rw [e]; exact hr1, by rw [e]; exact hr3, rfl⟩

/- impl.walkOk -/
theorem walkOk_spec {F : FH} {L : List HP} {arv : Value} {ar : List Int} (har : IntsF F arv ar) {rsv : Value} {rs : List (List Int × List Int)} (hrs : PairsF F rsv rs) {fv : Value} {f : List Int} (hf : IntsF F fv f) {ssv : Value} {ss : List StepT} (hss : StepsF F ssv ss) (hlf : f.length ≤ 4000000) (hsb : ∀ i, i < ss.length → (ss.getD i (0, 0, [])).2.2.length ≤ 4000000) :
    Does prog 173 [.agg #[arv, rsv], .agg #[fv, ssv]] F (L) (fun v F' L' => (.bool (((termOk ar f && decide (ss.length ≤ 60)) && goOk ar rs f ss)) : Value) = v ∧ F = F' ∧ L = L') := by
 refine qC func173 rfl rfl rfl (qc (qa (cX (qI [arv, rsv] rfl rfl ?_))))
 intro b1
 refine cX (qI [fv, ssv] rfl rfl ?_)
 intro b2
 refine qd (.bool (false)) rfl (qb (qc (qc (qa (cX (qj (0) qU rfl qH (by decide) rfl rfl (cX (qr [arv] qZ qH rfl rfl (Rd.ownN [_] rfl rfl) (cX (qj (0) jj rfl qs (by decide) rfl rfl (cX (qh qF rfl (Rd.own [] rfl rfl) (cX (qq (args := [.agg #[arv], fv]) call112 rfl (TermOk_spec har hf) ?_))))))))))))))
 rintro _ _ _ _ ⟨rfl, rfl, rfl⟩
 refine cX (jg rfl (qg (.bool (!(termOk ar f))) rfl ?_))
 by_cases h1 : (!(termOk ar f)) = true
 ·refine qm (t := 16) rfl (vB h1) (qm (t := 16) rfl (vB h1) (qm (t := 16) rfl (vB h1) (qm (t := 16) rfl (vB h1) (cX (qT (.bool (true)) (vB h1) rfl (qb (jv rfl (qc (qa (qd (.bool (false)) rfl (qb ?_)))))))))))
  refine qp (qi (ql (L' := L) [.bool (false)] (.bool (false)) (.tmp rfl .nil) rfl rF rF (sD (sD sR)) ?_))
  exact ⟨(vB (by simp_all <;> omega)), rfl, rfl⟩
 rw [Bool.not_eq_true] at h1
 refine qn (t := 16) rfl (vB h1) (qj (1) jj rfl sizeOf43 (by decide) rfl rfl (qn (t := 16) rfl (vB h1) (qh isAgg43 rfl (Rd.own [] rfl rfl) (qn (t := 16) rfl (vB h1) (qB jp rfl hss.slv (qn (t := 16) rfl (vB h1) (jn rfl rfl (cX (qP (.bool (decide (((ss.length : Int) : Int) > 60))) (vB h1) rfl (qb ?_))))))))))
 refine qw (p := ((ss.length : Int) : Int) > 60) rfl (fun h2 => ?_) (fun h2 => ?_)
 ·refine qc (qa (qd (.bool (false)) rfl (qb (qp (qi (ql (L' := L) [.bool (false)] (.bool (false)) (.tmp rfl .nil) rfl rF rF (sD (sD sR)) ?_))))))
  exact ⟨(vB (by simp_all <;> omega)), rfl, rfl⟩
 refine qx (qc (qa (cX (qj (0) jj rfl qs (by decide) rfl rfl (cX (qh qF rfl (Rd.own [] rfl rfl) (qd (fv) rfl (qb (qc (qc (qa (cX (qj (1) jj rfl sizeOf43 (by decide) rfl rfl (cX (qh isAgg43 rfl (Rd.own [] rfl rfl) (cX (qB jp rfl hss.slv (qg (ii (0)) rfl (qb (qG ?_))))))))))))))))))))
 refine jd (α := Nat × Value × List Int × FH) (fun xQ => [(2, ptr b1 0), (5, xQ.2.1), (25, ssv), (26, ii ((ss.length : Int))), (27, ii (((xQ.1 : Nat) : Int)))]) (fun xQ => cellsH b2 [fv, ssv] 45 :: cellsH b1 [arv, rsv] 39 :: L) (fun xQ F' => xQ.2.2.2 = F' ∧ F ≤ xQ.2.2.2 ∧ (IntsF xQ.2.2.2 xQ.2.1 xQ.2.2.1) ∧ (xQ.1 ≤ ss.length) ∧ (goOk ar rs f ss = goOk ar rs xQ.2.2.1 (ss.drop xQ.1)) ∧ (xQ.2.2.1.length ≤ 4000000)) (fun xQ => ss.length - xQ.1) (0, fv, f, F) ⟨rfl, rfl, rfl, rfl, rfl, ⟨⟩⟩ (sC (sC sR)) ⟨rfl, FLe.refl _, (hf), (by (try dsimp only) <;> omega), (rfl), (hlf)⟩ ?_
 rintro ⟨k, cv, cur, G1⟩ rE _ _ ⟨rfl, leG, hcv, hk, hgo, hcl⟩
 show X _ _ _ _ (envs [(2, ptr b1 0), (5, cv), (25, ssv), (26, ii ((ss.length : Int))), (27, ii ((k : Int)))] rE) _ (cellsH b2 [fv, ssv] 45 :: cellsH b1 [arv, rsv] 39 :: L)
 replace leG : F ≤ G1 := leG
 dsimp only at hcv hk hgo hcl
 have hsk := hsb k
 have leG1 := leG
 replace har := har.mono leG1
 replace hrs := hrs.mono leG1
 replace hss := hss.mono leG1
 refine qc (qa (cX (qK rfl rfl (qb (qc ?_)))))
 refine qw (p := (k : Int) < (ss.length : Int)) rfl (fun h3 => ?_) (fun h3 => ?_)
 ·refine qx (qc (qG (qc (qa (cX (qv k jp jK rfl rfl rfl hss.slv (by omega) rfl ?_))))))
  obtain ⟨a1, ha1, hr1, hr2, hr3⟩ := hss.rd (i := k) (by omega)
  refine cX (qr [ii ((ss.getD k (0, 0, [])).1), ii ((ss.getD k (0, 0, [])).2.1), a1] isAgg192 jK rfl rfl (Rd.three (hr1 _) (hr2 _) (hr3 _)) (cX (qY [ii (0), ii (0), sN] zeroValue192 rfl ?_)))
  intro b3
  refine cX (qL [] _ [ii ((ss.getD k (0, 0, [])).1), ii ((ss.getD k (0, 0, [])).2.1), a1] jK rfl rfl rfl (qz rfl (qz rfl (qz (qW (qM ha1)) qS))) rfl rfl rfl (qb (qc (qa (cX (qr [arv, rsv] jG jz rfl rfl (Rd.ownN [_, _] rfl rfl) (qg (cv) rfl (cX (qj (0) js rfl qy (by decide) rfl rfl (cX (qh qQ rfl (Rd.own [] rfl rfl) (cX (qj (1) js rfl qy (by decide) rfl rfl (cX (qh qQ rfl (Rd.own [] rfl rfl) (cX (qq (args := [.agg #[arv, rsv], cv, ii ((ss.getD k (0, 0, [])).1), ii ((ss.getD k (0, 0, [])).2.1)]) call273 rfl (StepAt_spec (p := (ss.getD k (0, 0, [])).1) (r := (ss.getD k (0, 0, [])).2.1) har hrs hcv) ?_)))))))))))))))))
  rintro _ F1 _ le1 ⟨x1, rfl, hr4, hr5, rfl⟩
  replace ha1 := ha1.mono le1
  refine qg (.tuple #[x1, .bool ((stepAtL ar rs cur ((ss.getD k (0, 0, [])).1) ((ss.getD k (0, 0, [])).2.1)).isSome)]) rfl (cX (qO (x1) rfl rfl (cX (qO (.bool ((stepAtL ar rs cur ((ss.getD k (0, 0, [])).1) ((ss.getD k (0, 0, [])).2.1)).isSome)) rfl rfl (qd (x1) rfl (qd (.bool ((stepAtL ar rs cur ((ss.getD k (0, 0, [])).1) ((ss.getD k (0, 0, [])).2.1)).isSome)) rfl (qb (qc (qc (qa (qg (.bool ((stepAtL ar rs cur ((ss.getD k (0, 0, [])).1) ((ss.getD k (0, 0, [])).2.1)).isSome)) rfl (cX (jg rfl (qg (.bool (!((stepAtL ar rs cur ((ss.getD k (0, 0, [])).1) ((ss.getD k (0, 0, [])).2.1)).isSome))) rfl ?_))))))))))))))
  by_cases h4 : (!((stepAtL ar rs cur ((ss.getD k (0, 0, [])).1) ((ss.getD k (0, 0, [])).2.1)).isSome)) = true
  ·have hu1 : (stepAtL ar rs cur (ss.getD k (0, 0, [])).1 (ss.getD k (0, 0, [])).2.1).isSome = false := by simpa using h4
   refine qm (t := 43) rfl (vB h4) (qm (t := 43) rfl (vB h4) (qm (t := 43) rfl (vB h4) (qm (t := 43) rfl (vB h4) (qm (t := 43) rfl (vB h4) (cX (qT (.bool (true)) (vB h4) rfl (qb (jv rfl (qc (qa (qd (.bool (false)) rfl ?_)))))))))))
   refine qb (qp (qi (qA (qi (qi (qA (qi (ql (L' := L) [.bool (false)] (.bool (false)) (.tmp rfl .nil) rfl rF (qD leG1 le1) (sD (sD (sD sR))) ?_))))))))
   exact ⟨(vB (by have hz := goOk_fail (ar := ar) (rs := rs) (t := cur) (ss := ss) (k := k) (by omega) (by first | exact .inl hu1 | exact .inr hu2); rw [hgo, hz]; simp)), rfl, rfl⟩
  rw [Bool.not_eq_true] at h4
  have hu1 : (stepAtL ar rs cur (ss.getD k (0, 0, [])).1 (ss.getD k (0, 0, [])).2.1).isSome = true := by simpa using h4
  refine qn (t := 43) rfl (vB h4) (qo (x1) rfl (qn (t := 43) rfl (vB h4) (qj (2) js rfl qs (by decide) rfl rfl (qn (t := 43) rfl (vB h4) (qh qF rfl (Rd.own [] rfl rfl) (qn (t := 43) rfl (vB h4) (qq (args := [x1, a1]) call236 rfl (Equal_spec hr4 ha1 (hbd := (by first | assumption | rfl | omega | (left; simp; done) | (right; simp; done)))) ?_)))))))
  rintro _ _ _ _ ⟨rfl, rfl, rfl⟩
  refine qn (t := 43) rfl (vB h4) (jx rfl (cX (qP (.bool (decide (¬(((stepAtL ar rs cur ((ss.getD k (0, 0, [])).1) ((ss.getD k (0, 0, [])).2.1)).getD []) = ((ss.getD k (0, 0, [])).2.2))))) (vB h4) rfl (qb ?_))))
  refine qw (p := ¬(((stepAtL ar rs cur ((ss.getD k (0, 0, [])).1) ((ss.getD k (0, 0, [])).2.1)).getD []) = ((ss.getD k (0, 0, [])).2.2))) rfl (fun h5 => ?_) (fun h5 => ?_)
  ·have hu2 : (stepAtL ar rs cur (ss.getD k (0, 0, [])).1 (ss.getD k (0, 0, [])).2.1).getD [] ≠ (ss.getD k (0, 0, [])).2.2 := h5
   refine qc (qa (qd (.bool (false)) rfl (qb (qp (qi (qA (qi (qi (qA (qi (ql (L' := L) [.bool (false)] (.bool (false)) (.tmp rfl .nil) rfl rF (qD leG1 le1) (sD (sD (sD sR))) ?_)))))))))))
   exact ⟨(vB (by have hz := goOk_fail (ar := ar) (rs := rs) (t := cur) (ss := ss) (k := k) (by omega) (by first | exact .inl hu1 | exact .inr hu2); rw [hgo, hz]; simp)), rfl, rfl⟩
  have hu2 : (stepAtL ar rs cur (ss.getD k (0, 0, [])).1 (ss.getD k (0, 0, [])).2.1).getD [] = (ss.getD k (0, 0, [])).2.2 := Classical.not_not.1 h5
  refine qx (qa (qg (x1) rfl (qd (x1) rfl (qb (qa (cX (qN (((k + 1 : Nat) : Int)) rfl rfl (by omega) (by omega) (qg (ii (((k + 1 : Nat) : Int))) rfl (qb ?_)))))))))
  exact ⟨(k + 1, x1, (stepAtL ar rs cur ((ss.getD k (0, 0, [])).1) ((ss.getD k (0, 0, [])).2.1)).getD [], F1), _, (qD leG1 le1), rF, ⟨rfl, rfl, rfl, rfl, rfl, ⟨⟩⟩, (sD (sC (sC sR))), ⟨rfl, (qD leG1 le1), (hr4), (by (try dsimp only) <;> omega), (by (try dsimp only); rw [hgo]; exact goOk_next (by omega) hu1 hu2), (by (try dsimp only); rw [hu2]; exact hsk (by omega))⟩, (by omega)⟩
 refine jb (qu (qu (qJ (qc (qa (qd (.bool (true)) rfl (qb (qp (ql (L' := L) [.bool (true)] (.bool (true)) (.tmp rfl .nil) rfl rF leG1 (sD (sD sR)) ?_)))))))))
 exact ⟨(vB (by rw [hgo, goOk_end (by omega)]; simp_all <;> omega)), rfl, rfl⟩

/- impl.WalkOk -/
theorem WalkOk_spec {F : FH} {L : List HP} {arv : Value} {ar : List Int} (har : IntsF F arv ar) {rsv : Value} {rs : List (List Int × List Int)} (hrs : PairsF F rsv rs) {fv : Value} {f : List Int} (hf : IntsF F fv f) {ssv : Value} {ss : List StepT} (hss : StepsF F ssv ss) (hlf : f.length ≤ 4000000) (hsb : ∀ i, i < ss.length → (ss.getD i (0, 0, [])).2.2.length ≤ 4000000) :
    Does prog 74 [.agg #[arv, rsv], .agg #[fv, ssv]] F (L) (fun v F' L' => (.bool (walkOkL ar rs f ss) : Value) = v ∧ F = F' ∧ L = L') := by
 refine qC func74 rfl rfl rfl (qc (qa (cX (qI [arv, rsv] rfl rfl ?_))))
 intro b1
 refine cX (qI [fv, ssv] rfl rfl ?_)
 intro b2
 refine qd (.bool (false)) rfl (qb (qc (qa (cX (qr [arv, rsv] jG jz rfl rfl (Rd.ownN [_] rfl rfl) (cX (qq (args := [.agg #[arv, rsv]]) call172 rfl (SystemOk_spec har hrs) ?_)))))))
 rintro _ _ _ _ ⟨rfl, rfl, rfl⟩
 refine qg (.bool (sysOk ar rs)) rfl ?_
 by_cases h1 : (sysOk ar rs) = true
 ·refine qn (t := 7) rfl (vB h1) (qr [arv, rsv] jG jz rfl rfl (Rd.ownN [_] rfl rfl) (qn (t := 7) rfl (vB h1) (qr [fv, ssv] isAgg45 sizeOf45 rfl rfl (Rd.ownN [] rfl rfl) (qn (t := 7) rfl (vB h1) (qq (args := [.agg #[arv, rsv], .agg #[fv, ssv]]) call173 rfl (walkOk_spec har hrs hf hss (hlf := (by first | assumption | rfl | omega | simp)) (hsb := (by first | assumption | rfl | omega | simp))) ?_)))))
  rintro _ _ _ _ ⟨rfl, rfl, rfl⟩
  refine cX (qT (.bool (((termOk ar f && decide (ss.length ≤ 60)) && goOk ar rs f ss))) (vB h1) rfl (qd (.bool (((termOk ar f && decide (ss.length ≤ 60)) && goOk ar rs f ss))) rfl (qb (qp (ql (L' := L) [.bool (((termOk ar f && decide (ss.length ≤ 60)) && goOk ar rs f ss))] (.bool (((termOk ar f && decide (ss.length ≤ 60)) && goOk ar rs f ss))) (.tmp rfl .nil) rfl rF rF (sD (sD sR)) ?_)))))
  exact ⟨(vB (by rw [walkOkL, rightB]; simp_all [Bool.and_assoc])), rfl, rfl⟩
 rw [Bool.not_eq_true] at h1
 refine qm (t := 7) rfl (vB h1) (qm (t := 7) rfl (vB h1) (qm (t := 7) rfl (vB h1) (cX (qP (.bool (false)) (vB h1) rfl (qd (.bool (false)) rfl (qb (qp (ql (L' := L) [.bool (false)] (.bool (false)) (.tmp rfl .nil) rfl rF rF (sD (sD sR)) ?_))))))))
 exact ⟨(vB (by rw [walkOkL, rightB]; simp_all [Bool.and_assoc])), rfl, rfl⟩

/- spec.StepAt -/
theorem sStepAt_spec {F : FH} {L : List HP} {arv : Value} {ar : List Int} (har : IntsF F arv ar) {rsv : Value} {rs : List (List Int × List Int)} (hrs : PairsF F rsv rs) {tv : Value} {t : List Int} (ht : IntsF F tv t) {p : Int} {r : Int} (hla : ar.length ≤ 4000000) (hlr : rs.length ≤ 4000000) (hrb : ∀ i, i < rs.length → (rs.getD i ([], [])).1.length ≤ 4000000 ∧ (rs.getD i ([], [])).2.length ≤ 4000000) (hlt : t.length ≤ 4000000) :
    Does prog 37 [.agg #[arv, rsv], tv, ii (p), ii (r)] F (L) (fun v F' L' => ∃ (a : Value), (.tuple #[a, .bool ((stepAtL ar rs t p r).isSome)] : Value) = v ∧ (IntsF F' a ((stepAtL ar rs t p r).getD [])) ∧ L = L') := by
 refine qC func37 rfl rfl rfl (qc (qa (cX (qI [arv, rsv] rfl rfl ?_))))
 intro b1
 refine qd (sN) rfl (qd (.bool (false)) rfl (qb (qc (qc (qa (cX (qr [arv, rsv] jG jz rfl rfl (Rd.ownN [] rfl rfl) (qg (tv) rfl (cX (qq (args := [.agg #[arv, rsv], tv]) call107 rfl (l7Right_spec har hrs ht (hla := (by first | assumption | rfl | omega | simp)) (hlr := (by first | assumption | rfl | omega | simp)) (hrb := (by first | assumption | rfl | omega | simp)) (hlt := (by first | assumption | rfl | omega | simp))) ?_))))))))))
 rintro _ _ _ _ ⟨rfl, rfl, rfl⟩
 refine cX (jg rfl (qg (.bool (!(rightB ar rs t))) rfl ?_))
 by_cases h1 : (!(rightB ar rs t)) = true
 ·refine qm (t := 14) rfl (vB h1) (qm (t := 14) rfl (vB h1) (qm (t := 14) rfl (vB h1) (qm (t := 14) rfl (vB h1) (cX (qT (.bool (true)) (vB h1) rfl (qg (.bool (true)) rfl (qm (t := 20) rfl rfl (qm (t := 20) rfl rfl (qm (t := 20) rfl rfl (qm (t := 20) rfl rfl ?_))))))))))
  refine qm (t := 20) rfl rfl (qm (t := 20) rfl rfl (qm (t := 20) rfl rfl (cX (qT (.bool (true)) rfl rfl (qb (jv rfl (qc (qa (cX (ja (s := 1) [] [ii (0)] [] qf qy jr rfl (by decide) rfl CellsAre.nil rfl ?_))))))))))
  intro v1 hv1
  refine qd (v1) rfl (qd (.bool (false)) rfl (qb ?_))
  show X _ _ _ _ _ _ (intsH 2 v1 ([] : List Int) :: cellsH b1 [arv, rsv] 39 :: L)
  refine ju [] _ _ rfl (fun F1 le1 hz1 => ?_)
  replace har := har.mono le1
  replace hrs := hrs.mono le1
  replace ht := ht.mono le1
  have hf1 : IntsF F1 v1 ([]) := intsH.fz (xs := []) hz1.fz
  refine qp (qi (ql (L' := L) [v1, .bool (false)] (.tuple #[v1, .bool (false)]) (.tmp rfl (.tmp rfl .nil)) rfl le1 rF (sD sR) ?_))
  have hz0 : stepAtL ar rs t p r = none := by rw [stepAtL, if_neg (by unfold stepAtOk; cases hA : rightB ar rs t <;> simp_all <;> omega)]
  exact ⟨_, by rw [hz0]; rfl, by rw [hz0]; exact hf1, rfl⟩
 rw [Bool.not_eq_true] at h1
 refine qn (t := 14) rfl (vB h1) (qo (tv) rfl (qn (t := 14) rfl (vB h1) (qo (ii (p)) rfl (qn (t := 14) rfl (vB h1) (qq (args := [tv, ii (p)]) call108 rfl (l1There_spec (n := p) ht (hbd := (by first | assumption | rfl | omega | simp))) ?_)))))
 rintro _ _ _ _ ⟨rfl, rfl, rfl⟩
 refine qn (t := 14) rfl (vB h1) (jx rfl (cX (qP (.bool (decide (¬(0 ≤ p ∧ p < (t.length : Int))))) (vB h1) rfl (qg (.bool (decide (¬(0 ≤ p ∧ p < (t.length : Int))))) rfl ?_))))
 by_cases h2 : ¬(0 ≤ p ∧ p < (t.length : Int))
 ·refine qm (t := 20) rfl (vT h2) (qm (t := 20) rfl (vT h2) (qm (t := 20) rfl (vT h2) (qm (t := 20) rfl (vT h2) (qm (t := 20) rfl (vT h2) (qm (t := 20) rfl (vT h2) (qm (t := 20) rfl (vT h2) (cX (qT (.bool (true)) (vT h2) rfl (qb (jv rfl ?_))))))))))
  refine qc (qa (cX (ja (s := 1) [] [ii (0)] [] qf qy jr rfl (by decide) rfl CellsAre.nil rfl ?_)))
  intro v2 hv2
  refine qd (v2) rfl (qd (.bool (false)) rfl (qb ?_))
  show X _ _ _ _ _ _ (intsH 2 v2 ([] : List Int) :: cellsH b1 [arv, rsv] 39 :: L)
  refine ju [] _ _ rfl (fun F2 le2 hz2 => ?_)
  replace har := har.mono le2
  replace hrs := hrs.mono le2
  replace ht := ht.mono le2
  have hf2 : IntsF F2 v2 ([]) := intsH.fz (xs := []) hz2.fz
  refine qp (qi (ql (L' := L) [v2, .bool (false)] (.tuple #[v2, .bool (false)]) (.tmp rfl (.tmp rfl .nil)) rfl le2 rF (sD sR) ?_))
  have hz0 : stepAtL ar rs t p r = none := by rw [stepAtL, if_neg (by unfold stepAtOk; cases hA : rightB ar rs t <;> simp_all <;> omega)]
  exact ⟨_, by rw [hz0]; rfl, by rw [hz0]; exact hf2, rfl⟩
 refine qn (t := 20) rfl (vF h2) (qo (ii (r)) rfl (qn (t := 20) rfl (vF h2) (qj (1) qU rfl jJ (by decide) rfl rfl (qn (t := 20) rfl (vF h2) (qh isAgg37 rfl (Rd.own [] rfl rfl) (qn (t := 20) rfl (vF h2) (qB ji rfl hrs.slv (qn (t := 20) rfl (vF h2) (jo (((rs.length : Int)) - 1) rfl rfl (by omega) (by omega) (qn (t := 20) rfl (vF h2) (qq (args := [ii (r), ii (0), ii (((rs.length : Int)) - 1)]) call109 rfl (l1In_spec (n := r) (a := 0) (b := ((rs.length : Int)) - 1)) ?_)))))))))))
 rintro _ _ _ _ ⟨rfl, rfl, rfl⟩
 refine qn (t := 20) rfl (vF h2) (jx rfl (cX (qP (.bool (decide (¬(0 ≤ r ∧ r ≤ (((rs.length : Int)) - 1))))) (vF h2) rfl (qb ?_))))
 refine qw (p := ¬(0 ≤ r ∧ r ≤ (((rs.length : Int)) - 1))) rfl (fun h3 => ?_) (fun h3 => ?_)
 ·refine qc (qa (cX (ja (s := 1) [] [ii (0)] [] qf qy jr rfl (by decide) rfl CellsAre.nil rfl ?_)))
  intro v3 hv3
  refine qd (v3) rfl (qd (.bool (false)) rfl (qb ?_))
  show X _ _ _ _ _ _ (intsH 2 v3 ([] : List Int) :: cellsH b1 [arv, rsv] 39 :: L)
  refine ju [] _ _ rfl (fun F3 le3 hz3 => ?_)
  replace har := har.mono le3
  replace hrs := hrs.mono le3
  replace ht := ht.mono le3
  have hf3 : IntsF F3 v3 ([]) := intsH.fz (xs := []) hz3.fz
  refine qp (qi (ql (L' := L) [v3, .bool (false)] (.tuple #[v3, .bool (false)]) (.tmp rfl (.tmp rfl .nil)) rfl le3 rF (sD sR) ?_))
  have hz0 : stepAtL ar rs t p r = none := by rw [stepAtL, if_neg (by unfold stepAtOk; cases hA : rightB ar rs t <;> simp_all <;> omega)]
  exact ⟨_, by rw [hz0]; rfl, by rw [hz0]; exact hf3, rfl⟩
 refine qx (qc (qa ?_))
 have hok : stepAtOk ar rs t p r = true := by unfold stepAtOk; cases hA : rightB ar rs t <;> simp_all <;> omega
 have hok2 := hok
 unfold stepAtOk rightB at hok2
 simp only [Bool.and_eq_true, decide_eq_true_eq] at hok2
 obtain ⟨⟨⟨hsys, ho⟩, hp1⟩, hr1⟩ := hok2
 refine cX (qr [arv, rsv] jG jz rfl rfl (Rd.ownN [] rfl rfl) (qg (tv) rfl (qg (ii (p)) rfl (qg (ii (r)) rfl (cX (qq (args := [.agg #[arv, rsv], tv, ii (((p).toNat : Nat) : Int), ii (((r).toNat : Nat) : Int)]) call110 (by rw [show (((p).toNat : Nat) : Int) = p from by omega, show (((r).toNat : Nat) : Int) = r from by omega]; rfl) (l7Step_spec (p := (p).toNat) (r := (r).toNat) har hrs ht (hsys := (by first | assumption | rfl | omega | simp)) (ho := (by first | assumption | rfl | omega | simp)) (hp := (by first | assumption | rfl | omega | simp)) (hr := (by first | assumption | rfl | omega | simp))) ?_))))))
 rintro _ F4 _ le4 ⟨x1, rfl, hr1, rfl⟩
 refine cX (qO (x1) rfl rfl (cX (qO (.bool ((stepL ar rs t ((p).toNat) ((r).toNat)).isSome)) rfl rfl (qd (x1) rfl (qd (.bool ((stepL ar rs t ((p).toNat) ((r).toNat)).isSome)) rfl (qb (qp (ql (L' := L) [x1, .bool ((stepL ar rs t ((p).toNat) ((r).toNat)).isSome)] (.tuple #[x1, .bool ((stepL ar rs t ((p).toNat) ((r).toNat)).isSome)]) (.tmp rfl (.tmp rfl .nil)) rfl le4 rF (sD sR) ?_))))))))
 have e := show stepAtL ar rs t p r = stepL ar rs t p.toNat r.toNat from by rw [stepAtL, if_pos hok]
 exact ⟨_, by rw [e], by rw [e]; exact hr1, rfl⟩

/- spec.WalkOk -/
theorem sWalkOk_spec {F : FH} {L : List HP} {arv : Value} {ar : List Int} (har : IntsF F arv ar) {rsv : Value} {rs : List (List Int × List Int)} (hrs : PairsF F rsv rs) {fv : Value} {f : List Int} (hf : IntsF F fv f) {ssv : Value} {ss : List StepT} (hss : StepsF F ssv ss) (hla : ar.length ≤ 4000000) (hlr : rs.length ≤ 4000000) (hrb : ∀ i, i < rs.length → (rs.getD i ([], [])).1.length ≤ 4000000 ∧ (rs.getD i ([], [])).2.length ≤ 4000000) (hlf : f.length ≤ 4000000) (hlss : ss.length ≤ 4000000) (hsb : ∀ i, i < ss.length → (ss.getD i (0, 0, [])).2.2.length ≤ 4000000) :
    Does prog 67 [.agg #[arv, rsv], .agg #[fv, ssv]] F (L) (fun v F' L' => (.bool (walkOkL ar rs f ss) : Value) = v ∧ F = F' ∧ L = L') := by
 refine qC func67 rfl rfl rfl (qc (qa (cX (qI [arv, rsv] rfl rfl ?_))))
 intro b1
 refine cX (qI [fv, ssv] rfl rfl ?_)
 intro b2
 refine qd (.bool (false)) rfl (qb (qc (qc (qa (cX (qr [arv, rsv] jG jz rfl rfl (Rd.ownN [_] rfl rfl) (cX (qj (0) jj rfl qs (by decide) rfl rfl (cX (qh qF rfl (Rd.own [] rfl rfl) (cX (qq (args := [.agg #[arv, rsv], fv]) call107 rfl (l7Right_spec har hrs hf (hla := (by first | assumption | rfl | omega | simp)) (hlr := (by first | assumption | rfl | omega | simp)) (hrb := (by first | assumption | rfl | omega | simp)) (hlt := (by first | assumption | rfl | omega | simp))) ?_))))))))))))
 rintro _ _ _ _ ⟨rfl, rfl, rfl⟩
 refine cX (jg rfl (qg (.bool (!(rightB ar rs f))) rfl ?_))
 by_cases h1 : (!(rightB ar rs f)) = true
 ·refine qm (t := 14) rfl (vB h1) (qm (t := 14) rfl (vB h1) (qm (t := 14) rfl (vB h1) (qm (t := 14) rfl (vB h1) (cX (qT (.bool (true)) (vB h1) rfl (qb (jv rfl (qc (qa (qd (.bool (false)) rfl (qb ?_)))))))))))
  refine qp (qi (ql (L' := L) [.bool (false)] (.bool (false)) (.tmp rfl .nil) rfl rF rF (sD (sD sR)) ?_))
  exact ⟨(vB (by unfold walkOkL; simp_all <;> omega)), rfl, rfl⟩
 rw [Bool.not_eq_true] at h1
 refine qn (t := 14) rfl (vB h1) (qj (1) jj rfl sizeOf43 (by decide) rfl rfl (qn (t := 14) rfl (vB h1) (qh isAgg43 rfl (Rd.own [] rfl rfl) (qn (t := 14) rfl (vB h1) (qB jp rfl hss.slv (qn (t := 14) rfl (vB h1) (jn rfl rfl (cX (qP (.bool (decide (((ss.length : Int) : Int) > 60))) (vB h1) rfl (qb ?_))))))))))
 refine qw (p := ((ss.length : Int) : Int) > 60) rfl (fun h2 => ?_) (fun h2 => ?_)
 ·refine qc (qa (qd (.bool (false)) rfl (qb (qp (qi (ql (L' := L) [.bool (false)] (.bool (false)) (.tmp rfl .nil) rfl rF rF (sD (sD sR)) ?_))))))
  exact ⟨(vB (by unfold walkOkL; simp_all <;> omega)), rfl, rfl⟩
 refine qx (qc (qa (cX (qj (0) jj rfl qs (by decide) rfl rfl (cX (qh qF rfl (Rd.own [] rfl rfl) (qd (fv) rfl (qb (qc (qc (qa (qd (ii (0)) rfl (qb (qG (jd (α := Nat × Value × List Int × FH) (fun xQ => [(2, ptr b1 0), (3, ptr b2 0), (5, xQ.2.1), (6, ii (((xQ.1 : Nat) : Int)))]) (fun xQ => cellsH b2 [fv, ssv] 45 :: cellsH b1 [arv, rsv] 39 :: L) (fun xQ F' => xQ.2.2.2 = F' ∧ F ≤ xQ.2.2.2 ∧ (IntsF xQ.2.2.2 xQ.2.1 xQ.2.2.1) ∧ (xQ.1 ≤ ss.length) ∧ (goOk ar rs f ss = goOk ar rs xQ.2.2.1 (ss.drop xQ.1)) ∧ (xQ.2.2.1.length ≤ 4000000)) (fun xQ => ss.length - xQ.1) (0, fv, f, F) ⟨rfl, rfl, rfl, rfl, ⟨⟩⟩ (sC (sC sR)) ⟨rfl, FLe.refl _, (hf), (by (try dsimp only) <;> omega), (rfl), (hlf)⟩ ?_)))))))))))))))
 rintro ⟨k, cv, cur, G1⟩ rE _ _ ⟨rfl, leG, hcv, hk, hgo, hcl⟩
 show X _ _ _ _ (envs [(2, ptr b1 0), (3, ptr b2 0), (5, cv), (6, ii ((k : Int)))] rE) _ (cellsH b2 [fv, ssv] 45 :: cellsH b1 [arv, rsv] 39 :: L)
 replace leG : F ≤ G1 := leG
 dsimp only at hcv hk hgo hcl
 have hsk := hsb k
 have leG1 := leG
 replace har := har.mono leG1
 replace hrs := hrs.mono leG1
 replace hss := hss.mono leG1
 refine qc (qc (qa (qg (ii ((k : Int))) rfl (cX (qj (1) jj rfl sizeOf43 (by decide) rfl rfl (cX (qh isAgg43 rfl (Rd.own [] rfl rfl) (cX (qB jp rfl hss.slv (cX (qK rfl rfl (qb ?_))))))))))))
 refine qw (p := (k : Int) < (ss.length : Int)) rfl (fun h3 => ?_) (fun h3 => ?_)
 ·refine qx (qc (qG (qc ?_)))
  obtain ⟨a1, ha1, hr1, hr2, hr3⟩ := hss.rd (i := k) (by omega)
  refine X.drawG [cellsH b2 [fv, ssv] 45, cellsH b1 [arv, rsv] 39] L 19 [[], [], [], [], [], [], [], [], [], [], [], [], [], [], [], [14], [14], [], [14]] [[], [], [], [2], [], [3, 4], [5], [6], [], [8], [], [9, 10], [11], [12], [0, 1, 7, 13], [14], [14, 15], [14, 15], [14, 16]] [] (phiG [pe (.agg #[arv, rsv]), pe cv, pe (ptr b2 1), pe ssv, pe (ii ((k : Int)) : Value), pe (.pointer (some (elemA ssv (k * 3)))), pe (.pointer (some (elemA ssv (k * 3)))), pe (ii ((ss.getD k (0, 0, [])).1)), pe (ptr b2 1), pe ssv, pe (ii ((k : Int)) : Value), pe (.pointer (some (elemA ssv (k * 3)))), pe (.pointer (some (elemA ssv (k * 3 + 1)))), pe (ii ((ss.getD k (0, 0, [])).2.1)), fun FF us v => (.tuple #[((tupAt v 0)), .bool ((stepAtL ar rs cur ((ss.getD k (0, 0, [])).1) ((ss.getD k (0, 0, [])).2.1)).isSome)] : Value) = v ∧ (IntsF FF ((tupAt v 0)) ((stepAtL ar rs cur ((ss.getD k (0, 0, [])).1) ((ss.getD k (0, 0, [])).2.1)).getD [])), fun FF us v => v = (.tuple #[((tupAt (us.getD 0 undef) 0)), .bool ((stepAtL ar rs cur ((ss.getD k (0, 0, [])).1) ((ss.getD k (0, 0, [])).2.1)).isSome)] : Value), fun FF us v => v = ((tupAt (us.getD 0 undef) 0)), pe (.bool ((stepAtL ar rs cur ((ss.getD k (0, 0, [])).1) ((ss.getD k (0, 0, [])).2.1)).isSome)), fun FF us v => v = ((tupAt (us.getD 0 undef) 0))]) (ownL []) mixed rfl rfl (by kernel_rfl) (by kernel_rfl) (MonoG.get (m1 (m1 (m1 (m1 (m1 (m1 (m1 (m1 (m1 (m1 (m1 (m1 (m1 (m1 (mC (fun le h => ⟨h.1, h.2.mono le⟩) (mC (fun le h => h) (mC (fun le h => h) (m1 (mC (fun le h => h) MonoG.nil)))))))))))))))))))) ?_ ?_
  ·refine gD (fun W Fs R lF z9 => ?_) ?_
   ·replace har := har.mono lF
    replace hrs := hrs.mono lF
    replace hss := hss.mono lF
    replace hcv := hcv.mono lF
    replace ha1 := ha1.mono lF
    replace hr1 := Rd.monoA hr1 lF
    replace hr2 := Rd.monoA hr2 lF
    replace hr3 := Rd.monoA hr3 lF
    refine qk (qr [arv, rsv] jG jz rfl rfl (Rd.ownN [_] rfl rfl) ?_)
    exact ⟨rfl, rfl⟩
   refine gD (fun W Fs R lF z9 => ?_) ?_
   ·refine qk (qo (cv) rfl ?_)
    exact ⟨rfl, rfl⟩
   refine gD (fun W Fs R lF z9 => ?_) ?_
   ·refine qk (qj (1) jj rfl sizeOf43 (by decide) rfl rfl ?_)
    exact ⟨rfl, rfl⟩
   refine gD (fun W Fs R lF z9 => ?_) ?_
   ·replace har := har.mono lF
    replace hrs := hrs.mono lF
    replace hss := hss.mono lF
    replace hcv := hcv.mono lF
    replace ha1 := ha1.mono lF
    replace hr1 := Rd.monoA hr1 lF
    replace hr2 := Rd.monoA hr2 lF
    replace hr3 := Rd.monoA hr3 lF
    rw [eS (l := [(2, _)]) ⟨z9 2 rfl, ⟨⟩⟩]
    refine qk (qh isAgg43 rfl (Rd.own [] rfl rfl) ?_)
    exact ⟨rfl, rfl⟩
   refine gD (fun W Fs R lF z9 => ?_) ?_
   ·refine qk (qo (ii ((k : Int))) rfl ?_)
    exact ⟨rfl, rfl⟩
   refine gD (fun W Fs R lF z9 => ?_) ?_
   ·replace har := har.mono lF
    replace hrs := hrs.mono lF
    replace hss := hss.mono lF
    replace hcv := hcv.mono lF
    replace ha1 := ha1.mono lF
    replace hr1 := Rd.monoA hr1 lF
    replace hr2 := Rd.monoA hr2 lF
    replace hr3 := Rd.monoA hr3 lF
    rw [eS (l := [(3, _), (4, _)]) ⟨z9 3 rfl, z9 4 rfl, ⟨⟩⟩]
    refine qk (qv k jp jK rfl rfl rfl hss.slv (by omega) rfl ?_)
    exact ⟨rfl, rfl⟩
   refine gD (fun W Fs R lF z9 => ?_) ?_
   ·rw [eS (l := [(5, _)]) ⟨z9 5 rfl, ⟨⟩⟩]
    refine qk (XOp.fieldE (k * 3) js rfl qy (by decide) rfl rfl ?_)
    exact ⟨rfl, rfl⟩
   refine gD (fun W Fs R lF z9 => ?_) ?_
   ·replace har := har.mono lF
    replace hrs := hrs.mono lF
    replace hss := hss.mono lF
    replace hcv := hcv.mono lF
    replace ha1 := ha1.mono lF
    replace hr1 := Rd.monoA hr1 lF
    replace hr2 := Rd.monoA hr2 lF
    replace hr3 := Rd.monoA hr3 lF
    rw [eS (l := [(6, _)]) ⟨z9 6 rfl, ⟨⟩⟩]
    refine qk (qh qQ rfl (hr1 _) ?_)
    exact ⟨rfl, rfl⟩
   refine gD (fun W Fs R lF z9 => ?_) ?_
   ·refine qk (qj (1) jj rfl sizeOf43 (by decide) rfl rfl ?_)
    exact ⟨rfl, rfl⟩
   refine gD (fun W Fs R lF z9 => ?_) ?_
   ·replace har := har.mono lF
    replace hrs := hrs.mono lF
    replace hss := hss.mono lF
    replace hcv := hcv.mono lF
    replace ha1 := ha1.mono lF
    replace hr2 := Rd.monoA hr2 lF
    replace hr3 := Rd.monoA hr3 lF
    rw [eS (l := [(8, _)]) ⟨z9 8 rfl, ⟨⟩⟩]
    refine qk (qh isAgg43 rfl (Rd.own [] rfl rfl) ?_)
    exact ⟨rfl, rfl⟩
   refine gD (fun W Fs R lF z9 => ?_) ?_
   ·refine qk (qo (ii ((k : Int))) rfl ?_)
    exact ⟨rfl, rfl⟩
   refine gD (fun W Fs R lF z9 => ?_) ?_
   ·replace har := har.mono lF
    replace hrs := hrs.mono lF
    replace hss := hss.mono lF
    replace hcv := hcv.mono lF
    replace ha1 := ha1.mono lF
    replace hr2 := Rd.monoA hr2 lF
    replace hr3 := Rd.monoA hr3 lF
    rw [eS (l := [(9, _), (10, _)]) ⟨z9 9 rfl, z9 10 rfl, ⟨⟩⟩]
    refine qk (qv k jp jK rfl rfl rfl hss.slv (by omega) rfl ?_)
    exact ⟨rfl, rfl⟩
   refine gD (fun W Fs R lF z9 => ?_) ?_
   ·rw [eS (l := [(11, _)]) ⟨z9 11 rfl, ⟨⟩⟩]
    refine qk (XOp.fieldE (k * 3 + 1) js rfl qy (by decide) rfl rfl ?_)
    exact ⟨rfl, rfl⟩
   refine gD (fun W Fs R lF z9 => ?_) ?_
   ·replace har := har.mono lF
    replace hrs := hrs.mono lF
    replace hss := hss.mono lF
    replace hcv := hcv.mono lF
    replace ha1 := ha1.mono lF
    replace hr2 := Rd.monoA hr2 lF
    replace hr3 := Rd.monoA hr3 lF
    rw [eS (l := [(12, _)]) ⟨z9 12 rfl, ⟨⟩⟩]
    refine qk (qh qQ rfl (hr2 _) ?_)
    exact ⟨rfl, rfl⟩
   refine gD (fun W Fs R lF z9 => ?_) ?_
   ·replace har := har.mono lF
    replace hrs := hrs.mono lF
    replace hss := hss.mono lF
    replace hcv := hcv.mono lF
    replace ha1 := ha1.mono lF
    replace hr3 := Rd.monoA hr3 lF
    rw [eS (l := [(0, _), (1, _), (7, _), (13, _)]) ⟨z9 0 rfl, z9 1 rfl, z9 7 rfl, z9 13 rfl, ⟨⟩⟩]
    refine qk (qq (args := [.agg #[arv, rsv], cv, ii ((ss.getD k (0, 0, [])).1), ii ((ss.getD k (0, 0, [])).2.1)]) call37 rfl (sStepAt_spec (p := (ss.getD k (0, 0, [])).1) (r := (ss.getD k (0, 0, [])).2.1) har hrs hcv (hla := (by first | assumption | rfl | omega | simp)) (hlr := (by first | assumption | rfl | omega | simp)) (hrb := (by first | assumption | rfl | omega | simp)) (hlt := (by first | assumption | rfl | omega | simp))) ?_)
    rintro _ F2 _ le2 ⟨x2, rfl, hr5, rfl⟩
    replace hss := hss.mono le2
    replace ha1 := ha1.mono le2
    replace hr3 := Rd.monoA hr3 le2
    exact ⟨⟨rfl, hr5⟩, rfl⟩
   refine gD (fun W Fs R lF z9 => ?_) ?_
   ·obtain ⟨e14, f14_1hr⟩ := z9 14 rfl
    rw [eS (l := [(14, (.tuple #[((tupAt (W 14) 0)), .bool ((stepAtL ar rs cur ((ss.getD k (0, 0, [])).1) ((ss.getD k (0, 0, [])).2.1)).isSome)]))]) ⟨(e14).symm, ⟨⟩⟩]
    refine qk (qo (.tuple #[((tupAt (W 14) 0)), .bool ((stepAtL ar rs cur ((ss.getD k (0, 0, [])).1) ((ss.getD k (0, 0, [])).2.1)).isSome)]) rfl ?_)
    exact ⟨rfl, rfl⟩
   refine gD (fun W Fs R lF z9 => ?_) ?_
   ·obtain ⟨e14, f14_1hr⟩ := z9 14 rfl
    have e15 : W 15 = (.tuple #[((tupAt (W 14) 0)), .bool ((stepAtL ar rs cur ((ss.getD k (0, 0, [])).1) ((ss.getD k (0, 0, [])).2.1)).isSome)] : Value) := z9 15 rfl
    rw [eS (l := [(14, (.tuple #[((tupAt (W 14) 0)), .bool ((stepAtL ar rs cur ((ss.getD k (0, 0, [])).1) ((ss.getD k (0, 0, [])).2.1)).isSome)])), (15, (.tuple #[((tupAt (W 14) 0)), .bool ((stepAtL ar rs cur ((ss.getD k (0, 0, [])).1) ((ss.getD k (0, 0, [])).2.1)).isSome)]))]) ⟨(e14).symm, e15, ⟨⟩⟩]
    refine qk (qO (((tupAt (W 14) 0))) rfl rfl ?_)
    exact ⟨rfl, rfl⟩
   refine gD (fun W Fs R lF z9 => ?_) ?_
   ·obtain ⟨e14, f14_1hr⟩ := z9 14 rfl
    have e15 : W 15 = (.tuple #[((tupAt (W 14) 0)), .bool ((stepAtL ar rs cur ((ss.getD k (0, 0, [])).1) ((ss.getD k (0, 0, [])).2.1)).isSome)] : Value) := z9 15 rfl
    rw [eS (l := [(14, (.tuple #[((tupAt (W 14) 0)), .bool ((stepAtL ar rs cur ((ss.getD k (0, 0, [])).1) ((ss.getD k (0, 0, [])).2.1)).isSome)])), (15, (.tuple #[((tupAt (W 14) 0)), .bool ((stepAtL ar rs cur ((ss.getD k (0, 0, [])).1) ((ss.getD k (0, 0, [])).2.1)).isSome)]))]) ⟨(e14).symm, e15, ⟨⟩⟩]
    refine qk (qO (.bool ((stepAtL ar rs cur ((ss.getD k (0, 0, [])).1) ((ss.getD k (0, 0, [])).2.1)).isSome)) rfl rfl ?_)
    exact ⟨rfl, rfl⟩
   refine gD (fun W Fs R lF z9 => ?_) ?_
   ·obtain ⟨e14, f14_1hr⟩ := z9 14 rfl
    have e16 : W 16 = ((tupAt (W 14) 0)) := z9 16 rfl
    rw [eS (l := [(14, (.tuple #[((tupAt (W 14) 0)), .bool ((stepAtL ar rs cur ((ss.getD k (0, 0, [])).1) ((ss.getD k (0, 0, [])).2.1)).isSome)])), (16, ((tupAt (W 14) 0)))]) ⟨(e14).symm, e16, ⟨⟩⟩]
    refine qk (XOp.assign (((tupAt (W 14) 0))) rfl ?_)
    exact ⟨rfl, rfl⟩
   exact stepsG.nil
  intro W F3 le3 hphi
  obtain ⟨e14, f14_1hr⟩ := hphi 14 (by decide)
  have e15 : W 15 = (.tuple #[((tupAt (W 14) 0)), .bool ((stepAtL ar rs cur ((ss.getD k (0, 0, [])).1) ((ss.getD k (0, 0, [])).2.1)).isSome)] : Value) := hphi 15 (by decide)
  have e16 : W 16 = ((tupAt (W 14) 0)) := hphi 16 (by decide)
  have e18 : W 18 = ((tupAt (W 14) 0)) := hphi 18 (by decide)
  generalize hu1 : ((tupAt (W 14) 0)) = u1 at e14 f14_1hr e15 e16 e18
  rw [eS (l := [(14, (.tuple #[u1, .bool ((stepAtL ar rs cur ((ss.getD k (0, 0, [])).1) ((ss.getD k (0, 0, [])).2.1)).isSome)])), (17, _), (18, u1)]) ⟨(e14).symm, (hphi 17 (by decide)), e18, ⟨⟩⟩]
  replace hss := hss.mono le3
  replace ha1 := ha1.mono le3
  replace hr3 := Rd.monoA hr3 le3
  show XL _ _ _ _ _ _ _ (cellsH b2 [fv, ssv] 45 :: cellsH b1 [arv, rsv] 39 :: L)
  refine qd (.bool ((stepAtL ar rs cur ((ss.getD k (0, 0, [])).1) ((ss.getD k (0, 0, [])).2.1)).isSome)) rfl (qb (qc (qc (qa (qg (.bool ((stepAtL ar rs cur ((ss.getD k (0, 0, [])).1) ((ss.getD k (0, 0, [])).2.1)).isSome)) rfl (cX (jg rfl (qg (.bool (!((stepAtL ar rs cur ((ss.getD k (0, 0, [])).1) ((ss.getD k (0, 0, [])).2.1)).isSome))) rfl ?_))))))))
  by_cases h4 : (!((stepAtL ar rs cur ((ss.getD k (0, 0, [])).1) ((ss.getD k (0, 0, [])).2.1)).isSome)) = true
  ·have hu1 : (stepAtL ar rs cur (ss.getD k (0, 0, [])).1 (ss.getD k (0, 0, [])).2.1).isSome = false := by simpa using h4
   refine qm (t := 49) rfl (vB h4) (qm (t := 49) rfl (vB h4) (qm (t := 49) rfl (vB h4) (qm (t := 49) rfl (vB h4) (qm (t := 49) rfl (vB h4) (qm (t := 49) rfl (vB h4) (qm (t := 49) rfl (vB h4) (qm (t := 49) rfl (vB h4) (qm (t := 49) rfl (vB h4) (cX (qT (.bool (true)) (vB h4) rfl ?_))))))))))
   refine qb (jv rfl (qc (qa (qd (.bool (false)) rfl (qb (qp (qi (qA (qi (qi (qA (qi (ql (L' := L) [.bool (false)] (.bool (false)) (.tmp rfl .nil) rfl rF (qD leG1 le3) (sD (sD sR)) ?_)))))))))))))
   exact ⟨(vB (by have hz := goOk_fail (ar := ar) (rs := rs) (t := cur) (ss := ss) (k := k) (by omega) (by first | exact .inl hu1 | exact .inr hu2); rw [walkOkL, hgo, hz]; simp)), rfl, rfl⟩
  rw [Bool.not_eq_true] at h4
  have hu1 : (stepAtL ar rs cur (ss.getD k (0, 0, [])).1 (ss.getD k (0, 0, [])).2.1).isSome = true := by simpa using h4
  refine qn (t := 49) rfl (vB h4) (qo (u1) rfl (qn (t := 49) rfl (vB h4) (qj (1) jj rfl sizeOf43 (by decide) rfl rfl (qn (t := 49) rfl (vB h4) (qh isAgg43 rfl (Rd.own [] rfl rfl) (qn (t := 49) rfl (vB h4) (qo (ii ((k : Int))) rfl (qn (t := 49) rfl (vB h4) (qv k jp jK rfl rfl rfl hss.slv (by omega) rfl (qn (t := 49) rfl (vB h4) (XOp.fieldE (k * 3 + 2) js rfl qs (by decide) rfl rfl (qn (t := 49) rfl (vB h4) (qh qF rfl (hr3 _) (qn (t := 49) rfl (vB h4) (qq (args := [u1, a1]) call32 rfl (SameTerm_spec f14_1hr ha1 (hbd := (by first | assumption | rfl | omega | (left; simp; done) | (right; simp; done)))) ?_)))))))))))))))
  rintro _ _ _ _ ⟨rfl, rfl, rfl⟩
  refine qn (t := 49) rfl (vB h4) (jx rfl (cX (qP (.bool (decide (¬(((stepAtL ar rs cur ((ss.getD k (0, 0, [])).1) ((ss.getD k (0, 0, [])).2.1)).getD []) = ((ss.getD k (0, 0, [])).2.2))))) (vB h4) rfl (qb ?_))))
  refine qw (p := ¬(((stepAtL ar rs cur ((ss.getD k (0, 0, [])).1) ((ss.getD k (0, 0, [])).2.1)).getD []) = ((ss.getD k (0, 0, [])).2.2))) rfl (fun h5 => ?_) (fun h5 => ?_)
  ·have hu2 : (stepAtL ar rs cur (ss.getD k (0, 0, [])).1 (ss.getD k (0, 0, [])).2.1).getD [] ≠ (ss.getD k (0, 0, [])).2.2 := h5
   refine qc (qa (qd (.bool (false)) rfl (qb (qp (qi (qA (qi (qi (qA (qi (ql (L' := L) [.bool (false)] (.bool (false)) (.tmp rfl .nil) rfl rF (qD leG1 le3) (sD (sD sR)) ?_)))))))))))
   exact ⟨(vB (by have hz := goOk_fail (ar := ar) (rs := rs) (t := cur) (ss := ss) (k := k) (by omega) (by first | exact .inl hu1 | exact .inr hu2); rw [walkOkL, hgo, hz]; simp)), rfl, rfl⟩
  have hu2 : (stepAtL ar rs cur (ss.getD k (0, 0, [])).1 (ss.getD k (0, 0, [])).2.1).getD [] = (ss.getD k (0, 0, [])).2.2 := Classical.not_not.1 h5
  refine qx (qa (qg (u1) rfl (qd (u1) rfl (qb (qa (qg (ii ((k : Int))) rfl (cX (qN (((k + 1 : Nat) : Int)) rfl rfl (by omega) (by omega) (qd (ii (((k + 1 : Nat) : Int))) rfl (qb ?_))))))))))
  exact ⟨(k + 1, u1, (stepAtL ar rs cur ((ss.getD k (0, 0, [])).1) ((ss.getD k (0, 0, [])).2.1)).getD [], F3), _, (qD leG1 le3), rF, ⟨rfl, rfl, rfl, rfl, ⟨⟩⟩, (sC (sC sR)), ⟨rfl, (qD leG1 le3), (f14_1hr), (by (try dsimp only) <;> omega), (by (try dsimp only); rw [hgo]; exact goOk_next (by omega) hu1 hu2), (by (try dsimp only); rw [hu2]; exact hsk (by omega))⟩, (by omega)⟩
 refine jb (qu (qu (qJ (qc (qa (qd (.bool (true)) rfl (qb (qp (ql (L' := L) [.bool (true)] (.bool (true)) (.tmp rfl .nil) rfl rF leG1 (sD (sD sR)) ?_)))))))))
 exact ⟨(vB (by rw [walkOkL, hgo, goOk_end (by omega)]; simp_all <;> omega)), rfl, rfl⟩

/- impl.argsAt -/
theorem argsAt_spec {F : FH} {L : List HP} {arv : Value} {ar : List Int} (har : IntsF F arv ar) {tv : Value} {t : List Int} (ht : IntsF F tv t) {p : Nat} (ho : termOk ar t = true) (hp : p < t.length) :
    Does prog 336 [.agg #[arv], tv, ii ((p : Int))] F (L) (fun v F' L' => F = F' ∧ IsSl v ∧ intsH 3 v (argsL ar t p) :: L = L') := by
 refine qC func336 rfl rfl rfl ?_
 have hsl := sigOk_spec (termOk_sig ho)
 have htl := termOk_len ho
 have hsig := termOk_sig ho
 have hA := arity_le hsig (termOk_lt ho hp)
 have hge := termOk_ge ho hp
 have hlt := termOk_lt ho hp
 refine qc (qa (cX (qI [arv] rfl rfl ?_)))
 intro b1
 refine qd (sN) rfl (qb (qc (qa (qd (sN) rfl (qb (qc (qa (qg (ii ((p : Int))) rfl (cX (qN (((p + 1 : Nat) : Int)) rfl rfl (by omega) (by omega) (qd (ii (((p + 1 : Nat) : Int))) rfl (qb (qc (qc ?_))))))))))))))
 refine jB [cellsH b1 [arv] 36] L 5 [] [[], [], [], [1, 2], [3]] (phiL [qe (.agg #[arv]), qe tv, qe (ii ((p : Int)) : Value), qe (.pointer (some (elemA tv (p)))), qe (ii (t.getD p 0))]) (ownL []) mixed rfl rfl (by kernel_rfl) ?_ ?_
 ·refine pD (fun W R z9 => ?_) ?_
  ·refine qk (qr [arv] qZ qH rfl rfl (Rd.ownN [] rfl rfl) ?_)
   exact ⟨rfl, rfl, rfl⟩
  refine pD (fun W R z9 => ?_) ?_
  ·refine qk (qo (tv) rfl ?_)
   exact ⟨rfl, rfl, rfl⟩
  refine pD (fun W R z9 => ?_) ?_
  ·refine qk (qo (ii ((p : Int))) rfl ?_)
   exact ⟨rfl, rfl, rfl⟩
  refine pD (fun W R z9 => ?_) ?_
  ·rw [eS (l := [(1, _), (2, _)]) ⟨z9 1 rfl, z9 2 rfl, ⟨⟩⟩]
   refine qk (qv p qf qy rfl rfl rfl ht.slv (by omega) (Nat.mul_one _) ?_)
   exact ⟨rfl, rfl, rfl⟩
  refine pD (fun W R z9 => ?_) ?_
  ·rw [eS (l := [(3, _)]) ⟨z9 3 rfl, ⟨⟩⟩]
   refine qk (qh qQ rfl (ht.rd (by omega)) ?_)
   exact ⟨rfl, rfl, rfl⟩
  exact stepsP.nil
 intro W hphi
 rw [eS (l := [(0, _), (4, _)]) ⟨(hphi 0 (by decide)), (hphi 4 (by decide)), ⟨⟩⟩]
 show XL _ _ _ _ _ _ _ (cellsH b1 [arv] 36 :: L)
 refine cX (qq (args := [.agg #[arv], ii (t.getD p 0)]) call366 rfl (arityAt_spec (n := t.getD p 0) har (hn := (by first | assumption | rfl | omega | simp))) ?_)
 rintro _ _ _ _ ⟨rfl, rfl, rfl⟩
 refine qd (ii (arity ar (t.getD p 0))) rfl (qb (qG (jd (α := Nat × Nat × Value × List Int) (fun xQ => [(1, tv), (3, ptr b1 0), (7, xQ.2.2.1), (8, ii (((xQ.2.1 : Nat) : Int))), (9, ii (((xQ.1 : Nat) : Int)))]) (fun xQ => intsH 3 xQ.2.2.1 xQ.2.2.2 :: cellsH b1 [arv] 36 :: L) (fun xQ F' => F = F' ∧ (IsSl xQ.2.2.1) ∧ (Stand ar t xQ.1 xQ.2.1 (endN ar t p)) ∧ (argsL ar t p = xQ.2.2.2 ++ argsGo ar t xQ.1 xQ.2.1) ∧ (xQ.2.2.2.length + xQ.1 ≤ 3)) (fun xQ => xQ.1) ((arity ar (t.getD p 0)).toNat, p + 1, sN, []) ⟨rfl, rfl, rfl, rfl, (vI (by first | omega | (rw [sArity_eq (by omega)]; omega))), ⟨⟩⟩ (Sub.trans (intsH.addNil 3 none _) (sC (sC sR))) ⟨rfl, (⟨_, _, _, rfl⟩), (stand_start ho hp), (rfl), (by rw [List.length_nil]; omega)⟩ ?_)))
 rintro ⟨m, q, ov, os⟩ rE _ _ ⟨rfl, hov, hS, hos, hol⟩
 show X _ _ _ _ (envs [(1, tv), (3, ptr b1 0), (7, ov), (8, ii ((q : Int))), (9, ii ((m : Int)))] rE) _ (intsH 3 ov os :: cellsH b1 [arv] 36 :: L)
 dsimp only at hov hS hos hol
 have hst := fun (h : 1 ≤ m) => stand_step ho (n := m - 1) (by rw [Nat.sub_add_cancel h]; exact hS)
 refine qc (qc (qa (qg (ii ((m : Int))) rfl (cX (jn rfl rfl (qb ?_))))))
 refine qw (p := (m : Int) > 0) rfl (fun h1 => ?_) (fun h1 => ?_)
 ·refine qx (qc (qG (qc (qa (qg (ov) rfl (qg (ii ((q : Int))) rfl (cX (ja (s := 1) [ii ((q : Int))] [ii (0)] [(0, [ii ((q : Int))])] runUnderlying359 sizeOf3 zeroValue3 rfl (by decide) rfl (.cons rfl CellsAre.nil) rfl ?_))))))))
  intro v1 hv1
  refine cX (XOp.append1 (u := (q : Int)) [_] _ runUnderlying359 typeInfo3 rfl rfl rfl rfl rfl rfl (SlV.own [] rfl) (Rd.sl [] rfl rfl) (by (try simp only [List.length_append, List.length_nil, List.length_cons, List.length_singleton, List.length_take, List.length_drop]); omega) ?_)
  intro v2 hs1 hn1
  refine qd (v2) rfl (qb (qa (cX (qr [arv] qZ qH rfl rfl (Rd.ownN [_, _] rfl rfl) (qg (tv) rfl (qg (ii ((q : Int))) rfl (cX (qq (args := [.agg #[arv], tv, ii (q : Int)]) call206 rfl (endAt_ok (p := q) har ht (ho := (by first | assumption | rfl | omega | (left; simp; done) | (right; simp; done))) (hp := (by first | assumption | rfl | omega | (left; simp; done) | (right; simp; done)))) ?_))))))))
  rintro _ _ _ _ ⟨rfl, rfl, rfl⟩
  refine qd (ii (((endN ar t q : Nat) : Int))) rfl (qb (qa (qg (ii ((m : Int))) rfl (cX (jo (((m : Int)) - 1) rfl rfl (by omega) (by omega) (qd (ii (((m : Int)) - 1)) rfl (qb ?_)))))))
  exact ⟨(m - 1, endN ar t q, v2, os ++ [(q : Int)]), _, FLe.refl _, rF, ⟨rfl, rfl, rfl, rfl, (vI (by omega)), ⟨⟩⟩, (sD (sC (sC sR))), ⟨rfl, (hs1), ((hst (by omega)).2.1), (args_next ho (by omega) hos), (by dsimp only; rw [List.length_append, List.length_singleton]; omega)⟩, (by omega)⟩
 refine jb (qu (qu (qJ (qc (qa (qg (ov) rfl (qd (ov) rfl (qb (qp (ql (L' := intsH 3 ov os :: L) [ov] (ov) (.tmp rfl .nil) rfl rF rF (sC (sD sR)) ?_))))))))))
 refine ⟨rfl, hov, ?_⟩
 have hxs : (argsL ar t p : List Int) = os := by rw [hos, show m = 0 from by omega]; simp [argsGo]
 exact congrArg (fun z => intsH 3 _ z :: L) hxs

theorem endAtW_ok {F : FH} {L : List HP} {p : Nat} {arv : Value} {ar : List Int} (har : IntsF F arv ar) {tv : Value} {t : List Int} (ht : IntsF F tv t) (ho : TermW ar t) (hp : p < t.length) :
    Does prog 206 [.agg #[arv], tv, ii (p : Int)] F L (fun v F' L' => (ii ((endN ar t p : Nat) : Int) : Value) = v ∧ F = F' ∧ L = L') := by
  have hl := ho.len
  have h := endAt_spec (F := F) (L := L) (p := p) har ht ho.sig (by omega) (by omega)
  rw [ho.endZ hp] at h
  exact h


/- impl.subAt -/
theorem subAtW_spec {F : FH} {L : List HP} {arv : Value} {ar : List Int} (har : IntsF F arv ar) {tv : Value} {t : List Int} (ht : IntsF F tv t) {p : Nat} (ho : TermW ar t) (hp : p < t.length) (hnn : isNil tv = false) :
    Does prog 142 [.agg #[arv], tv, ii ((p : Int))] F (L) (fun v F' L' => F = F' ∧ L = L' ∧ IntsF F v (sub ar t p) ∧ isNil v = false) := by
 refine qC func142 rfl rfl rfl ?_
 have hsl := sigOk_spec ho.sig
 have htl := ho.len
 have hsig := ho.sig
 have hee := ho.endN hp
 refine qc (qa (cX (qI [arv] rfl rfl ?_)))
 intro b1
 refine qd (sN) rfl (qb (qc (qa (qg (tv) rfl (qg (ii ((p : Int))) rfl (cX (qr [arv] qZ qH rfl rfl (Rd.ownN [] rfl rfl) (qg (tv) rfl (qg (ii ((p : Int))) rfl (cX (qq (args := [.agg #[arv], tv, ii (p : Int)]) call206 rfl (endAtW_ok (p := p) har ht (ho := (by first | assumption | rfl | omega | (left; simp; done) | (right; simp; done))) (hp := (by first | assumption | rfl | omega | (left; simp; done) | (right; simp; done)))) ?_)))))))))))
 rintro _ _ _ _ ⟨rfl, rfl, rfl⟩
 refine cX (XOp.sliceI p (endN ar t p) qf qy rfl ht ⟨_, rfl⟩ ⟨_, rfl⟩ (by omega) (by omega) ?_)
 intro v1 hv1 hn1
 refine qd (v1) rfl (qb (qp (ql (L' := L) [v1] (v1) (.tmp rfl .nil) rfl rF rF (sD sR) ?_)))
 exact ⟨rfl, rfl, hv1, by rw [hn1]; exact hnn⟩

/- impl.argsAt -/
theorem argsAtW_spec {F : FH} {L : List HP} {arv : Value} {ar : List Int} (har : IntsF F arv ar) {tv : Value} {t : List Int} (ht : IntsF F tv t) {p : Nat} (ho : TermW ar t) (hp : p < t.length) :
    Does prog 336 [.agg #[arv], tv, ii ((p : Int))] F (L) (fun v F' L' => F = F' ∧ IsSl v ∧ intsH 3 v (argsL ar t p) :: L = L') := by
 refine qC func336 rfl rfl rfl ?_
 have hsl := sigOk_spec ho.sig
 have htl := ho.len
 have hsig := ho.sig
 have hA := arity_le hsig (ho.lt hp)
 have hge := ho.geD hp
 have hlt := ho.lt hp
 refine qc (qa (cX (qI [arv] rfl rfl ?_)))
 intro b1
 refine qd (sN) rfl (qb (qc (qa (qd (sN) rfl (qb (qc (qa (qg (ii ((p : Int))) rfl (cX (qN (((p + 1 : Nat) : Int)) rfl rfl (by omega) (by omega) (qd (ii (((p + 1 : Nat) : Int))) rfl (qb (qc (qc ?_))))))))))))))
 refine jB [cellsH b1 [arv] 36] L 5 [] [[], [], [], [1, 2], [3]] (phiL [qe (.agg #[arv]), qe tv, qe (ii ((p : Int)) : Value), qe (.pointer (some (elemA tv (p)))), qe (ii (t.getD p 0))]) (ownL []) mixed rfl rfl (by kernel_rfl) ?_ ?_
 ·refine pD (fun W R z9 => ?_) ?_
  ·refine qk (qr [arv] qZ qH rfl rfl (Rd.ownN [] rfl rfl) ?_)
   exact ⟨rfl, rfl, rfl⟩
  refine pD (fun W R z9 => ?_) ?_
  ·refine qk (qo (tv) rfl ?_)
   exact ⟨rfl, rfl, rfl⟩
  refine pD (fun W R z9 => ?_) ?_
  ·refine qk (qo (ii ((p : Int))) rfl ?_)
   exact ⟨rfl, rfl, rfl⟩
  refine pD (fun W R z9 => ?_) ?_
  ·rw [eS (l := [(1, _), (2, _)]) ⟨z9 1 rfl, z9 2 rfl, ⟨⟩⟩]
   refine qk (qv p qf qy rfl rfl rfl ht.slv (by omega) (Nat.mul_one _) ?_)
   exact ⟨rfl, rfl, rfl⟩
  refine pD (fun W R z9 => ?_) ?_
  ·rw [eS (l := [(3, _)]) ⟨z9 3 rfl, ⟨⟩⟩]
   refine qk (qh qQ rfl (ht.rd (by omega)) ?_)
   exact ⟨rfl, rfl, rfl⟩
  exact stepsP.nil
 intro W hphi
 rw [eS (l := [(0, _), (4, _)]) ⟨(hphi 0 (by decide)), (hphi 4 (by decide)), ⟨⟩⟩]
 show XL _ _ _ _ _ _ _ (cellsH b1 [arv] 36 :: L)
 refine cX (qq (args := [.agg #[arv], ii (t.getD p 0)]) call366 rfl (arityAt_spec (n := t.getD p 0) har (hn := (by first | assumption | rfl | omega | simp))) ?_)
 rintro _ _ _ _ ⟨rfl, rfl, rfl⟩
 refine qd (ii (arity ar (t.getD p 0))) rfl (qb (qG (jd (α := Nat × Nat × Value × List Int) (fun xQ => [(1, tv), (3, ptr b1 0), (7, xQ.2.2.1), (8, ii (((xQ.2.1 : Nat) : Int))), (9, ii (((xQ.1 : Nat) : Int)))]) (fun xQ => intsH 3 xQ.2.2.1 xQ.2.2.2 :: cellsH b1 [arv] 36 :: L) (fun xQ F' => F = F' ∧ (IsSl xQ.2.2.1) ∧ (Stand ar t xQ.1 xQ.2.1 (endN ar t p)) ∧ (argsL ar t p = xQ.2.2.2 ++ argsGo ar t xQ.1 xQ.2.1) ∧ (xQ.2.2.2.length + xQ.1 ≤ 3)) (fun xQ => xQ.1) ((arity ar (t.getD p 0)).toNat, p + 1, sN, []) ⟨rfl, rfl, rfl, rfl, (vI (by first | omega | (rw [sArity_eq (by omega)]; omega))), ⟨⟩⟩ (Sub.trans (intsH.addNil 3 none _) (sC (sC sR))) ⟨rfl, (⟨_, _, _, rfl⟩), (ho.stand0 hp), (rfl), (by rw [List.length_nil]; omega)⟩ ?_)))
 rintro ⟨m, q, ov, os⟩ rE _ _ ⟨rfl, hov, hS, hos, hol⟩
 show X _ _ _ _ (envs [(1, tv), (3, ptr b1 0), (7, ov), (8, ii ((q : Int))), (9, ii ((m : Int)))] rE) _ (intsH 3 ov os :: cellsH b1 [arv] 36 :: L)
 dsimp only at hov hS hos hol
 have hst := fun (h : 1 ≤ m) => ho.stand (n := m - 1) (by rw [Nat.sub_add_cancel h]; exact hS)
 refine qc (qc (qa (qg (ii ((m : Int))) rfl (cX (jn rfl rfl (qb ?_))))))
 refine qw (p := (m : Int) > 0) rfl (fun h1 => ?_) (fun h1 => ?_)
 ·refine qx (qc (qG (qc (qa (qg (ov) rfl (qg (ii ((q : Int))) rfl (cX (ja (s := 1) [ii ((q : Int))] [ii (0)] [(0, [ii ((q : Int))])] runUnderlying359 sizeOf3 zeroValue3 rfl (by decide) rfl (.cons rfl CellsAre.nil) rfl ?_))))))))
  intro v1 hv1
  refine cX (XOp.append1 (u := (q : Int)) [_] _ runUnderlying359 typeInfo3 rfl rfl rfl rfl rfl rfl (SlV.own [] rfl) (Rd.sl [] rfl rfl) (by (try simp only [List.length_append, List.length_nil, List.length_cons, List.length_singleton, List.length_take, List.length_drop]); omega) ?_)
  intro v2 hs1 hn1
  refine qd (v2) rfl (qb (qa (cX (qr [arv] qZ qH rfl rfl (Rd.ownN [_, _] rfl rfl) (qg (tv) rfl (qg (ii ((q : Int))) rfl (cX (qq (args := [.agg #[arv], tv, ii (q : Int)]) call206 rfl (endAtW_ok (p := q) har ht (ho := (by first | assumption | rfl | omega | (left; simp; done) | (right; simp; done))) (hp := (hst (by omega)).1)) ?_))))))))
  rintro _ _ _ _ ⟨rfl, rfl, rfl⟩
  refine qd (ii (((endN ar t q : Nat) : Int))) rfl (qb (qa (qg (ii ((m : Int))) rfl (cX (jo (((m : Int)) - 1) rfl rfl (by omega) (by omega) (qd (ii (((m : Int)) - 1)) rfl (qb ?_)))))))
  exact ⟨(m - 1, endN ar t q, v2, os ++ [(q : Int)]), _, FLe.refl _, rF, ⟨rfl, rfl, rfl, rfl, (vI (by omega)), ⟨⟩⟩, (sD (sC (sC sR))), ⟨rfl, (hs1), ((hst (by omega)).2.1), (args_nextW (by omega) hos), (by dsimp only; rw [List.length_append, List.length_singleton]; omega)⟩, (by omega)⟩
 refine jb (qu (qu (qJ (qc (qa (qg (ov) rfl (qd (ov) rfl (qb (qp (ql (L' := intsH 3 ov os :: L) [ov] (ov) (.tmp rfl .nil) rfl rF rF (sC (sD sR)) ?_))))))))))
 refine ⟨rfl, hov, ?_⟩
 have hxs : (argsL ar t p : List Int) = os := by rw [hos, show m = 0 from by omega]; simp [argsGo]
 exact congrArg (fun z => intsH 3 _ z :: L) hxs

set_option maxRecDepth 20000 in
theorem solve_catch {F : FH} {L : List HP} {b : Nat} {x : Bool} {w : World} (H : Holds F (cellsH b [.bool x] 4 :: L) w) :
    CallsD prog 266 #[.pointer (some ⟨b, 0, none⟩)] (.panicking [{ v := .iface 299 (.agg #[]), recovered := false }]) w fun e u' w' =>
      e = .returned (.tuple #[]) ∧ u' = .panicking [{ v := .iface 299 (.agg #[]), recovered := true }] ∧ Holds F (cellsH b [.bool false] 4 :: L) w' := by
  refine callsD_of_wpS func266 rfl fun c₀ cs hu => ?_
  apply wpS_seq
  apply wpS_region
  simp [wpOpsS, go_sem, recoverD, hu, ntmps266, Exit.thenS]
  apply wpS_seq
  apply wpS_region
  simp [wpOpsS, go_sem, recoverD, hu, ntmps266, Exit.thenS]
  refine wpS_cond (t := true) (by simp [Act.eval, Array.replicate]) ?_
  simp only [if_true]
  refine wpS_of_wp (Code.wp_mono ?_ (wp_of_X (n := 15) (Q := fun e ρ F' L' => e = .normal ∧ Sub L' (cellsH b [.bool false] 4 :: L)) [(0, ptr b 0), (1, .iface 299 (.agg #[]))] (by simp) rfl ⟨by simp, by simp [Array.replicate], ⟨⟩⟩ rfl (fun rE => ?_) H))
  · rintro e a' w' ⟨ρ, F', L', r, le, H', rfl, s⟩
    exact ⟨r.defers, _, rfl, _, results_none rfl _ _ _, rfl, rfl, s.holds (H'.forget le)⟩
  · skip
    refine qc (qc (qa (qg ((.iface 299 (.agg #[]))) rfl (cX (XOp.assertOk runUnderlying299 rfl (qg (.tuple #[.agg #[], .bool (true)]) rfl (cX (qO (.agg #[]) rfl rfl (cX (qO (.bool (true)) rfl rfl (cX (qY [] zeroValue299 rfl ?_))))))))))))
    intro b1
    refine cX (qL [] _ [] sizeOf299 rfl rfl rfl qS rfl rfl rfl (qd (.bool (true)) rfl (qb (qc (qa (qg (.bool (true)) rfl (cX (jg rfl (qb (X.condF rfl (qx (qa (cX (jt [_] _ [.bool (false)] sizeOf4 rfl rfl rfl rfl rfl rfl (qb ?_)))))))))))))))
    exact ⟨rfl, (sD (sC sR))⟩


theorem solve_idle {p : Value} {w : World} :
    CallsD prog 266 #[p] .returning w fun e u' w' => e = .returned (.tuple #[]) ∧ u' = .returning ∧ w' = w := by
  refine callsD_of_wpS func266 rfl fun c₀ cs hu => ?_
  apply wpS_seq
  apply wpS_region
  simp [wpOpsS, go_sem, recoverD, hu, ntmps266, Exit.thenS]
  apply wpS_seq
  apply wpS_region
  simp [wpOpsS, go_sem, recoverD, hu, ntmps266, Exit.thenS]
  refine wpS_cond (t := false) (by simp [Act.eval, Array.replicate]) ?_
  simp only [Bool.false_eq_true, if_false]
  refine wpS_of_wp (wp_skip ?_)
  cases c₀
  simp_all [bodyPostS, results, results266]


/- (impl.line[int64]).at -/
theorem lineAt_spec {F : FH} {L : List HP} {pc : Int} {pfv : Value} {pf : List Int} (hpf : IntsF F pfv pf) {i : Nat} (hlf : pf.length ≤ 4000000) :
    Does prog 348 [.agg #[ii (pc), pfv], ii ((i : Int))] F (L) (fun v F' L' => (ii (pf.getD i 0) : Value) = v ∧ F = F' ∧ L = L') := by
 refine qC func348 rfl rfl rfl (qc (qa (cX (qI [ii (pc), pfv] rfl rfl ?_))))
 intro b1
 refine qd (ii (0)) rfl (qb (qc (qc (qa (qg (ii ((i : Int))) rfl (cX (qj (1) runUnderlying379 rfl qs (by decide) rfl rfl (cX (qh qF rfl (Rd.own [] rfl rfl) (cX (qB qf rfl hpf.slv (cX (XOp.geq rfl rfl (qb ?_))))))))))))))
 refine qw (p := (i : Int) ≥ (pf.length : Int)) rfl (fun h1 => ?_) (fun h1 => ?_)
 ·refine qc (qa (qd (ii (0)) rfl (qb (qp (qi (ql (L' := L) [ii (0)] (ii (0)) (.tmp rfl .nil) rfl rF rF (sD sR) ?_))))))
  exact ⟨(vI (by rw [List.getD_eq_getElem?_getD, List.getElem?_eq_none (by omega)]; rfl)), rfl, rfl⟩
 refine qx (qc (qa (cX (qj (1) runUnderlying379 rfl qs (by decide) rfl rfl (cX (qh qF rfl (Rd.own [] rfl rfl) (qg (ii ((i : Int))) rfl (cX (qv i qf qy rfl rfl rfl hpf.slv (by omega) (Nat.mul_one _) (cX (qh qQ rfl (hpf.rd (by omega)) (qd (ii (pf.getD i 0)) rfl (qb (qp (ql (L' := L) [ii (pf.getD i 0)] (ii (pf.getD i 0)) (.tmp rfl .nil) rfl rF rF (sD sR) ?_)))))))))))))))
 exact ⟨rfl, rfl, rfl⟩

/- (impl.Poly).coef -/
theorem coef_spec {F : FH} {L : List HP} {pc : Int} {pfv : Value} {pf : List Int} (hpf : IntsF F pfv pf) {i : Nat} (hlf : pf.length ≤ 4000000) :
    Does prog 277 [.agg #[ii (pc), pfv], ii ((i : Int))] F (L) (fun v F' L' => (ii (pf.getD i 0) : Value) = v ∧ F = F' ∧ L = L') := by
 refine qC func277 rfl rfl rfl (qc (qa (cX (qI [ii (pc), pfv] rfl rfl ?_))))
 intro b1
 refine qd (ii (0)) rfl (qb (qc (qa (cX (qr [ii (pc), pfv] je qE rfl rfl (Rd.ownN [] rfl rfl) (qg (ii ((i : Int))) rfl (cX (qq (args := [.agg #[ii (pc), pfv], ii (i : Int)]) call348 rfl (lineAt_spec (i := i) hpf (hlf := (by first | assumption | rfl | omega | simp))) ?_))))))))
 rintro _ _ _ _ ⟨rfl, rfl, rfl⟩
 refine qd (ii (pf.getD i 0)) rfl (qb (qp (ql (L' := L) [ii (pf.getD i 0)] (ii (pf.getD i 0)) (.tmp rfl .nil) rfl rF rF (sD sR) ?_)))
 exact ⟨rfl, rfl, rfl⟩

/- slices.Max[[]int64,int64] -/
theorem Max_spec {F : FH} {L : List HP} {xsv : Value} {xs : List Int} (hxs : IntsF F xsv xs) (h1 : 1 ≤ xs.length) (hbd : xs.length ≤ 4000000) :
    Does prog 393 [xsv] F (L) (fun v F' L' => (ii (maxC xs) : Value) = v ∧ F = F' ∧ L = L') := by
 refine qC func393 rfl rfl rfl (qc (qa (qd (ii (0)) rfl (qb (qc (qc (qa (qg (xsv) rfl (cX (qB qf rfl hxs.slv (cX (qK rfl rfl (qb ?_)))))))))))))
 refine qw (p := ((xs.length : Int) : Int) < 1) rfl (fun h1 => ?_) (fun h1 => ?_)
 ·omega
 refine qx (qc (qa (qg (xsv) rfl (cX (qv 0 qf qy rfl rfl rfl hxs.slv (by omega) (Nat.mul_one _) (cX (qh qQ rfl (hxs.rd (by omega)) (qd (ii (xs.getD 0 0)) rfl (qb (qc (qc (qa (qd (ii (1)) rfl (qb (qG (jd (α := Nat) (fun k => [(0, xsv), (3, ii (maxC (xs.take k))), (4, ii ((k : Int)))]) (fun k => L) (fun k F' => F = F' ∧ (1 ≤ k ∧ k ≤ xs.length)) (fun k => xs.length - k) 1 ⟨rfl, (vI (maxC_take1 (a := xs) (by omega))), rfl, ⟨⟩⟩ sR ⟨rfl, (by omega)⟩ ?_))))))))))))))))
 rintro k rE _ _ ⟨rfl, hk⟩
 show X _ _ _ _ (envs [(0, xsv), (3, ii (maxC (xs.take k))), (4, ii ((k : Int)))] rE) _ (L)
 refine qc (qc (qa (qg (ii ((k : Int))) rfl (qg (xsv) rfl (cX (qB qf rfl hxs.slv (cX (qK rfl rfl (qb ?_)))))))))
 refine qw (p := (k : Int) < (xs.length : Int)) rfl (fun h2 => ?_) (fun h2 => ?_)
 ·refine qx (qc (qG (qa (qg (ii (maxC (xs.take k))) rfl (qg (xsv) rfl (qg (ii ((k : Int))) rfl (cX (qv k qf qy rfl rfl rfl hxs.slv (by omega) (Nat.mul_one _) (cX (qh qQ rfl (hxs.rd (by omega)) (cX (XOp.max2R (a := maxC (xs.take k)) (b := xs.getD k 0) (maxC (xs.take (k + 1))) rfl rfl (maxC_step (by omega) (by omega)) (qd (ii (maxC (xs.take (k + 1)))) rfl (qb (qa (qg (ii ((k : Int))) rfl ?_))))))))))))))))
  refine cX (qN (((k + 1 : Nat) : Int)) rfl rfl (by omega) (by omega) (qd (ii (((k + 1 : Nat) : Int))) rfl (qb ?_)))
  exact ⟨k + 1, _, FLe.refl _, rF, ⟨rfl, rfl, rfl, ⟨⟩⟩, sR, ⟨rfl, (by omega)⟩, (by omega)⟩
 refine jb (qu (qu (qJ (qc (qa (qg (ii (maxC (xs.take k))) rfl (qd (ii (maxC (xs.take k))) rfl (qb (qp (ql (L' := L) [ii (maxC (xs.take k))] (ii (maxC (xs.take k))) (.tmp rfl .nil) rfl rF rF sR ?_))))))))))
 exact ⟨(vI (by rw [maxC_all (by omega)])), rfl, rfl⟩

/- impl.PolysOk -/
theorem PolysOk_spec {F : FH} {L : List HP} {arv : Value} {ar : List Int} (har : IntsF F arv ar) {psv : Value} {ps : List PolyT} (hps : PolysF F psv ps) (hlp : ps.length ≤ 4000000) (hpb : ∀ i, i < ps.length → (ps.getD i (0, [])).2.length ≤ 4000000) (hla : ar.length ≤ 4000000) :
    Does prog 343 [.agg #[arv], psv] F (L) (fun v F' L' => (.bool (polysOk ar ps) : Value) = v ∧ F = F' ∧ L = L') := by
 refine qC func343 rfl rfl rfl (qc (qa (cX (qI [arv] rfl rfl ?_))))
 intro b1
 refine qd (.bool (false)) rfl (qb (qc (qc (qa (cX (qr [arv] qZ qH rfl rfl (Rd.ownN [] rfl rfl) (cX (qq (args := [.agg #[arv]]) call158 rfl (SigOk_spec har) ?_))))))))
 rintro _ _ _ _ ⟨rfl, rfl, rfl⟩
 refine cX (jg rfl (qg (.bool (!(sigOk ar))) rfl ?_))
 by_cases h1 : (!(sigOk ar)) = true
 ·refine qm (t := 12) rfl (vB h1) (qm (t := 12) rfl (vB h1) (qm (t := 12) rfl (vB h1) (qm (t := 12) rfl (vB h1) (qm (t := 12) rfl (vB h1) (qm (t := 12) rfl (vB h1) (cX (qT (.bool (true)) (vB h1) rfl (qb (jv rfl (qc (qa ?_)))))))))))
  refine qd (.bool (false)) rfl (qb (qp (qi (ql (L' := L) [.bool (false)] (.bool (false)) (.tmp rfl .nil) rfl rF rF (sD sR) ?_))))
  exact ⟨(vB (polys_no0 (fun h9 => by have h8 := h9.1; have h7 := h9.2; simp_all <;> omega))), rfl, rfl⟩
 rw [Bool.not_eq_true] at h1
 refine qn (t := 12) rfl (vB h1) (qo (psv) rfl (qn (t := 12) rfl (vB h1) (qB jh rfl hps.slv (qn (t := 12) rfl (vB h1) (qj (0) jl rfl qs (by decide) rfl rfl (qn (t := 12) rfl (vB h1) (qh qF rfl (Rd.own [] rfl rfl) (qn (t := 12) rfl (vB h1) (qB qf rfl har.slv (qn (t := 12) rfl (vB h1) (XOp.neq rfl rfl (cX (qP (.bool (decide (((ps.length : Int) : Int) ≠ (ar.length : Int)))) (vB h1) rfl (qb ?_))))))))))))))
 refine qw (p := ((ps.length : Int) : Int) ≠ (ar.length : Int)) rfl (fun h2 => ?_) (fun h2 => ?_)
 ·refine qc (qa (qd (.bool (false)) rfl (qb (qp (qi (ql (L' := L) [.bool (false)] (.bool (false)) (.tmp rfl .nil) rfl rF rF (sD sR) ?_))))))
  exact ⟨(vB (polys_no0 (fun h9 => by have h8 := h9.1; have h7 := h9.2; simp_all <;> omega))), rfl, rfl⟩
 refine qx (qc (qc (qa ?_)))
 have hpl9 : ps.length = ar.length := by omega
 refine qg (psv) rfl (cX (qB jh rfl hps.slv (qg (ii (0)) rfl (qb (qG (jd (α := Nat) (fun k => [(2, ptr b1 0), (20, psv), (21, ii ((ps.length : Int))), (22, ii ((k : Int)))]) (fun k => cellsH b1 [arv] 36 :: L) (fun k F' => F = F' ∧ (k ≤ ps.length) ∧ (∀ i, i < k → polyOk (ar.getD i 0) (ps.getD i (0, [])) = true)) (fun k => ps.length - k) 0 ⟨rfl, rfl, rfl, rfl, ⟨⟩⟩ (sC sR) ⟨rfl, (by (try dsimp only) <;> omega), (fun i hi => absurd hi (by omega))⟩ ?_))))))
 rintro k rE _ _ ⟨rfl, hk, hall⟩
 show X _ _ _ _ (envs [(2, ptr b1 0), (20, psv), (21, ii ((ps.length : Int))), (22, ii ((k : Int)))] rE) _ (cellsH b1 [arv] 36 :: L)
 have hpbk := hpb k
 refine qc (qa (cX (qK rfl rfl (qb (qc ?_)))))
 refine qw (p := (k : Int) < (ps.length : Int)) rfl (fun h3 => ?_) (fun h3 => ?_)
 ·refine qx (qc (qG (qc (qa (qg (ii ((k : Int))) rfl (cX (qv k jh qE rfl rfl rfl hps.slv (by omega) rfl ?_)))))))
  obtain ⟨a1, ha1, hrg1, hq1⟩ := hps.rd (i := k) (by omega)
  refine cX (qr [ii ((ps.getD k (0, [])).1), a1] je qE rfl rfl (Rd.all (hrg1 _)) (cX (qY [ii (0), sN] qX rfl ?_)))
  intro b2
  refine qd (ii ((k : Int))) rfl (cX (qL [] _ [ii ((ps.getD k (0, [])).1), a1] qE rfl rfl rfl (qz rfl (qz (qW (qM ha1)) qS)) rfl rfl rfl ?_))
  have hpb8 := hpbk (by omega)
  refine qb (qc (qc ?_))
  refine jB [cellsH b2 [ii ((ps.getD k (0, [])).1), a1] 128, cellsH b1 [arv] 36] L 8 [] [[], [0], [1], [], [3], [], [4, 5], [6]] (phiL [qe (ptr b2 1), qe a1, qe (ii (((((ps.getD k (0, [])).2).length : Nat) : Int)) : Value), qe (ptr b1 0), qe arv, qe (ii ((k : Int)) : Value), qe (.pointer (some (elemA arv (k)))), qe (ii (ar.getD k 0))]) (ownL []) mixed rfl rfl (by kernel_rfl) ?_ ?_
  ·refine pD (fun W R z9 => ?_) ?_
   ·refine qk (qj (1) qt rfl qs (by decide) rfl rfl ?_)
    exact ⟨rfl, rfl, rfl⟩
   refine pD (fun W R z9 => ?_) ?_
   ·rw [eS (l := [(0, _)]) ⟨z9 0 rfl, ⟨⟩⟩]
    refine qk (qh qF rfl (Rd.own [] rfl rfl) ?_)
    exact ⟨rfl, rfl, rfl⟩
   refine pD (fun W R z9 => ?_) ?_
   ·rw [eS (l := [(1, _)]) ⟨z9 1 rfl, ⟨⟩⟩]
    refine qk (qB qf rfl ha1.slv ?_)
    exact ⟨rfl, rfl, rfl⟩
   refine pD (fun W R z9 => ?_) ?_
   ·refine qk (qj (0) jl rfl qs (by decide) rfl rfl ?_)
    exact ⟨rfl, rfl, rfl⟩
   refine pD (fun W R z9 => ?_) ?_
   ·rw [eS (l := [(3, _)]) ⟨z9 3 rfl, ⟨⟩⟩]
    refine qk (qh qF rfl (Rd.own [_] rfl rfl) ?_)
    exact ⟨rfl, rfl, rfl⟩
   refine pD (fun W R z9 => ?_) ?_
   ·refine qk (qo (ii ((k : Int))) rfl ?_)
    exact ⟨rfl, rfl, rfl⟩
   refine pD (fun W R z9 => ?_) ?_
   ·rw [eS (l := [(4, _), (5, _)]) ⟨z9 4 rfl, z9 5 rfl, ⟨⟩⟩]
    refine qk (qv k qf qy rfl rfl rfl har.slv (by omega) (Nat.mul_one _) ?_)
    exact ⟨rfl, rfl, rfl⟩
   refine pD (fun W R z9 => ?_) ?_
   ·rw [eS (l := [(6, _)]) ⟨z9 6 rfl, ⟨⟩⟩]
    refine qk (qh qQ rfl (har.rd (by omega)) ?_)
    exact ⟨rfl, rfl, rfl⟩
   exact stepsP.nil
  intro W hphi
  rw [eS (l := [(2, _), (7, _)]) ⟨(hphi 2 (by decide)), (hphi 7 (by decide)), ⟨⟩⟩]
  show XL _ _ _ _ _ _ _ (cellsH b2 [ii ((ps.getD k (0, [])).1), a1] 128 :: cellsH b1 [arv] 36 :: L)
  refine cX (XOp.neq rfl rfl (qg (.bool (decide ((((((ps.getD k (0, [])).2).length : Nat) : Int) : Int) ≠ ar.getD k 0))) rfl ?_))
  by_cases h4 : (((((ps.getD k (0, [])).2).length : Nat) : Int) : Int) ≠ ar.getD k 0
  ·refine qm (t := 36) rfl (vT h4) (qm (t := 36) rfl (vT h4) (qm (t := 36) rfl (vT h4) (cX (qT (.bool (true)) (vT h4) rfl (qg (.bool (true)) rfl (qm (t := 41) rfl rfl (qm (t := 41) rfl rfl (qm (t := 41) rfl rfl (cX (qT (.bool (true)) rfl rfl (qb ?_)))))))))))
   refine jv rfl (qc (qa (qd (.bool (false)) rfl (qb (qp (qi (qA (qi (qi (qA (qi (ql (L' := L) [.bool (false)] (.bool (false)) (.tmp rfl .nil) rfl rF rF (sD (sD sR)) ?_))))))))))))
   exact ⟨(vB (polys_no (i := k) (by omega) (polyOk_no (fun h9 => by have h8 := h9.1; have h7 := h9.2.1; omega)))), rfl, rfl⟩
  refine qn (t := 36) rfl (vF h4) (qj (0) qt rfl qy (by decide) rfl rfl (qn (t := 36) rfl (vF h4) (qh qQ rfl (Rd.own [] rfl rfl) (qn (t := 36) rfl (vF h4) (qK rfl rfl (cX (qP (.bool (decide (((ps.getD k (0, [])).1 : Int) < 0))) (vF h4) rfl (qg (.bool (decide (((ps.getD k (0, [])).1 : Int) < 0))) rfl ?_))))))))
  by_cases h5 : ((ps.getD k (0, [])).1 : Int) < 0
  ·refine qm (t := 41) rfl (vT h5) (qm (t := 41) rfl (vT h5) (qm (t := 41) rfl (vT h5) (cX (qT (.bool (true)) (vT h5) rfl (qb (jv rfl (qc (qa (qd (.bool (false)) rfl (qb (qp (qi (qA (qi (qi (qA (qi (ql (L' := L) [.bool (false)] (.bool (false)) (.tmp rfl .nil) rfl rF rF (sD (sD sR)) ?_))))))))))))))))))
   exact ⟨(vB (polys_no (i := k) (by omega) (polyOk_no (fun h9 => by have h8 := h9.1; have h7 := h9.2.1; omega)))), rfl, rfl⟩
  refine qn (t := 41) rfl (vF h5) (qj (0) qt rfl qy (by decide) rfl rfl (qn (t := 41) rfl (vF h5) (qh qQ rfl (Rd.own [] rfl rfl) (qn (t := 41) rfl (vF h5) (jn rfl rfl (cX (qP (.bool (decide (((ps.getD k (0, [])).1 : Int) > 9))) (vF h5) rfl (qb ?_))))))))
  refine qw (p := ((ps.getD k (0, [])).1 : Int) > 9) rfl (fun h6 => ?_) (fun h6 => ?_)
  ·refine qc (qa (qd (.bool (false)) rfl (qb (qp (qi (qA (qi (qi (qA (qi (ql (L' := L) [.bool (false)] (.bool (false)) (.tmp rfl .nil) rfl rF rF (sD (sD sR)) ?_)))))))))))
   exact ⟨(vB (polys_no (i := k) (by omega) (polyOk_no (fun h9 => by have h8 := h9.1; have h7 := h9.2.1; omega)))), rfl, rfl⟩
  refine qx (qc (qa (cX (qj (1) qt rfl qs (by decide) rfl rfl (cX (qh qF rfl (Rd.own [] rfl rfl) (cX (qB qf rfl ha1.slv (qg (ii (0)) rfl (qb (qG (jd (α := Nat) (fun j => [(2, ptr b1 0), (20, psv), (21, ii ((ps.length : Int))), (22, ii ((k : Int))), (47, a1), (48, ii (((((ps.getD k (0, [])).2).length : Nat) : Int))), (49, ii ((j : Int)))]) (fun j => cellsH b2 [ii ((ps.getD k (0, [])).1), a1] 128 :: cellsH b1 [arv] 36 :: L) (fun j F' => F = F' ∧ (j ≤ (ps.getD k (0, [])).2.length) ∧ (∀ i, i < j → 0 ≤ (ps.getD k (0, [])).2.getD i 0 ∧ (ps.getD k (0, [])).2.getD i 0 ≤ 9)) (fun j => (ps.getD k (0, [])).2.length - j) 0 ⟨rfl, rfl, rfl, rfl, rfl, rfl, rfl, ⟨⟩⟩ (sC (sC sR)) ⟨rfl, (by (try dsimp only) <;> omega), (fun i hi => absurd hi (by omega))⟩ ?_))))))))))))
  rintro j rE _ _ ⟨rfl, hj, hcf⟩
  show X _ _ _ _ (envs [(2, ptr b1 0), (20, psv), (21, ii ((ps.length : Int))), (22, ii ((k : Int))), (47, a1), (48, ii (((((ps.getD k (0, [])).2).length : Nat) : Int))), (49, ii ((j : Int)))] rE) _ (cellsH b2 [ii ((ps.getD k (0, [])).1), a1] 128 :: cellsH b1 [arv] 36 :: L)
  have hpb9 := hpbk (by omega)
  refine qc (qa (cX (qK rfl rfl (qb (qc ?_)))))
  refine qw (p := (j : Int) < ((((ps.getD k (0, [])).2).length : Nat) : Int)) rfl (fun h7 => ?_) (fun h7 => ?_)
  ·refine qx (qc (qG (qc (qa (cX (qv j qf qy rfl rfl rfl ha1.slv (by omega) (Nat.mul_one _) (cX (qh qQ rfl (ha1.rd (by omega)) (qd (ii (((ps.getD k (0, [])).2).getD j 0)) rfl (qb (qc (qa (qg (ii (((ps.getD k (0, [])).2).getD j 0)) rfl (cX (qK rfl rfl (qg (.bool (decide ((((ps.getD k (0, [])).2).getD j 0 : Int) < 0))) rfl ?_))))))))))))))))
   by_cases h8 : (((ps.getD k (0, [])).2).getD j 0 : Int) < 0
   ·refine qm (t := 55) rfl (vT h8) (qm (t := 55) rfl (vT h8) (cX (qT (.bool (true)) (vT h8) rfl (qb (jv rfl (qc (qa (qd (.bool (false)) rfl (qb (qp (qA (qi (qi (qA (qA (qi (qi (qA (qi (ql (L' := L) [.bool (false)] (.bool (false)) (.tmp rfl .nil) rfl rF rF (sD (sD sR)) ?_))))))))))))))))))))
    exact ⟨(vB (polys_no (i := k) (by omega) (polyOk_no (fun h9 => by have h8 := h9.2.2 j (by omega); omega)))), rfl, rfl⟩
   refine qn (t := 55) rfl (vF h8) (qo (ii (((ps.getD k (0, [])).2).getD j 0)) rfl (qn (t := 55) rfl (vF h8) (jn rfl rfl (cX (qP (.bool (decide ((((ps.getD k (0, [])).2).getD j 0 : Int) > 9))) (vF h8) rfl (qb ?_))))))
   refine qw (p := (((ps.getD k (0, [])).2).getD j 0 : Int) > 9) rfl (fun h9 => ?_) (fun h9 => ?_)
   ·refine qc (qa (qd (.bool (false)) rfl (qb (qp (qA (qi (qi (qA (qA (qi (qi (qA (qi (ql (L' := L) [.bool (false)] (.bool (false)) (.tmp rfl .nil) rfl rF rF (sD (sD sR)) ?_))))))))))))))
    exact ⟨(vB (polys_no (i := k) (by omega) (polyOk_no (fun h9 => by have h8 := h9.2.2 j (by omega); omega)))), rfl, rfl⟩
   refine qx (qa (cX (qN (((j + 1 : Nat) : Int)) rfl rfl (by omega) (by omega) (qg (ii (((j + 1 : Nat) : Int))) rfl (qb ?_)))))
   exact ⟨j + 1, _, FLe.refl _, rF, ⟨rfl, rfl, rfl, rfl, rfl, rfl, rfl, ⟨⟩⟩, (sC (sC sR)), ⟨rfl, (by (try dsimp only) <;> omega), (fun i hi => (Nat.lt_or_ge i j).elim (fun h => hcf i h) (fun h => by obtain rfl : i = j := (by omega); omega))⟩, (by omega)⟩
  refine jb (qu (qu (qJ (qa (cX (qN (((k + 1 : Nat) : Int)) rfl rfl (by omega) (by omega) (qg (ii (((k + 1 : Nat) : Int))) rfl (qb ?_))))))))
  exact ⟨k + 1, _, FLe.refl _, rF, ⟨rfl, rfl, rfl, rfl, ⟨⟩⟩, (sD (sC sR)), ⟨rfl, (by (try dsimp only) <;> omega), (fun i hi => (Nat.lt_or_ge i k).elim (fun h => hall i h) (fun h => by obtain rfl : i = k := (by omega); exact polyOk_iff.2 ⟨by omega, by omega, fun j2 hj2 => hcf j2 (by omega)⟩))⟩, (by omega)⟩
 refine jb (qu (qu (qJ (qc (qa (qd (.bool (true)) rfl (qb (qp (ql (L' := L) [.bool (true)] (.bool (true)) (.tmp rfl .nil) rfl rF rF (sD sR) ?_)))))))))
 exact ⟨(vB (polys_yes (by simp_all) (by omega) (fun i hi => hall i (by omega)))), rfl, rfl⟩

/- impl.varForm -/
theorem varForm_spec {F : FH} {L : List HP} {m : Nat} (hm : m ≤ 48) :
    Does prog 387 [ii (-1 - (m : Int))] F (L) (fun v F' L' => ∃ (a : Value), (.agg #[ii (0), a] : Value) = v ∧ (IntsF F' a (varP (-1 - (m : Int))).2) ∧ L = L') := by
 refine qC func387 rfl rfl rfl (qc (qa (cX (qY [ii (0), sN] qX rfl ?_))))
 intro b1
 refine qb (qc (qa (qg (ii (-1 - (m : Int))) rfl (cX (XOp.negR (a := -1 - (m : Int)) (((m + 1 : Nat) : Int)) rfl (by omega) (by omega) (cX (XOp.makeSlice (n := m + 1) (bytes := 8) [ii (0)] qf qy typeInfo2 rfl jr rfl rfl rfl rfl (by omega) (by omega) ?_)))))))
 intro v1 hv1
 rw [intsH_zeros]
 refine qd (v1) rfl (qb (qc (qa (qg (v1) rfl (qg (ii (-1 - (m : Int))) rfl (cX (jo ((m : Int)) rfl rfl (by omega) (by omega) (cX (qv m qf qy rfl rfl rfl (intsH.slv [] rfl) (by simp) (Nat.mul_one _) (cX (intsH.storeX (i := m) (v := v1) [] _ (((List.replicate (m + 1) 0)).set m 1) qy rfl rfl rfl (by simp) rfl (qb (qc (qa (qg (v1) rfl (cX (jA [ii (0), v1] [ii (0), sN] [(0, 1), (1, 1)] [(1, [v1])] qt qX rfl (.cons rfl qy (.cons rfl qs PlacesAre.nil)) rfl (.cons (cells_one (isSl_lit hv1)) CellsAre.nil) ?_)))))))))))))))))
 refine cX (qL [_] _ [ii (0), v1] qE rfl rfl rfl (qz rfl (qz (qW (isSl_lit hv1)) qS)) rfl rfl rfl (qb (ju [] _ _ rfl (fun F1 le1 hz1 => ?_))))
 have hf1 : IntsF F1 v1 ((((List.replicate (m + 1) 0)).set m 1)) := intsH.fz (xs := (((List.replicate (m + 1) 0)).set m 1)) hz1.fz
 refine qp (ql (L' := L) [.agg #[ii (0), v1]] (.agg #[ii (0), v1]) (.cell rfl (jq [ii (0), v1] je qE rfl (Rd.ownN [] rfl rfl)) .nil) rfl le1 rF (sD sR) ?_)
 have e9 := set_last m
 rw [← e9]
 exact ⟨_, rfl, hf1, rfl⟩

/- (impl.Poly).applied -/
set_option maxRecDepth 20000 in
theorem applied_spec {F : FH} {L : List HP} {pc : Int} {pfv : Value} {pf : List Int} (hpf : IntsF F pfv pf) {fsv : Value} {fs : List PolyT} (hfs : PolysF F fsv fs) (hC : InC (pc, pf)) (hlf : pf.length = fs.length) (hl3 : fs.length ≤ 3) (hF : ∀ i, InP 1000000000000 (fs.getD i (0, []))) :
    Does prog 388 [.agg #[ii (pc), pfv], fsv] F (L) (fun v F' L' => ∃ (a : Value), (.tuple #[.agg #[ii (((appP (pc, pf) fs).getD (0, [])).1), a], .bool ((appP (pc, pf) fs).isSome)] : Value) = v ∧ (IntsF F' a ((appP (pc, pf) fs).getD (0, [])).2) ∧ L = L') := by
 refine qC func388 rfl rfl rfl (qc (qa (cX (qI [ii (pc), pfv] rfl rfl ?_))))
 intro b1
 refine cX (qY [ii (0), sN] qX rfl ?_)
 intro b2
 refine qd (.bool (false)) rfl (qb (qc (qa (cX (qj (0) qt rfl qy (by decide) rfl rfl (cX (qh qQ rfl (Rd.own [_] rfl rfl) (cX (jA [ii (pc), sN] [ii (0), sN] [(0, 1), (1, 1)] [(0, [ii (pc)])] qt qX rfl (.cons rfl qy (.cons rfl qs PlacesAre.nil)) rfl (.cons rfl CellsAre.nil) (cX (qY [ii (0), sN] qX rfl ?_)))))))))))
 intro b3
 refine cX (qL [] _ [ii (pc), sN] qE rfl rfl rfl (qz rfl (qz rfl qS)) rfl rfl rfl (qb (qc (qc (qa (qg (fsv) rfl (cX (qB jh rfl hfs.slv (qg (ii (0)) rfl (qb (qG (jd (α := Nat × Int × Value × List Int) (fun xQ => [(2, ptr b1 0), (4, ptr b2 0), (6, ptr b3 0), (14, fsv), (15, ii ((fs.length : Int))), (16, ii (((xQ.1 : Nat) : Int)))]) (fun xQ => intsH 2 xQ.2.2.1 xQ.2.2.2 :: cellsH b3 [ii (xQ.2.1), xQ.2.2.1] 128 :: cellsH b2 [ii (0), sN] 128 :: cellsH b1 [ii (pc), pfv] 128 :: L) (fun xQ F' => F = F' ∧ (IsSl xQ.2.2.1) ∧ (xQ.1 ≤ fs.length) ∧ (rawP (pc, pf) fs xQ.1 = (xQ.2.1, xQ.2.2.2))) (fun xQ => fs.length - xQ.1) (0, pc, sN, []) ⟨rfl, rfl, rfl, rfl, rfl, rfl, ⟨⟩⟩ (Sub.trans (intsH.addNil 2 none _) (sC (sC (sC (sC sR))))) ⟨rfl, (⟨_, _, _, rfl⟩), (Nat.zero_le _), (rfl)⟩ ?_))))))))))))
 rintro ⟨k, c, ov, os⟩ rE _ _ ⟨rfl, hov, hk, hc⟩
 show X _ _ _ _ (envs [(2, ptr b1 0), (4, ptr b2 0), (6, ptr b3 0), (14, fsv), (15, ii ((fs.length : Int))), (16, ii ((k : Int)))] rE) _ (intsH 2 ov os :: cellsH b3 [ii (c), ov] 128 :: cellsH b2 [ii (0), sN] 128 :: cellsH b1 [ii (pc), pfv] 128 :: L)
 dsimp only at hov hk hc
 have hin := rawP_in hC hF k
 rw [hc] at hin
 have hc1 : 0 ≤ c ∧ c ≤ 9 + 9000000000000 * (k : Int) := hin.1
 have hcl : os.length ≤ 48 := hin.2.1
 have hcg : ∀ i, 0 ≤ os.getD i 0 ∧ os.getD i 0 ≤ 9 + 9000000000000 * (k : Int) := hin.2.2
 have hm1 : 0 ≤ pf.getD k 0 * (fs.getD k (0, [])).1 ∧ pf.getD k 0 * (fs.getD k (0, [])).1 ≤ 9 * 1000000000000 := mul_in (hC.2 k) (hF k).1
 have hfl := (hF k).2.1
 refine qc (qa (cX (qK rfl rfl (qb (qc ?_)))))
 refine qw (p := (k : Int) < (fs.length : Int)) rfl (fun h1 => ?_) (fun h1 => ?_)
 ·refine qx (qc (qG (qc (qa (qg (ii ((k : Int))) rfl (cX (qv k jh qE rfl rfl rfl hfs.slv (by omega) rfl ?_)))))))
  obtain ⟨a1, ha1, hrg1, hq1⟩ := hfs.rd (i := k) (by omega)
  refine cX (qr [ii ((fs.getD k (0, [])).1), a1] je qE rfl rfl (Rd.all (hrg1 _)) (cX (qY [ii (0), sN] qX rfl ?_)))
  intro b4
  refine qd (ii ((k : Int))) rfl (cX (qL [] _ [ii ((fs.getD k (0, [])).1), a1] qE rfl rfl rfl (qz rfl (qz (qW (qM ha1)) qS)) rfl rfl rfl (qb (qc ?_))))
  refine jB [cellsH b4 [ii ((fs.getD k (0, [])).1), a1] 128, intsH 2 ov os, cellsH b3 [ii (c), ov] 128, cellsH b2 [ii (0), sN] 128, cellsH b1 [ii (pc), pfv] 128] L 10 [] [[], [0], [], [2], [], [3, 4], [5], [], [7], [6, 8]] (phiL [qe (ptr b3 0), qe (ii (c)), qe (ptr b1 1), qe pfv, qe (ii ((k : Int)) : Value), qe (.pointer (some (elemA pfv (k)))), qe (ii (pf.getD k 0)), qe (ptr b4 0), qe (ii ((fs.getD k (0, [])).1)), qe (ii ((pf.getD k 0) * ((fs.getD k (0, [])).1)))]) (ownL []) mixed rfl rfl (by kernel_rfl) ?_ ?_
  ·refine pD (fun W R z9 => ?_) ?_
   ·refine qk (qj (0) qt rfl qy (by decide) rfl rfl ?_)
    exact ⟨rfl, rfl, rfl⟩
   refine pD (fun W R z9 => ?_) ?_
   ·rw [eS (l := [(0, _)]) ⟨z9 0 rfl, ⟨⟩⟩]
    refine qk (qh qQ rfl (Rd.own [_, _] rfl rfl) ?_)
    exact ⟨rfl, rfl, rfl⟩
   refine pD (fun W R z9 => ?_) ?_
   ·refine qk (qj (1) qt rfl qs (by decide) rfl rfl ?_)
    exact ⟨rfl, rfl, rfl⟩
   refine pD (fun W R z9 => ?_) ?_
   ·rw [eS (l := [(2, _)]) ⟨z9 2 rfl, ⟨⟩⟩]
    refine qk (qh qF rfl (Rd.own [_, _, _, _] rfl rfl) ?_)
    exact ⟨rfl, rfl, rfl⟩
   refine pD (fun W R z9 => ?_) ?_
   ·refine qk (qo (ii ((k : Int))) rfl ?_)
    exact ⟨rfl, rfl, rfl⟩
   refine pD (fun W R z9 => ?_) ?_
   ·rw [eS (l := [(3, _), (4, _)]) ⟨z9 3 rfl, z9 4 rfl, ⟨⟩⟩]
    refine qk (qv k qf qy rfl rfl rfl hpf.slv (by omega) (Nat.mul_one _) ?_)
    exact ⟨rfl, rfl, rfl⟩
   refine pD (fun W R z9 => ?_) ?_
   ·rw [eS (l := [(5, _)]) ⟨z9 5 rfl, ⟨⟩⟩]
    refine qk (qh qQ rfl (hpf.rd (by omega)) ?_)
    exact ⟨rfl, rfl, rfl⟩
   refine pD (fun W R z9 => ?_) ?_
   ·refine qk (qj (0) qt rfl qy (by decide) rfl rfl ?_)
    exact ⟨rfl, rfl, rfl⟩
   refine pD (fun W R z9 => ?_) ?_
   ·rw [eS (l := [(7, _)]) ⟨z9 7 rfl, ⟨⟩⟩]
    refine qk (qh qQ rfl (Rd.own [] rfl rfl) ?_)
    exact ⟨rfl, rfl, rfl⟩
   refine pD (fun W R z9 => ?_) ?_
   ·rw [eS (l := [(6, _), (8, _)]) ⟨z9 6 rfl, z9 8 rfl, ⟨⟩⟩]
    refine qk (XOp.mulR ((pf.getD k 0) * ((fs.getD k (0, [])).1)) rfl rfl (by omega) (by omega) ?_)
    exact ⟨rfl, rfl, rfl⟩
   exact stepsP.nil
  intro W hphi
  rw [eS (l := [(1, _), (9, _)]) ⟨(hphi 1 (by decide)), (hphi 9 (by decide)), ⟨⟩⟩]
  show XL _ _ _ _ _ _ _ (cellsH b4 [ii ((fs.getD k (0, [])).1), a1] 128 :: intsH 2 ov os :: cellsH b3 [ii (c), ov] 128 :: cellsH b2 [ii (0), sN] 128 :: cellsH b1 [ii (pc), pfv] 128 :: L)
  refine cX (qN (c + ((pf.getD k 0) * ((fs.getD k (0, [])).1))) rfl rfl (by omega) (by omega) (cX (qj (0) qt rfl qy (by decide) rfl rfl (cX (jt [_, _] _ [ii (c + ((pf.getD k 0) * ((fs.getD k (0, [])).1))), ov] qy rfl rfl rfl rfl rfl rfl (qb (qc (qG (jd (α := Nat × Value × List Int) (fun xQ => [(2, ptr b1 0), (4, ptr b2 0), (6, ptr b3 0), (7, ii ((k : Int))), (8, ptr b4 0), (14, fsv), (15, ii ((fs.length : Int))), (16, ii ((k : Int)))]) (fun xQ => cellsH b4 [ii ((fs.getD k (0, [])).1), a1] 128 :: intsH 2 xQ.2.1 xQ.2.2 :: cellsH b3 [ii (c + ((pf.getD k 0) * ((fs.getD k (0, [])).1))), xQ.2.1] 128 :: cellsH b2 [ii (0), sN] 128 :: cellsH b1 [ii (pc), pfv] 128 :: L) (fun xQ F' => F = F' ∧ (IsSl xQ.2.1) ∧ (xQ.2.2 = os ++ List.replicate xQ.1 0) ∧ (xQ.1 ≤ (fs.getD k (0, [])).2.length - os.length)) (fun xQ => (fs.getD k (0, [])).2.length - os.length - xQ.1) (0, ov, os) ⟨rfl, rfl, rfl, rfl, rfl, rfl, rfl, rfl, ⟨⟩⟩ (sC (sC (sC (sC (sC sR))))) ⟨rfl, (hov), (by simp), (Nat.zero_le _)⟩ ?_)))))))))
  rintro ⟨z, zv, zs⟩ rE _ _ ⟨rfl, hzv, hzs, hz⟩
  show X _ _ _ _ (envs [(2, ptr b1 0), (4, ptr b2 0), (6, ptr b3 0), (7, ii ((k : Int))), (8, ptr b4 0), (14, fsv), (15, ii ((fs.length : Int))), (16, ii ((k : Int)))] rE) _ (cellsH b4 [ii ((fs.getD k (0, [])).1), a1] 128 :: intsH 2 zv zs :: cellsH b3 [ii (c + ((pf.getD k 0) * ((fs.getD k (0, [])).1))), zv] 128 :: cellsH b2 [ii (0), sN] 128 :: cellsH b1 [ii (pc), pfv] 128 :: L)
  dsimp only at hzv hzs hz
  have hzl : zs.length = os.length + z := by rw [hzs]; simp
  refine qc (qc (qa (cX (qj (1) qt rfl qs (by decide) rfl rfl (cX (qh qF rfl (Rd.own [_, _] rfl rfl) (cX (qB qf rfl (intsH.slv [_] rfl) (cX (qj (1) qt rfl qs (by decide) rfl rfl (cX (qh qF rfl (Rd.own [] rfl rfl) (cX (qB qf rfl ha1.slv (cX (qK rfl rfl (qb ?_)))))))))))))))))
  refine qw (p := ((zs.length : Int) : Int) < ((((fs.getD k (0, [])).2).length : Nat) : Int)) rfl (fun h2 => ?_) (fun h2 => ?_)
  ·refine qx (qG (qa (cX (qj (1) qt rfl qs (by decide) rfl rfl (cX (qh qF rfl (Rd.own [_, _] rfl rfl) (cX (ja (s := 1) [ii (0)] [ii (0)] [(0, [ii (0)])] qf qy jr rfl (by decide) rfl (.cons rfl CellsAre.nil) rfl ?_))))))))
   intro v1 hv1
   refine cX (XOp.append1 (u := 0) [_, _] _ qf typeInfo2 rfl rfl rfl rfl rfl rfl (SlV.own [] rfl) (Rd.sl [] rfl rfl) (by (try simp only [List.length_append, List.length_nil, List.length_cons, List.length_singleton, List.length_take, List.length_drop]); omega) ?_)
   intro v2 hs1 hn1
   refine cX (qj (1) qt rfl qs (by decide) rfl rfl (cX (jt [_, _, _] _ [ii (c + ((pf.getD k 0) * ((fs.getD k (0, [])).1))), v2] qs rfl rfl (qW hs1) rfl rfl rfl (qb ?_))))
   exact ⟨(z + 1, v2, zs ++ [0]), _, FLe.refl _, rF, ⟨rfl, rfl, rfl, rfl, rfl, rfl, rfl, rfl, ⟨⟩⟩, (sD (sC (sC (sC (sC (sC sR)))))), ⟨rfl, (hs1), (by (try dsimp only); rw [hzs, List.append_assoc, List.replicate_succ']), (by (try dsimp only) <;> omega)⟩, (by omega)⟩
  refine jb (qu (qu (qJ (qc (qa (cX (qj (1) qt rfl qs (by decide) rfl rfl (cX (qh qF rfl (Rd.own [] rfl rfl) (cX (qB qf rfl ha1.slv (qg (ii (0)) rfl (qb (qG (jd (α := Nat × List Int) (fun xQ => [(2, ptr b1 0), (4, ptr b2 0), (6, ptr b3 0), (7, ii ((k : Int))), (14, fsv), (15, ii ((fs.length : Int))), (16, ii ((k : Int))), (46, a1), (47, ii (((((fs.getD k (0, [])).2).length : Nat) : Int))), (48, ii (((xQ.1 : Nat) : Int)))]) (fun xQ => cellsH b4 [ii ((fs.getD k (0, [])).1), a1] 128 :: intsH 2 zv xQ.2 :: cellsH b3 [ii (c + ((pf.getD k 0) * ((fs.getD k (0, [])).1))), zv] 128 :: cellsH b2 [ii (0), sN] 128 :: cellsH b1 [ii (pc), pfv] 128 :: L) (fun xQ F' => F = F' ∧ (xQ.1 ≤ (fs.getD k (0, [])).2.length) ∧ (xQ.2 = mixC os (fs.getD k (0, [])).2 (pf.getD k 0) xQ.1)) (fun xQ => (fs.getD k (0, [])).2.length - xQ.1) (0, zs) ⟨rfl, rfl, rfl, rfl, rfl, rfl, rfl, rfl, rfl, rfl, ⟨⟩⟩ (sC (sC (sC (sC (sC sR))))) ⟨rfl, (Nat.zero_le _), (hzs.trans (mixC_zero (by omega)))⟩ ?_)))))))))))))))
  rintro ⟨q, ms⟩ rE _ _ ⟨rfl, hv, hms⟩
  show X _ _ _ _ (envs [(2, ptr b1 0), (4, ptr b2 0), (6, ptr b3 0), (7, ii ((k : Int))), (14, fsv), (15, ii ((fs.length : Int))), (16, ii ((k : Int))), (46, a1), (47, ii (((((fs.getD k (0, [])).2).length : Nat) : Int))), (48, ii ((q : Int)))] rE) _ (cellsH b4 [ii ((fs.getD k (0, [])).1), a1] 128 :: intsH 2 zv ms :: cellsH b3 [ii (c + ((pf.getD k 0) * ((fs.getD k (0, [])).1))), zv] 128 :: cellsH b2 [ii (0), sN] 128 :: cellsH b1 [ii (pc), pfv] 128 :: L)
  dsimp only at hv hms
  have hml : ms.length = max os.length (fs.getD k (0, [])).2.length := by rw [hms, mixC_len]
  have hmv : q < (fs.getD k (0, [])).2.length → ms.getD q 0 = os.getD q 0 := fun h => by rw [hms]; exact mixC_at h
  have hcv := hcg q
  have hm2 : 0 ≤ pf.getD k 0 * (fs.getD k (0, [])).2.getD q 0 ∧ pf.getD k 0 * (fs.getD k (0, [])).2.getD q 0 ≤ 9 * 1000000000000 := mul_in (hC.2 k) ((hF k).2.2 q)
  refine qc (qa (cX (qK rfl rfl (qb (qc ?_)))))
  refine qw (p := (q : Int) < ((((fs.getD k (0, [])).2).length : Nat) : Int)) rfl (fun h3 => ?_) (fun h3 => ?_)
  ·refine qx (qc (qG (qc (qa (qg (ii ((q : Int))) rfl (cX (qv q qf qy rfl rfl rfl ha1.slv (by omega) (Nat.mul_one _) (cX (qh qQ rfl (ha1.rd (by omega)) (qd (ii ((q : Int))) rfl (qd (ii (((fs.getD k (0, [])).2).getD q 0)) rfl ?_)))))))))))
   have hmv9 := hmv (by omega)
   refine qb ?_
   refine jB [cellsH b4 [ii ((fs.getD k (0, [])).1), a1] 128, intsH 2 zv ms, cellsH b3 [ii (c + ((pf.getD k 0) * ((fs.getD k (0, [])).1))), zv] 128, cellsH b2 [ii (0), sN] 128, cellsH b1 [ii (pc), pfv] 128] L 12 [] [[], [0], [], [1, 2], [3], [], [5], [], [6, 7], [8], [], [9, 10]] (phiL [qe (ptr b3 1), qe zv, qe (ii ((q : Int)) : Value), qe (.pointer (some (elemA zv (q)))), qe (ii (ms.getD q 0)), qe (ptr b1 1), qe pfv, qe (ii ((k : Int)) : Value), qe (.pointer (some (elemA pfv (k)))), qe (ii (pf.getD k 0)), qe (ii (((fs.getD k (0, [])).2).getD q 0)), qe (ii ((pf.getD k 0) * (((fs.getD k (0, [])).2).getD q 0)))]) (ownL []) mixed rfl rfl (by kernel_rfl) ?_ ?_
   ·refine pD (fun W R z9 => ?_) ?_
    ·refine qk (qj (1) qt rfl qs (by decide) rfl rfl ?_)
     exact ⟨rfl, rfl, rfl⟩
    refine pD (fun W R z9 => ?_) ?_
    ·rw [eS (l := [(0, _)]) ⟨z9 0 rfl, ⟨⟩⟩]
     refine qk (qh qF rfl (Rd.own [_, _] rfl rfl) ?_)
     exact ⟨rfl, rfl, rfl⟩
    refine pD (fun W R z9 => ?_) ?_
    ·refine qk (qo (ii ((q : Int))) rfl ?_)
     exact ⟨rfl, rfl, rfl⟩
    refine pD (fun W R z9 => ?_) ?_
    ·rw [eS (l := [(1, _), (2, _)]) ⟨z9 1 rfl, z9 2 rfl, ⟨⟩⟩]
     refine qk (qv q qf qy rfl rfl rfl (intsH.slv [_] rfl) (by omega) (Nat.mul_one _) ?_)
     exact ⟨rfl, rfl, rfl⟩
    refine pD (fun W R z9 => ?_) ?_
    ·rw [eS (l := [(3, _)]) ⟨z9 3 rfl, ⟨⟩⟩]
     refine qk (qh qQ rfl (intsH.rd [_] rfl (by omega)) ?_)
     exact ⟨rfl, rfl, rfl⟩
    refine pD (fun W R z9 => ?_) ?_
    ·refine qk (qj (1) qt rfl qs (by decide) rfl rfl ?_)
     exact ⟨rfl, rfl, rfl⟩
    refine pD (fun W R z9 => ?_) ?_
    ·rw [eS (l := [(5, _)]) ⟨z9 5 rfl, ⟨⟩⟩]
     refine qk (qh qF rfl (Rd.own [_, _, _, _] rfl rfl) ?_)
     exact ⟨rfl, rfl, rfl⟩
    refine pD (fun W R z9 => ?_) ?_
    ·refine qk (qo (ii ((k : Int))) rfl ?_)
     exact ⟨rfl, rfl, rfl⟩
    refine pD (fun W R z9 => ?_) ?_
    ·rw [eS (l := [(6, _), (7, _)]) ⟨z9 6 rfl, z9 7 rfl, ⟨⟩⟩]
     refine qk (qv k qf qy rfl rfl rfl hpf.slv (by omega) (Nat.mul_one _) ?_)
     exact ⟨rfl, rfl, rfl⟩
    refine pD (fun W R z9 => ?_) ?_
    ·rw [eS (l := [(8, _)]) ⟨z9 8 rfl, ⟨⟩⟩]
     refine qk (qh qQ rfl (hpf.rd (by omega)) ?_)
     exact ⟨rfl, rfl, rfl⟩
    refine pD (fun W R z9 => ?_) ?_
    ·refine qk (qo (ii (((fs.getD k (0, [])).2).getD q 0)) rfl ?_)
     exact ⟨rfl, rfl, rfl⟩
    refine pD (fun W R z9 => ?_) ?_
    ·rw [eS (l := [(9, _), (10, _)]) ⟨z9 9 rfl, z9 10 rfl, ⟨⟩⟩]
     refine qk (XOp.mulR ((pf.getD k 0) * (((fs.getD k (0, [])).2).getD q 0)) rfl rfl (by omega) (by omega) ?_)
     exact ⟨rfl, rfl, rfl⟩
    exact stepsP.nil
   intro W hphi
   rw [eS (l := [(1, _), (2, _), (4, _), (11, _)]) ⟨(hphi 1 (by decide)), (hphi 2 (by decide)), (hphi 4 (by decide)), (hphi 11 (by decide)), ⟨⟩⟩]
   show XL _ _ _ _ _ _ _ (cellsH b4 [ii ((fs.getD k (0, [])).1), a1] 128 :: intsH 2 zv ms :: cellsH b3 [ii (c + ((pf.getD k 0) * ((fs.getD k (0, [])).1))), zv] 128 :: cellsH b2 [ii (0), sN] 128 :: cellsH b1 [ii (pc), pfv] 128 :: L)
   refine cX (qN ((ms.getD q 0) + ((pf.getD k 0) * (((fs.getD k (0, [])).2).getD q 0))) rfl rfl (by omega) (by omega) (cX (qv q qf qy rfl rfl rfl (intsH.slv [_] rfl) (by omega) (Nat.mul_one _) (cX (intsH.storeX (i := q) (v := zv) [_] _ (ms.set q ((ms.getD q 0) + ((pf.getD k 0) * (((fs.getD k (0, [])).2).getD q 0)))) qy rfl rfl rfl (by omega) rfl (qb (qa (cX (qN (((q + 1 : Nat) : Int)) rfl rfl (by omega) (by omega) (qg (ii (((q + 1 : Nat) : Int))) rfl (qb ?_)))))))))))
   exact ⟨(q + 1, (ms.set q ((ms.getD q 0) + ((pf.getD k 0) * (((fs.getD k (0, [])).2).getD q 0))))), _, FLe.refl _, rF, ⟨rfl, rfl, rfl, rfl, rfl, rfl, rfl, rfl, rfl, rfl, ⟨⟩⟩, (sC (sC (sC (sC (sC sR))))), ⟨rfl, (by (try dsimp only) <;> omega), (by (try dsimp only); rw [hms]; exact mixC_next (by omega))⟩, (by omega)⟩
  refine jb (qu (qu (qJ (qa (cX (qN (((k + 1 : Nat) : Int)) rfl rfl (by omega) (by omega) (qg (ii (((k + 1 : Nat) : Int))) rfl (qb ?_))))))))
  exact ⟨(k + 1, c + ((pf.getD k 0) * ((fs.getD k (0, [])).1)), zv, ms), _, FLe.refl _, rF, ⟨rfl, rfl, rfl, rfl, rfl, rfl, ⟨⟩⟩, (sD (sC (sC (sC (sC sR))))), ⟨rfl, (hzv), (by (try dsimp only) <;> omega), (by (try dsimp only); show addP (rawP (pc, pf) fs k) (fs.getD k (0, [])) (pf.getD k 0) = _; rw [hc]; exact Prod.ext rfl (by (try dsimp only); rw [hms]; exact (mixC_end (by omega)).symm))⟩, (by omega)⟩
 refine jb (qu (qu (qJ (qc (qc (qa (cX (qj (0) qt rfl qy (by decide) rfl rfl (cX (qh qQ rfl (Rd.own [_] rfl rfl) (cX (jn rfl rfl (qg (.bool (decide ((c : Int) > 1000000000000))) rfl ?_)))))))))))))
 by_cases h4 : (c : Int) > 1000000000000
 ·refine qm (t := 72) rfl (vT h4) (qm (t := 72) rfl (vT h4) (qm (t := 72) rfl (vT h4) (qm (t := 72) rfl (vT h4) (qm (t := 72) rfl (vT h4) (XL.noU (t := 77) rfl rfl (XL.noU (t := 77) rfl rfl (XL.noU (t := 77) rfl rfl (XL.noU (t := 77) rfl rfl (qm (t := 72) rfl (vT h4) ?_)))))))))
  refine cX (qT (.bool (true)) (vT h4) rfl (qb (jv rfl (qc (qa (cX (jA [ii (0), sN] [ii (0), sN] [(0, 1), (1, 1)] [] qt qX rfl (.cons rfl qy (.cons rfl qs PlacesAre.nil)) rfl CellsAre.nil (cX (qL [_, _] _ [ii (0), sN] qE rfl rfl rfl (qz rfl (qz rfl qS)) rfl rfl rfl (qd (.bool (false)) rfl (qb (qp (qi (ql (L' := L) [.agg #[ii (0), sN], .bool (false)] (.tuple #[.agg #[ii (0), sN], .bool (false)]) (.cell rfl (jq [ii (0), sN] je qE rfl (Rd.ownN [_, _] rfl rfl)) (.tmp rfl .nil)) rfl rF rF (sD (sD (sD (sD sR)))) ?_))))))))))))))
  have hr9 : rawP (pc, pf) fs fs.length = (c, os) := by rw [← show k = fs.length from by omega]; exact hc
  have hb : bigP (c, os) = true := by first | exact bigP_1 (by dsimp only; omega) | exact bigP_2 ((bigC_max (by dsimp only; omega)).trans (decide_eq_true (by dsimp only; omega)))
  rw [appP_no (by rw [hr9]; exact hb)]
  exact ⟨_, rfl, IntsF.nilV, rfl⟩
 refine qn (t := 72) rfl (vF h4) (qj (1) qt rfl qs (by decide) rfl rfl (qn (t := 72) rfl (vF h4) (qh qF rfl (Rd.own [_] rfl rfl) (qn (t := 72) rfl (vF h4) (qB qf rfl (intsH.slv [] rfl) (qn (t := 72) rfl (vF h4) (jn rfl rfl (qn (t := 72) rfl (vF h4) (qo (.bool (decide (((os.length : Int) : Int) > 0))) rfl ?_)))))))))
 by_cases h5 : ((os.length : Int) : Int) > 0
 ·refine qn (t := 77) rfl (vT h5) (qj (1) qt rfl qs (by decide) rfl rfl (qn (t := 77) rfl (vT h5) (qh qF rfl (Rd.own [_] rfl rfl) (qn (t := 77) rfl (vT h5) (XOp.lend [] _ _ rfl (fun F1 le1 hz1 => ?_))))))
  have hf1 : IntsF _ ov os := intsH.fz (xs := os) hz1
  refine id (qq (args := [ov]) call393 rfl (Max_spec hf1 (h1 := (by first | assumption | rfl | omega | simp)) (hbd := (by first | assumption | rfl | omega | simp))) ?_)
  rintro _ _ _ _ ⟨rfl, rfl, rfl⟩
  show XL _ _ _ _ _ _ _ (intsH 2 ov os :: cellsH b3 [ii (c), ov] 128 :: cellsH b2 [ii (0), sN] 128 :: cellsH b1 [ii (pc), pfv] 128 :: L)
  refine qn (t := 77) rfl (vT h5) (jn rfl rfl (qn (t := 72) rfl (vF h4) (qT (.bool (decide ((maxC os : Int) > 1000000000000))) (vT h5) rfl (cX (qP (.bool (decide ((maxC os : Int) > 1000000000000))) (vF h4) rfl (qb ?_))))))
  refine qw (p := (maxC os : Int) > 1000000000000) rfl (fun h6 => ?_) (fun h6 => ?_)
  ·refine qc (qa (cX (jA [ii (0), sN] [ii (0), sN] [(0, 1), (1, 1)] [] qt qX rfl (.cons rfl qy (.cons rfl qs PlacesAre.nil)) rfl CellsAre.nil (cX (qL [_, _] _ [ii (0), sN] qE rfl rfl rfl (qz rfl (qz rfl qS)) rfl rfl rfl (qd (.bool (false)) rfl (qb (qp (qi (ql (L' := L) [.agg #[ii (0), sN], .bool (false)] (.tuple #[.agg #[ii (0), sN], .bool (false)]) (.cell rfl (jq [ii (0), sN] je qE rfl (Rd.ownN [_, _] rfl rfl)) (.tmp rfl .nil)) rfl rF rF (sD (sD (sD (sD sR)))) ?_))))))))))
   have hr9 : rawP (pc, pf) fs fs.length = (c, os) := by rw [← show k = fs.length from by omega]; exact hc
   have hb : bigP (c, os) = true := by first | exact bigP_1 (by dsimp only; omega) | exact bigP_2 ((bigC_max (by dsimp only; omega)).trans (decide_eq_true (by dsimp only; omega)))
   rw [appP_no (by rw [hr9]; exact hb)]
   exact ⟨_, rfl, IntsF.nilV, rfl⟩
  refine qx (qc (qa (cX (qr [ii (c), ov] je qE rfl rfl (Rd.ownN [_] rfl rfl) (cX (qL [_, _] _ [ii (c), ov] qE rfl rfl rfl (qz rfl (qz (qW hov) qS)) rfl rfl rfl (qd (.bool (true)) rfl (qb (ju [] _ _ rfl (fun F2 le2 hz2 => ?_))))))))))
  have hf2 : IntsF F2 ov os := intsH.fz (xs := os) hz2.fz
  refine qp (ql (L' := L) [.agg #[ii (c), ov], .bool (true)] (.tuple #[.agg #[ii (c), ov], .bool (true)]) (.cell rfl (jq [ii (c), ov] je qE rfl (Rd.ownN [_] rfl rfl)) (.tmp rfl .nil)) rfl le2 rF (sD (sD (sD sR))) ?_)
  have hr9 : rawP (pc, pf) fs fs.length = (c, os) := by rw [← show k = fs.length from by omega]; exact hc
  have hb : bigP (c, os) = false := bigP_no (by dsimp only; omega) (by first | exact bigC_nil (by dsimp only; omega) | exact (bigC_max (by dsimp only; omega)).trans (decide_eq_false (by dsimp only; omega)))
  rw [appP_yes (by rw [hr9]; exact hb), hr9]
  exact ⟨_, rfl, hf2, rfl⟩
 refine qm (t := 77) rfl (vF h5) (qm (t := 77) rfl (vF h5) (qm (t := 77) rfl (vF h5) (qm (t := 77) rfl (vF h5) (qn (t := 72) rfl (vF h4) (qP (.bool (false)) (vF h5) rfl (cX (qP (.bool (false)) (vF h4) rfl (qb (X.condF rfl (qx (qc (qa (cX (qr [ii (c), ov] je qE rfl rfl (Rd.ownN [_] rfl rfl) ?_))))))))))))))
 refine cX (qL [_, _] _ [ii (c), ov] qE rfl rfl rfl (qz rfl (qz (qW hov) qS)) rfl rfl rfl (qd (.bool (true)) rfl (qb (ju [] _ _ rfl (fun F3 le3 hz3 => ?_)))))
 have hf3 : IntsF F3 ov os := intsH.fz (xs := os) hz3.fz
 refine qp (ql (L' := L) [.agg #[ii (c), ov], .bool (true)] (.tuple #[.agg #[ii (c), ov], .bool (true)]) (.cell rfl (jq [ii (c), ov] je qE rfl (Rd.ownN [_] rfl rfl)) (.tmp rfl .nil)) rfl le3 rF (sD (sD (sD sR))) ?_)
 have hr9 : rawP (pc, pf) fs fs.length = (c, os) := by rw [← show k = fs.length from by omega]; exact hc
 have hb : bigP (c, os) = false := bigP_no (by dsimp only; omega) (by first | exact bigC_nil (by dsimp only; omega) | exact (bigC_max (by dsimp only; omega)).trans (decide_eq_false (by dsimp only; omega)))
 rw [appP_yes (by rw [hr9]; exact hb), hr9]
 exact ⟨_, rfl, hf3, rfl⟩
end Go.Proofs.YtjpfankibmeaaaaGreat
