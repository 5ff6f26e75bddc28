/-
  Walks, one after the other (part 2).
-/
import Derived.Test.YtjpfankibmeaaaaGreatQACL1
import Derived.Test.YtjpfankibmeaaaaGreatQACB0
set_option linter.unusedSimpArgs false
set_option linter.unusedVariables false
namespace Go.Proofs.YtjpfankibmeaaaaGreat
open Go X M Tryz

/- spec.PickBy -/
theorem sPickBy_spec {F : FH} {L : List HP} {arv : Value} {ar : List Int} (har : IntsF F arv ar) {rsv : Value} {rs : List (List Int × List Int)} (hrs : PairsF F rsv rs) {tv : Value} {t : List Int} (ht : IntsF F tv t) {st : Int} (hla : ar.length ≤ 4000000) (hlr : rs.length ≤ 4000000) (hrb : ∀ i, i < rs.length → (rs.getD i ([], [])).1.length ≤ 4000000 ∧ (rs.getD i ([], [])).2.length ≤ 4000000) (hlt : t.length ≤ 4000000) :
    Does prog 269 [.agg #[arv, rsv], tv, ii (st)] F (L) (fun v F' L' => (.tuple #[ii (pickAt ar rs t st), ii (pickRule ar rs t st), .bool (pickB ar rs t st)] : Value) = v ∧ F = F' ∧ L = L') := by
 refine qG func269 rfl rfl rfl (qd (qb (cX (jb [arv, rsv] rfl rfl ?_))))
 intro b1
 refine qh (ii (0)) rfl (qh (ii (0)) rfl (qh (.bool (false)) rfl (qc (qd (qd (qb (cX (qu [arv, rsv] jU jK rfl rfl (Rd.ownN [] rfl rfl) (qg (tv) rfl (qg (ii (st)) rfl (cX (qn (args := [.agg #[arv, rsv], tv, ii (st)]) call268 rfl (l8Right_spec (st := st) har hrs ht (hla := (by first | assumption | rfl | omega | simp)) (hlr := (by first | assumption | rfl | omega | simp)) (hrb := (by first | assumption | rfl | omega | simp)) (hlt := (by first | assumption | rfl | omega | simp))) ?_))))))))))))
 rintro _ _ _ _ ⟨rfl, rfl, rfl⟩
 refine cX (jt rfl (qc ?_))
 refine jF (t := !((rightB ar rs t && decide (1 ≤ st ∧ st ≤ 3)))) rfl (fun h1 => ?_) (fun h1 => ?_)
 ·refine qd (qb (qh (ii (0)) rfl (qh (ii (0)) rfl (qh (.bool (false)) rfl (qc (qw (ql (qr (L' := L) [ii (0), ii (0), .bool (false)] (.tuple #[ii (0), ii (0), .bool (false)]) (.tmp rfl (.tmp rfl (.tmp rfl .nil))) rfl rF rF (sD sR) ?_))))))))
  refine ⟨?_, rfl, rfl⟩
  have hz : pickB ar rs t st = false := pickB_no (by intro h; simp_all)
  rw [pickAt, pickRule, hz]; rfl
 have hri : rightB ar rs t = true ∧ (1 ≤ st ∧ st ≤ 3) := by simpa using h1
 have hsys := (right_iff.1 hri.1).1
 have ho := (right_iff.1 hri.1).2
 refine qz (qd (qb (cX (qu [arv, rsv] jU jK rfl rfl (Rd.ownN [] rfl rfl) (qg (tv) rfl (qg (ii (st)) rfl (cX (qn (args := [.agg #[arv, rsv], tv, ii (st)]) call337 rfl (l8Places_spec (st := st) har hrs ht (hla := (by first | assumption | rfl | omega | simp)) (hlr := (by first | assumption | rfl | omega | simp)) (hrb := (by first | assumption | rfl | omega | simp)) (hlt := (by first | assumption | rfl | omega | simp))) ?_))))))))
 rintro _ F1 _ le1 ⟨x1, rfl, hr1, rfl⟩
 replace har := har.mono le1
 replace hrs := hrs.mono le1
 replace ht := ht.mono le1
 refine qh (x1) rfl (qc (qd (qd (qb (qg (x1) rfl (cX (qE qf rfl hr1.slv (cX (ju rfl rfl (qc ?_))))))))))
 refine qC (p := ((((placesL ar rs t st).length : Nat) : Int) : Int) = 0) rfl (fun h2 => ?_) (fun h2 => ?_)
 ·refine qd (qb (qh (ii (0)) rfl (qh (ii (0)) rfl (qh (.bool (false)) rfl (qc (qw (ql (qr (L' := L) [ii (0), ii (0), .bool (false)] (.tuple #[ii (0), ii (0), .bool (false)]) (.tmp rfl (.tmp rfl (.tmp rfl .nil))) rfl rF le1 (sD sR) ?_))))))))
  refine ⟨?_, rfl, rfl⟩
  have hz : pickB ar rs t st = false := pickB_no (by intro h; exact h.2.2 ((places_nil st hri.1).1 (List.eq_nil_of_length_eq_zero (by omega))))
  rw [pickAt, pickRule, hz]; rfl
 have hne : redL ar rs t ≠ [] := fun e => by have := congrArg List.length ((places_nil st hri.1).2 e); simp only [List.length_nil] at this; omega
 have hpp := places_pick st hri.1 hne
 obtain ⟨q, hq1, hq2, hq3, _⟩ := (pick_spec (ar := ar) (rs := rs) (t := t) st).resolve_left (fun h => hne h.2)
 refine qz (qd ?_)
 refine jx [cellsH b1 [arv, rsv] 39] L 9 [] [[], [0], [1], [], [], [], [5], [6], [3, 4, 7]] (phiL [qe x1, qe (.pointer (some (elemA x1 (0)))), qe (ii ((placesL ar rs t st).getD 0 0)), qe (.agg #[arv, rsv]), qe tv, qe x1, qe (.pointer (some (elemA x1 (0)))), qe (ii ((placesL ar rs t st).getD 0 0)), qe (ii (ruleAtL ar rs t (((placesL ar rs t st).getD 0 0).toNat)))]) (ownL []) mixed rfl rfl (by kernel_rfl) ?_ ?_
 ·refine pD (fun W R z9 => ?_) ?_
  ·refine qi (qm (x1) rfl ?_)
   exact ⟨rfl, rfl, rfl⟩
  refine pD (fun W R z9 => ?_) ?_
  ·rw [zA 0 (z9 0 rfl)]
   refine qi (qt 0 qf qq rfl rfl rfl hr1.slv (by omega) (Nat.mul_one _) ?_)
   exact ⟨rfl, rfl, rfl⟩
  refine pD (fun W R z9 => ?_) ?_
  ·rw [zA 1 (z9 1 rfl)]
   refine qi (qj qP rfl (hr1.rd (by omega)) ?_)
   exact ⟨rfl, rfl, rfl⟩
  refine pD (fun W R z9 => ?_) ?_
  ·refine qi (qu [arv, rsv] jU jK rfl rfl (Rd.ownN [] rfl rfl) ?_)
   exact ⟨rfl, rfl, rfl⟩
  refine pD (fun W R z9 => ?_) ?_
  ·refine qi (qm (tv) rfl ?_)
   exact ⟨rfl, rfl, rfl⟩
  refine pD (fun W R z9 => ?_) ?_
  ·refine qi (qm (x1) rfl ?_)
   exact ⟨rfl, rfl, rfl⟩
  refine pD (fun W R z9 => ?_) ?_
  ·rw [zA 5 (z9 5 rfl)]
   refine qi (qt 0 qf qq rfl rfl rfl hr1.slv (by omega) (Nat.mul_one _) ?_)
   exact ⟨rfl, rfl, rfl⟩
  refine pD (fun W R z9 => ?_) ?_
  ·rw [zA 6 (z9 6 rfl)]
   refine qi (qj qP rfl (hr1.rd (by omega)) ?_)
   exact ⟨rfl, rfl, rfl⟩
  refine pD (fun W R z9 => ?_) ?_
  ·rw [eS (l := [(3, _), (4, _), (7, _)]) ⟨z9 3 rfl, z9 4 rfl, z9 7 rfl, ⟨⟩⟩]
   refine qi (qn (args := [.agg #[arv, rsv], tv, ii ((((placesL ar rs t st).getD 0 0).toNat : Nat) : Int)]) call338 (by rw [show ((((placesL ar rs t st).getD 0 0).toNat : Nat) : Int) = (placesL ar rs t st).getD 0 0 from by omega]; rfl) (l8Redex_spec (p := ((placesL ar rs t st).getD 0 0).toNat) har hrs ht (hsys := (by first | assumption | rfl | omega | simp)) (ho := (by first | assumption | rfl | omega | simp)) (hp := (by first | assumption | rfl | omega | simp))) ?_)
   rintro _ _ _ _ ⟨rfl, rfl, rfl⟩
   exact ⟨rfl, rfl, rfl⟩
  exact stepsP.nil
 intro W hphi
 rw [zB 2 8 (hphi 2 (by decide)) (hphi 8 (by decide))]
 show XL _ _ _ _ _ _ _ (cellsH b1 [arv, rsv] 39 :: L)
 refine qh (ii ((placesL ar rs t st).getD 0 0)) rfl (qh (ii (ruleAtL ar rs t (((placesL ar rs t st).getD 0 0).toNat))) rfl (qh (.bool (true)) rfl (qc (qw (qr (L' := L) [ii ((placesL ar rs t st).getD 0 0), ii (ruleAtL ar rs t (((placesL ar rs t st).getD 0 0).toNat)), .bool (true)] (.tuple #[ii ((placesL ar rs t st).getD 0 0), ii (ruleAtL ar rs t (((placesL ar rs t st).getD 0 0).toNat)), .bool (true)]) (.tmp rfl (.tmp rfl (.tmp rfl .nil))) rfl rF le1 (sD sR) ?_)))))
 refine ⟨?_, rfl, rfl⟩
 have hz : pickB ar rs t st = true := pickB_iff.2 ⟨hri.1, hri.2, hne⟩
 rw [pickAt, pickRule, hz, if_pos rfl, if_pos rfl, hpp]

/- spec.l2Filled -/
theorem l2Filled_spec {F : FH} {L : List HP} {sv : Value} {s : List (List Int)} (hs : RowsF F sv s) {tv : Value} {t : List Int} (ht : IntsF F tv t) (hsl : s.length ≤ 4000000) (hsb : ∀ i, (s.getD i []).length ≤ 4000000) (htl : t.length ≤ 4000000) (htg : ∀ k, k < t.length → -4000000 ≤ t.getD k 0) :
    Does prog 154 [.agg #[sv], tv] F (L) (fun v F' L' => ∃ (a : Value), (.tuple #[a, .bool ((fillL s t).isSome)] : Value) = v ∧ (IntsF F' a ((fillL s t).getD [])) ∧ L = L') := by
 refine qG func154 rfl rfl rfl (qd (qb (cX (jb [sv] rfl rfl ?_))))
 intro b1
 refine qh (sN) rfl (qh (.bool (false)) rfl (qc (qd (qb (cX (qs (s := 1) [] [ii (0)] [] qf qq qL rfl (by decide) rfl CellsAre.nil rfl ?_))))))
 intro v1 hv1
 refine qh (v1) rfl (qc (qd (qd (qb (qh (ii (0)) rfl (qc (qH (jn (α := Nat × Value × List Int) (fun xQ => [(1, tv), (2, ptr b1 0), (6, xQ.2.1), (7, ii (((xQ.1 : Nat) : Int)))]) (fun xQ => intsH 2 xQ.2.1 xQ.2.2 :: cellsH b1 [sv] 137 :: L) (fun xQ F' => F = F' ∧ (IsSl xQ.2.1) ∧ (xQ.1 ≤ t.length) ∧ (fillL s t = fillGo s (t.drop xQ.1) xQ.2.2) ∧ (xQ.2.2.length ≤ 60)) (fun xQ => t.length - xQ.1) (0, v1, []) ⟨rfl, rfl, rfl, rfl, ⟨⟩⟩ (sC (sC sR)) ⟨rfl, ((jo hv1)), (by (try dsimp only) <;> omega), (rfl), (by simp)⟩ ?_))))))))
 rintro ⟨k, ov, os⟩ rE _ _ ⟨rfl, hov, hk, hm, hol⟩
 show X _ _ _ _ (envs [(1, tv), (2, ptr b1 0), (6, ov), (7, ii ((k : Int)))] rE) _ (intsH 2 ov os :: cellsH b1 [sv] 137 :: L)
 dsimp only at hov hk hm hol
 have htk := htg k
 have hlk0 := lk_bound (N := 4000000) (by omega) hsb (-1 - (((-1 - t.getD k 0).toNat : Nat) : Int))
 refine qd (qd (qb (qg (ii ((k : Int))) rfl (qg (tv) rfl (cX (qE qf rfl ht.slv (cX (qQ rfl rfl (qc ?_)))))))))
 refine qC (p := (k : Int) < (t.length : Int)) rfl (fun h1 => ?_) (fun h1 => ?_)
 ·refine qz (qd (qH (qd (qd (qb (qg (tv) rfl (qg (ii ((k : Int))) rfl (cX (qt k qf qq rfl rfl rfl ht.slv (by omega) (Nat.mul_one _) (cX (qj qP rfl (ht.rd (by omega)) (cX (qQ rfl rfl (qc ?_))))))))))))))
  refine qC (p := (t.getD k 0 : Int) < 0) rfl (fun h2 => ?_) (fun h2 => ?_)
  ·refine jM [intsH 2 ov os, cellsH b1 [sv] 137] L 8 [] [[], [], [], [], [2, 3], [4], [5], [1, 6]] [] (phiG [pe ov, pe (.agg #[sv]), pe tv, pe (ii ((k : Int)) : Value), pe (.pointer (some (elemA tv (k)))), pe (ii (t.getD k 0)), pe (ii ((-1) - (t.getD k 0))), fun FF us v => ((v) : Value) = v ∧ (IntsF FF (v) (lk s (-1 - ((((-1) - (t.getD k 0)).toNat) : Int))))]) (ownL []) mixed rfl rfl (by kernel_rfl) (by kernel_rfl) (MonoG.get (m1 (m1 (m1 (m1 (m1 (m1 (m1 (mC (fun le h => ⟨h.1, h.2.mono le⟩) MonoG.nil))))))))) ?_ ?_
   ·refine gD (fun W Fs R lF z9 => ?_) ?_
    ·refine qi (qm (ov) rfl ?_)
     exact ⟨rfl, rfl⟩
    refine gD (fun W Fs R lF z9 => ?_) ?_
    ·replace hs := hs.mono lF
     replace ht := ht.mono lF
     refine qi (qu [sv] jQ jp rfl rfl (Rd.ownN [_] rfl rfl) ?_)
     exact ⟨rfl, rfl⟩
    refine gD (fun W Fs R lF z9 => ?_) ?_
    ·refine qi (qm (tv) rfl ?_)
     exact ⟨rfl, rfl⟩
    refine gD (fun W Fs R lF z9 => ?_) ?_
    ·refine qi (qm (ii ((k : Int))) rfl ?_)
     exact ⟨rfl, rfl⟩
    refine gD (fun W Fs R lF z9 => ?_) ?_
    ·replace hs := hs.mono lF
     replace ht := ht.mono lF
     rw [zB 2 3 (z9 2 rfl) (z9 3 rfl)]
     refine qi (qt k qf qq rfl rfl rfl ht.slv (by omega) (Nat.mul_one _) ?_)
     exact ⟨rfl, rfl⟩
    refine gD (fun W Fs R lF z9 => ?_) ?_
    ·replace hs := hs.mono lF
     replace ht := ht.mono lF
     rw [zA 4 (z9 4 rfl)]
     refine qi (qj qP rfl (ht.rd (by omega)) ?_)
     exact ⟨rfl, rfl⟩
    refine gD (fun W Fs R lF z9 => ?_) ?_
    ·rw [zA 5 (z9 5 rfl)]
     refine qi (je ((-1) - (t.getD k 0)) rfl rfl (by omega) (by omega) ?_)
     exact ⟨rfl, rfl⟩
    refine gD (fun W Fs R lF z9 => ?_) ?_
    ·replace hs := hs.mono lF
     replace ht := ht.mono lF
     rw [zB 1 6 (z9 1 rfl) (z9 6 rfl)]
     refine qi (jD <| qn (args := [.agg #[sv], ii ((((-1) - (t.getD k 0)).toNat : Nat) : Int)]) call184 (by rw [show ((((-1) - (t.getD k 0)).toNat : Nat) : Int) = (-1) - (t.getD k 0) from by omega]; rfl) (l2Gives_spec (i := ((-1) - (t.getD k 0)).toNat) hs (hsl := (by first | assumption | rfl | omega | simp)) (hi := (by first | assumption | rfl | omega | simp)) (hsb := (hsb _))) ?_)
     rintro v3 _ _ _ ⟨rfl, hs2, rfl⟩
     refine ⟨_, _, rfl, fun F1 le1 hz1 => ?_⟩
     replace ht := ht.mono le1
     have hf1 : IntsF F1 v3 ((lk s (-1 - ((((-1) - (t.getD k 0)).toNat) : Int)))) := intsH.fz (xs := (lk s (-1 - ((((-1) - (t.getD k 0)).toNat) : Int)))) hz1.fz
     exact ⟨⟨rfl, hf1⟩, rfl⟩
    exact stepsG.nil
   intro W F2 le2 hphi
   obtain ⟨e7, f7_1ha⟩ := hphi 7 (by decide)
   generalize hu1 : ((W 7)) = u1 at e7 f7_1ha
   rw [eS (l := [(0, _), (7, u1)]) ⟨(hphi 0 (by decide)), hu1, ⟨⟩⟩]
   replace ht := ht.mono le2
   show XL _ _ _ _ _ _ _ (intsH 2 ov os :: cellsH b1 [sv] 137 :: L)
   refine cX (yd [] _ qf typeInfo2 rfl rfl rfl rfl rfl rfl f7_1ha (by (try simp only [List.length_append, List.length_nil, List.length_cons, List.length_singleton, List.length_take, List.length_drop]); omega) ?_)
   intro v4 hs3 hn1 hm1
   refine qh (v4) rfl (qc (qd (qb (qg (v4) rfl (cX (qE qf rfl (intsH.slv [] rfl) (cX (jG rfl rfl (qc ?_)))))))))
   refine qC (p := ((((os ++ ((lk s (-1 - ((((-1) - (t.getD k 0)).toNat) : Int))))).length : Nat) : Int) : Int) > 60) rfl (fun h3 => ?_) (fun h3 => ?_)
   ·refine qd (qb (cX (qs (s := 1) [] [ii (0)] [] qf qq qL rfl (by decide) rfl CellsAre.nil rfl ?_)))
    intro v5 hv2
    refine qh (v5) rfl (qh (.bool (false)) rfl (qc ?_))
    show X _ _ _ _ _ _ (intsH 2 v5 ([] : List Int) :: intsH 2 v4 (os ++ ((lk s (-1 - ((((-1) - (t.getD k 0)).toNat) : Int))))) :: cellsH b1 [sv] 137 :: L)
    refine qY [] _ _ rfl (fun F3 le3 hz2 => ?_)
    replace ht := ht.mono le3
    have hf2 : IntsF F3 v5 ([]) := intsH.fz (xs := []) hz2.fz
    refine qw (qD (ql (ql (qD (ql (qr (L' := L) [v5, .bool (false)] (.tuple #[v5, .bool (false)]) (.tmp rfl (.tmp rfl .nil)) rfl (qa le2 le3) rF (sD (sD sR)) ?_))))))
    have hz : fillL s t = none := hm.trans (fillGo_long (a := os ++ ((lk s (-1 - ((((-1) - (t.getD k 0)).toNat) : Int))))) (by omega) (by rw [show (-1 - (((-1 - t.getD k 0).toNat : Nat) : Int)) = t.getD k 0 from by omega]) (by omega))
    exact ⟨_, by rw [hz]; rfl, by rw [hz]; exact hf2, rfl⟩
   refine qz (qb (qg (ii ((k : Int))) rfl (cX (qK (((k + 1 : Nat) : Int)) rfl rfl (by omega) (by omega) (qh (ii (((k + 1 : Nat) : Int))) rfl (qc ?_))))))
   exact ⟨(k + 1, v4, os ++ ((lk s (-1 - ((((-1) - (t.getD k 0)).toNat) : Int))))), _, FLe.refl _, le2, ⟨rfl, rfl, rfl, rfl, ⟨⟩⟩, (sC (sC sR)), ⟨rfl, (hs3), (by (try dsimp only) <;> omega), (by dsimp only; exact hm.trans (fillGo_next (by omega) (by rw [show (-1 - (((-1 - t.getD k 0).toNat : Nat) : Int)) = t.getD k 0 from by omega]) (by omega))), (by dsimp only; omega)⟩, (by omega)⟩
  refine qb (qg (ov) rfl (qg (tv) rfl (qg (ii ((k : Int))) rfl (cX (qt k qf qq rfl rfl rfl ht.slv (by omega) (Nat.mul_one _) (cX (qj qP rfl (ht.rd (by omega)) (cX (qs (s := 1) [ii (t.getD k 0)] [ii (0)] [(0, [ii (t.getD k 0)])] qf qq qL rfl (by decide) rfl (.cons rfl CellsAre.nil) rfl ?_)))))))))
  intro v6 hv3
  refine cX (jX (u := t.getD k 0) [_] _ qf typeInfo2 rfl rfl rfl rfl rfl rfl (SlV.own [] rfl) (Rd.sl [] rfl rfl) (by (try simp only [List.length_append, List.length_nil, List.length_cons, List.length_singleton, List.length_take, List.length_drop]); omega) ?_)
  intro v7 hs4 hn2
  refine qh (v7) rfl (qc (qd (qb (qg (v7) rfl (cX (qE qf rfl (intsH.slv [_] rfl) (cX (jG rfl rfl (qc ?_)))))))))
  refine qC (p := ((((os ++ [t.getD k 0]).length : Nat) : Int) : Int) > 60) rfl (fun h4 => ?_) (fun h4 => ?_)
  ·refine qd (qb (cX (qs (s := 1) [] [ii (0)] [] qf qq qL rfl (by decide) rfl CellsAre.nil rfl ?_)))
   intro v8 hv4
   refine qh (v8) rfl (qh (.bool (false)) rfl (qc ?_))
   show X _ _ _ _ _ _ (intsH 2 v8 ([] : List Int) :: slH 2 1 v6 1 [ii (t.getD k 0)] :: intsH 2 v7 (os ++ [t.getD k 0]) :: cellsH b1 [sv] 137 :: L)
   refine qY [] _ _ rfl (fun F4 le4 hz3 => ?_)
   have hf3 : IntsF F4 v8 ([]) := intsH.fz (xs := []) hz3.fz
   refine qw (qD (ql (ql (qD (ql (qr (L' := L) [v8, .bool (false)] (.tuple #[v8, .bool (false)]) (.tmp rfl (.tmp rfl .nil)) rfl le4 rF (sD (sD (sD sR))) ?_))))))
   have hz : fillL s t = none := hm.trans (fillGo_long (a := os ++ [t.getD k 0]) (by omega) (by rw [lk_sym (by omega)]) (by omega))
   exact ⟨_, by rw [hz]; rfl, by rw [hz]; exact hf3, rfl⟩
  refine qz (qb (qg (ii ((k : Int))) rfl (cX (qK (((k + 1 : Nat) : Int)) rfl rfl (by omega) (by omega) (qh (ii (((k + 1 : Nat) : Int))) rfl (qc ?_))))))
  exact ⟨(k + 1, v7, os ++ [t.getD k 0]), _, FLe.refl _, rF, ⟨rfl, rfl, rfl, rfl, ⟨⟩⟩, (sD (sC (sC sR))), ⟨rfl, (hs4), (by (try dsimp only) <;> omega), (by dsimp only; exact hm.trans (fillGo_next (by omega) (by rw [lk_sym (by omega)]) (by omega))), (by dsimp only; omega)⟩, (by omega)⟩
 refine jg (qv (qv (qM (qd (qb (qg (ov) rfl (qh (ov) rfl (qh (.bool (true)) rfl (qc (qY [] _ _ rfl (fun F5 le5 hz4 => ?_)))))))))))
 have hf4 : IntsF F5 ov os := intsH.fz (xs := os) hz4.fz
 refine qw (qr (L' := L) [ov, .bool (true)] (.tuple #[ov, .bool (true)]) (.tmp rfl (.tmp rfl .nil)) rfl le5 rF (sD sR) ?_)
 have hz : fillL s t = some os := hm.trans (fillGo_done (by omega))
 exact ⟨_, by rw [hz]; rfl, by rw [hz]; exact hf4, rfl⟩

/- spec.l3Put -/
theorem l3Put_spec {F : FH} {L : List HP} {arv : Value} {ar : List Int} (har : IntsF F arv ar) {tv : Value} {t : List Int} (ht : IntsF F tv t) {p : Nat} {uv : Value} {u : List Int} (hu : IntsF F uv u) (ho : termOk ar t = true) (hp : p < t.length) (hul : u.length ≤ 4000000) :
    Does prog 155 [.agg #[arv], tv, ii ((p : Int)), uv] F (L) (fun v F' L' => ∃ (a : Value), (.tuple #[a, .bool ((putL ar t p u).isSome)] : Value) = v ∧ (IntsF F' a ((putL ar t p u).getD [])) ∧ L = L') := by
 refine qG func155 rfl rfl rfl ?_
 have hsig := termOk_sig ho
 have hsl := sigOk_spec hsig
 have htl := termOk_len ho
 have hee := endN_spec ho hp
 refine qd (qb (cX (jb [arv] rfl rfl ?_)))
 intro b1
 refine qh (sN) rfl (qh (.bool (false)) rfl (qc (qd (qb (qg (tv) rfl (qg (ii ((p : Int))) rfl (cX (jV 0 p qf qq rfl ht rfl ⟨_, rfl⟩ (by omega) (by omega) ?_))))))))
 intro v1 hv1 hn1
 refine cX (qn (args := [v1]) call105 rfl (l1Copy_spec hv1 (hlt := (by simp; omega))) ?_)
 rintro v2 _ _ _ ⟨rfl, hs1, rfl⟩
 refine qg (uv) rfl (cX (yd [] _ qf typeInfo2 rfl rfl rfl rfl rfl rfl hu (by (try simp only [List.length_append, List.length_nil, List.length_cons, List.length_singleton, List.length_take, List.length_drop]); omega) ?_))
 intro v3 hs2 hn2 hm1
 refine qh (v3) rfl (qc (qd (qb (qg (v3) rfl (qg (tv) rfl (cX (qu [arv] jf qJ rfl rfl (Rd.ownN [_] rfl rfl) (qg (tv) rfl (qg (ii ((p : Int))) rfl (cX (qn (args := [.agg #[arv], tv, ii (p : Int)]) call208 rfl (l1End_ok (p := p) har ht (ho := (by first | assumption | rfl | omega | (left; simp; done) | (right; simp; done))) (hp := (by first | assumption | rfl | omega | (left; simp; done) | (right; simp; done)))) ?_)))))))))))
 rintro _ _ _ _ ⟨rfl, rfl, rfl⟩
 refine cX (jV (endN ar t p) ((t).length) qf qq rfl ht ⟨_, rfl⟩ rfl (by omega) (by omega) ?_)
 intro v4 hv2 hn3
 refine cX (yd [] _ qf typeInfo2 rfl rfl rfl rfl rfl rfl hv2 (by (try simp only [List.length_append, List.length_nil, List.length_cons, List.length_singleton, List.length_take, List.length_drop]); omega) ?_)
 intro v5 hs3 hn4 hm2
 refine qh (v5) rfl (qc (qd (qd (qb (qg (v5) rfl (cX (qE qf rfl (intsH.slv [] rfl) (cX (jG rfl rfl (qc ?_))))))))))
 refine qC (p := ((((((((((t.drop 0).take (p - 0))))) ++ u) ++ (((t.drop (endN ar t p)).take (((t).length) - (endN ar t p))))).length : Nat) : Int) : Int) > 60) rfl (fun h1 => ?_) (fun h1 => ?_)
 ·refine qd (qb (cX (qs (s := 1) [] [ii (0)] [] qf qq qL rfl (by decide) rfl CellsAre.nil rfl ?_)))
  intro v6 hv3
  refine qh (v6) rfl (qh (.bool (false)) rfl (qc ?_))
  show X _ _ _ _ _ _ (intsH 2 v6 ([] : List Int) :: intsH 2 v5 (((((((t.drop 0).take (p - 0))))) ++ u) ++ (((t.drop (endN ar t p)).take (((t).length) - (endN ar t p))))) :: cellsH b1 [arv] 36 :: L)
  refine qY [] _ _ rfl (fun F1 le1 hz1 => ?_)
  have hf1 : IntsF F1 v6 ([]) := intsH.fz (xs := []) hz1.fz
  refine qw (ql (qr (L' := L) [v6, .bool (false)] (.tuple #[v6, .bool (false)]) (.tmp rfl (.tmp rfl .nil)) rfl le1 rF (sD (sD sR)) ?_))
  have hz : putL ar t p u = none := putL_none put_three (by omega)
  exact ⟨_, by rw [hz]; rfl, by rw [hz]; exact hf1, rfl⟩
 refine qz (qd (qb (qg (v5) rfl (qh (v5) rfl (qh (.bool (true)) rfl (qc (qY [] _ _ rfl (fun F2 le2 hz2 => ?_))))))))
 have hf2 : IntsF F2 v5 (((((((t.drop 0).take (p - 0))))) ++ u) ++ (((t.drop (endN ar t p)).take (((t).length) - (endN ar t p))))) := intsH.fz (xs := ((((((t.drop 0).take (p - 0))))) ++ u) ++ (((t.drop (endN ar t p)).take (((t).length) - (endN ar t p))))) hz2.fz
 refine qw (qr (L' := L) [v5, .bool (true)] (.tuple #[v5, .bool (true)]) (.tmp rfl (.tmp rfl .nil)) rfl le2 rF (sD sR) ?_)
 have hz := putL_some (ar := ar) (t := t) (p := p) (u := u) put_three (by omega)
 exact ⟨_, by rw [hz]; rfl, by rw [hz]; exact hf2, rfl⟩

/- spec.l7Step -/
theorem l7Step_spec {F : FH} {L : List HP} {arv : Value} {ar : List Int} (har : IntsF F arv ar) {rsv : Value} {rs : List (List Int × List Int)} (hrs : PairsF F rsv rs) {tv : Value} {t : List Int} (ht : IntsF F tv t) {p : Nat} {r : Nat} (hsys : sysOk ar rs = true) (ho : termOk ar t = true) (hp : p < t.length) (hr : r < rs.length) :
    Does prog 110 [.agg #[arv, rsv], tv, ii ((p : Int)), ii ((r : Int))] F (L) (fun v F' L' => ∃ (a : Value), (.tuple #[a, .bool ((stepL ar rs t p r).isSome)] : Value) = v ∧ (IntsF F' a ((stepL ar rs t p r).getD [])) ∧ L = L') := by
 refine qG func110 rfl rfl rfl ?_
 have hnn := notNil_of_pos ht (by have := termOk_len ho; omega)
 have htl := termOk_len ho
 have hrl := (sysOk_iff.1 hsys).2.1
 have hsig := (sysOk_iff.1 hsys).1
 have hsl := sigOk_spec hsig
 have hR := ruleOk_iff.1 ((sysOk_iff.1 hsys).2.2 r hr)
 have hRl := hR.left
 have hRr := hR.right
 have hso := sub_ok ho hp
 have hsb := sub_length ho hp
 have hee := endN_spec ho hp
 have hRrl := termOk_len hRr
 have hRg := fun k (hk : k < (rs.getD r ([], [])).2.length) => termOk_ge hRr hk
 have hmp := matchP_len (ar := ar) (p := (rs.getD r ([], [])).1) (t := sub ar t p)
 have hmp2 := hmp.2
 have hmp3 := hmp.1
 refine qd (qb (cX (jb [arv, rsv] rfl rfl ?_)))
 intro b1
 refine qh (sN) rfl (qh (.bool (false)) rfl (qc (qd (qb (cX (qk (1) js rfl sizeOf37 (by decide) rfl rfl (cX (qj isAgg37 rfl (Rd.own [] rfl rfl) (qg (ii ((r : Int))) rfl (cX (qt r jZ sizeOf76 rfl rfl rfl hrs.slv (by omega) rfl ?_)))))))))))
 obtain ⟨a1, a2, ha1, ha2, hr1, hr2⟩ := hrs.rd (i := r) (by omega)
 refine cX (qu [a1, a2] isAgg76 sizeOf76 rfl rfl (Rd.two (hr1 _) (hr2 _)) (cX (jr [sN, sN] zeroValue76 rfl ?_)))
 intro b2
 refine cX (qV [] _ [a1, a2] sizeOf76 rfl rfl rfl (qx (qI (qB ha1)) (qx (qI (qB ha2)) qX)) rfl rfl rfl (qc (qd ?_)))
 refine jM [cellsH b2 [a1, a2] 76, cellsH b1 [arv, rsv] 39] L 15 [[], [], [], [], [], [], [], [], [], [], [9], [9], [], [], [9, 13]] [[], [0], [], [2], [], [4], [], [], [5, 6, 7], [1, 3, 8], [9], [9, 10], [9, 10], [], [9, 11, 13]] [[], [], [], [], [], [], [], [], [], [], [], [], [], [], [13]] (phiG [pe (ptr b1 0), pe (.agg #[arv]), pe (ptr b2 0), pe a1, pe (ptr b1 0), pe (.agg #[arv]), pe tv, pe (ii ((p : Int)) : Value), fun FF us v => ((v) : Value) = v ∧ (IntsF FF (v) (sub ar t p)), fun FF us v => (.tuple #[.agg #[((aggAt (tupAt v 0) 0))], .bool ((matchB ar ((rs.getD r ([], [])).1) ((sub ar t p))).isSome)] : Value) = v ∧ (RowsF FF ((aggAt (tupAt v 0) 0)) (matchP ar ((rs.getD r ([], [])).1) ((sub ar t p)))), fun FF us v => v = (.tuple #[.agg #[((aggAt (tupAt (us.getD 0 undef) 0) 0))], .bool ((matchB ar ((rs.getD r ([], [])).1) ((sub ar t p))).isSome)] : Value), fun FF us v => v = (.agg #[((aggAt (tupAt (us.getD 0 undef) 0) 0))] : Value), pe (.bool ((matchB ar ((rs.getD r ([], [])).1) ((sub ar t p))).isSome)), fun FF us v => v = ptr (blk v) 0, fun FF us v => True]) (ownL [o0, o0, o0, o0, o0, o0, o0, o0, o0, o0, o0, o0, o0, fun us v => [cellsH (blk v) [sN] 137], fun us v => [cellsH (blk (us.getD 1 undef)) [((aggAt (tupAt (us.getD 0 undef) 0) 0))] 137]]) mixed rfl rfl (by kernel_rfl) (by kernel_rfl) (MonoG.get (m1 (m1 (m1 (m1 (m1 (m1 (m1 (m1 (mC (fun le h => ⟨h.1, h.2.mono le⟩) (mC (fun le h => ⟨h.1, h.2.mono le⟩) (mC (fun le h => h) (mC (fun le h => h) (m1 (mC (fun le h => h) (mC (fun le h => h) MonoG.nil)))))))))))))))) ?_ ?_
 ·refine gD (fun W Fs R lF z9 => ?_) ?_
  ·refine qi (qk (0) js rfl qJ (by decide) rfl rfl ?_)
   exact ⟨rfl, rfl⟩
  refine gD (fun W Fs R lF z9 => ?_) ?_
  ·replace har := har.mono lF
   replace ht := ht.mono lF
   replace ha1 := ha1.mono lF
   replace ha2 := ha2.mono lF
   rw [zA 0 (z9 0 rfl)]
   refine qi (qu [arv] jf qJ rfl rfl (Rd.ownN [_] rfl rfl) ?_)
   exact ⟨rfl, rfl⟩
  refine gD (fun W Fs R lF z9 => ?_) ?_
  ·refine qi (qk (0) jy rfl qA (by decide) rfl rfl ?_)
   exact ⟨rfl, rfl⟩
  refine gD (fun W Fs R lF z9 => ?_) ?_
  ·replace har := har.mono lF
   replace ht := ht.mono lF
   replace ha1 := ha1.mono lF
   replace ha2 := ha2.mono lF
   rw [zA 2 (z9 2 rfl)]
   refine qi (qj qU rfl (Rd.own [] rfl rfl) ?_)
   exact ⟨rfl, rfl⟩
  refine gD (fun W Fs R lF z9 => ?_) ?_
  ·refine qi (qk (0) js rfl qJ (by decide) rfl rfl ?_)
   exact ⟨rfl, rfl⟩
  refine gD (fun W Fs R lF z9 => ?_) ?_
  ·replace har := har.mono lF
   replace ht := ht.mono lF
   replace ha1 := ha1.mono lF
   replace ha2 := ha2.mono lF
   rw [zA 4 (z9 4 rfl)]
   refine qi (qu [arv] jf qJ rfl rfl (Rd.ownN [_] rfl rfl) ?_)
   exact ⟨rfl, rfl⟩
  refine gD (fun W Fs R lF z9 => ?_) ?_
  ·refine qi (qm (tv) rfl ?_)
   exact ⟨rfl, rfl⟩
  refine gD (fun W Fs R lF z9 => ?_) ?_
  ·refine qi (qm (ii ((p : Int))) rfl ?_)
   exact ⟨rfl, rfl⟩
  refine gD (fun W Fs R lF z9 => ?_) ?_
  ·replace har := har.mono lF
   replace ht := ht.mono lF
   replace ha1 := ha1.mono lF
   replace ha2 := ha2.mono lF
   rw [eS (l := [(5, _), (6, _), (7, _)]) ⟨z9 5 rfl, z9 6 rfl, z9 7 rfl, ⟨⟩⟩]
   refine qi (jD <| qn (args := [.agg #[arv], tv, ii (p : Int)]) call150 rfl (l1Sub_spec (p := p) har ht (ho := (by first | assumption | rfl | omega | simp)) (hp := (by first | assumption | rfl | omega | simp))) ?_)
   rintro v2 _ _ _ ⟨rfl, hs2, rfl⟩
   refine ⟨_, _, rfl, fun F2 le2 hz1 => ?_⟩
   replace har := har.mono le2
   replace ht := ht.mono le2
   replace ha1 := ha1.mono le2
   replace ha2 := ha2.mono le2
   have hf1 : IntsF F2 v2 ((sub ar t p)) := intsH.fz (xs := (sub ar t p)) hz1.fz
   exact ⟨⟨rfl, hf1⟩, rfl⟩
  refine gD (fun W Fs R lF z9 => ?_) ?_
  ·obtain ⟨e8, f8_1ha⟩ := z9 8 rfl
   replace har := har.mono lF
   replace ht := ht.mono lF
   replace ha1 := ha1.mono lF
   replace ha2 := ha2.mono lF
   rw [eS (l := [(1, _), (3, _), (8, ((W 8)))]) ⟨z9 1 rfl, z9 3 rfl, (e8).symm, ⟨⟩⟩]
   refine qi (qn (args := [.agg #[arv], a1, ((W 8))]) call216 rfl (l4Match_spec har ha1 f8_1ha (ho := (by first | assumption | rfl | omega | simp)) (hpo := (by first | assumption | rfl | omega | simp))) ?_)
   rintro _ F3 _ le3 ⟨x2, rfl, hr4, rfl⟩
   replace har := har.mono le3
   replace ht := ht.mono le3
   replace ha2 := ha2.mono le3
   replace f8_1ha := f8_1ha.mono le3
   exact ⟨⟨rfl, hr4⟩, rfl⟩
  refine gD (fun W Fs R lF z9 => ?_) ?_
  ·obtain ⟨e9, f9_1hr⟩ := z9 9 rfl
   rw [eS (l := [(9, (.tuple #[.agg #[((aggAt (tupAt (W 9) 0) 0))], .bool ((matchB ar ((rs.getD r ([], [])).1) ((sub ar t p))).isSome)]))]) ⟨(e9).symm, ⟨⟩⟩]
   refine qi (qm (.tuple #[.agg #[((aggAt (tupAt (W 9) 0) 0))], .bool ((matchB ar ((rs.getD r ([], [])).1) ((sub ar t p))).isSome)]) rfl ?_)
   exact ⟨rfl, rfl⟩
  refine gD (fun W Fs R lF z9 => ?_) ?_
  ·obtain ⟨e9, f9_1hr⟩ := z9 9 rfl
   have e10 : W 10 = (.tuple #[.agg #[((aggAt (tupAt (W 9) 0) 0))], .bool ((matchB ar ((rs.getD r ([], [])).1) ((sub ar t p))).isSome)] : Value) := z9 10 rfl
   rw [eS (l := [(9, (.tuple #[.agg #[((aggAt (tupAt (W 9) 0) 0))], .bool ((matchB ar ((rs.getD r ([], [])).1) ((sub ar t p))).isSome)])), (10, (.tuple #[.agg #[((aggAt (tupAt (W 9) 0) 0))], .bool ((matchB ar ((rs.getD r ([], [])).1) ((sub ar t p))).isSome)]))]) ⟨(e9).symm, e10, ⟨⟩⟩]
   refine qi (jd (.agg #[((aggAt (tupAt (W 9) 0) 0))]) rfl rfl ?_)
   exact ⟨rfl, rfl⟩
  refine gD (fun W Fs R lF z9 => ?_) ?_
  ·obtain ⟨e9, f9_1hr⟩ := z9 9 rfl
   have e10 : W 10 = (.tuple #[.agg #[((aggAt (tupAt (W 9) 0) 0))], .bool ((matchB ar ((rs.getD r ([], [])).1) ((sub ar t p))).isSome)] : Value) := z9 10 rfl
   rw [eS (l := [(9, (.tuple #[.agg #[((aggAt (tupAt (W 9) 0) 0))], .bool ((matchB ar ((rs.getD r ([], [])).1) ((sub ar t p))).isSome)])), (10, (.tuple #[.agg #[((aggAt (tupAt (W 9) 0) 0))], .bool ((matchB ar ((rs.getD r ([], [])).1) ((sub ar t p))).isSome)]))]) ⟨(e9).symm, e10, ⟨⟩⟩]
   refine qi (jd (.bool ((matchB ar ((rs.getD r ([], [])).1) ((sub ar t p))).isSome)) rfl rfl ?_)
   exact ⟨rfl, rfl⟩
  refine gD (fun W Fs R lF z9 => ?_) ?_
  ·replace har := har.mono lF
   replace ht := ht.mono lF
   replace ha2 := ha2.mono lF
   refine qi (jr [sN] jB rfl ?_)
   intro b4
   exact ⟨rfl, rfl⟩
  refine gD (fun W Fs R lF z9 => ?_) ?_
  ·obtain ⟨e9, f9_1hr⟩ := z9 9 rfl
   have e11 : W 11 = (.agg #[((aggAt (tupAt (W 9) 0) 0))] : Value) := z9 11 rfl
   have e13 : W 13 = ptr (blk (W 13)) 0 := z9 13 rfl
   replace har := har.mono lF
   replace ht := ht.mono lF
   replace ha2 := ha2.mono lF
   rw [eS (l := [(9, (.tuple #[.agg #[((aggAt (tupAt (W 9) 0) 0))], .bool ((matchB ar ((rs.getD r ([], [])).1) ((sub ar t p))).isSome)])), (11, (.agg #[((aggAt (tupAt (W 9) 0) 0))])), (13, ptr (blk (W 13)) 0)]) ⟨(e9).symm, e11, e13, ⟨⟩⟩]
   show XG _ _ _ _ _ (cellsH (blk (W 13)) [sN] 137 :: ([cellsH b2 [a1, a2] 76, cellsH b1 [arv, rsv] 39] ++ R)) _
   refine qi (qV [] _ [((aggAt (tupAt (W 9) 0) 0))] jp rfl rfl rfl (qx (qI (RowsF.isSl f9_1hr)) qX) rfl rfl rfl ?_)
   exact ⟨trivial, rfl⟩
  exact stepsG.nil
 intro W F4 le4 hphi
 obtain ⟨e8, f8_1ha⟩ := hphi 8 (by decide)
 obtain ⟨e9, f9_1hr⟩ := hphi 9 (by decide)
 have e10 : W 10 = (.tuple #[.agg #[((aggAt (tupAt (W 9) 0) 0))], .bool ((matchB ar ((rs.getD r ([], [])).1) ((sub ar t p))).isSome)] : Value) := hphi 10 (by decide)
 have e11 : W 11 = (.agg #[((aggAt (tupAt (W 9) 0) 0))] : Value) := hphi 11 (by decide)
 have e13 : W 13 = ptr (blk (W 13)) 0 := hphi 13 (by decide)
 generalize hu1 : ((W 8)) = u1 at e8 f8_1ha e9 f9_1hr e10 e11 e13
 generalize hu2 : ((aggAt (tupAt (W 9) 0) 0)) = u2 at e8 f8_1ha e9 f9_1hr e10 e11 e13
 generalize hu3 : blk (W 13) = b5 at e8 f8_1ha e9 f9_1hr e10 e11 e13
 rw [eS (l := [(9, (.tuple #[.agg #[u2], .bool ((matchB ar ((rs.getD r ([], [])).1) ((sub ar t p))).isSome)])), (12, _), (13, ptr b5 0)]) ⟨(e9).symm, (hphi 12 (by decide)), e13, ⟨⟩⟩]
 replace har := har.mono le4
 replace ht := ht.mono le4
 replace ha2 := ha2.mono le4
 show XL _ _ _ _ _ _ _ (cellsH b5 [u2] 137 :: cellsH b2 [a1, a2] 76 :: cellsH b1 [arv, rsv] 39 :: L)
 refine qh (.bool ((matchB ar ((rs.getD r ([], [])).1) ((sub ar t p))).isSome)) rfl (qc (qd (qd (qb (qg (.bool ((matchB ar ((rs.getD r ([], [])).1) ((sub ar t p))).isSome)) rfl (cX (jt rfl (qc ?_))))))))
 refine jF (t := !((matchB ar ((rs.getD r ([], [])).1) ((sub ar t p))).isSome)) rfl (fun h1 => ?_) (fun h1 => ?_)
 ·have hms : (matchB ar (rs.getD r ([], [])).1 (sub ar t p)).isSome = false := by simpa using h1
  refine qd (qb (cX (qs (s := 1) [] [ii (0)] [] qf qq qL rfl (by decide) rfl CellsAre.nil rfl ?_)))
  intro v3 hv1
  refine qh (v3) rfl (qh (.bool (false)) rfl (qc ?_))
  show X _ _ _ _ _ _ (intsH 2 v3 ([] : List Int) :: cellsH b5 [u2] 137 :: cellsH b2 [a1, a2] 76 :: cellsH b1 [arv, rsv] 39 :: L)
  refine qY [] _ _ rfl (fun F5 le5 hz2 => ?_)
  replace har := har.mono le5
  replace ht := ht.mono le5
  replace ha2 := ha2.mono le5
  replace f9_1hr := f9_1hr.mono le5
  have hf2 : IntsF F5 v3 ([]) := intsH.fz (xs := []) hz2.fz
  refine qw (ql (qr (L' := L) [v3, .bool (false)] (.tuple #[v3, .bool (false)]) (.tmp rfl (.tmp rfl .nil)) rfl (qa le4 le5) rF (sD (sD (sD sR))) ?_))
  have hz := stepL_nomatch hms
  exact ⟨_, by rw [hz]; rfl, by rw [hz]; exact hf2, rfl⟩
 have hms : (matchB ar (rs.getD r ([], [])).1 (sub ar t p)).isSome = true := by simpa using h1
 refine qz (qd (qb (cX (qu [u2] jQ jp rfl rfl (Rd.ownN [] rfl rfl) (cX (qk (1) jy rfl qA (by decide) rfl rfl (cX (qj qU rfl (Rd.own [_] rfl rfl) (cX (qn (args := [.agg #[u2], a2]) call154 rfl (l2Filled_spec f9_1hr ha2 (hsl := (by first | assumption | rfl | omega | simp)) (hsb := (fun i => by have := hmp2 i; omega)) (htl := (by first | assumption | rfl | omega | simp)) (htg := (fun k hk => by have := hRg k hk; omega))) ?_))))))))))
 rintro _ F6 _ le6 ⟨x3, rfl, hr5, rfl⟩
 replace har := har.mono le6
 replace ht := ht.mono le6
 refine qg (.tuple #[x3, .bool ((fillL (matchP ar ((rs.getD r ([], [])).1) ((sub ar t p))) ((rs.getD r ([], [])).2)).isSome)]) rfl (cX (jd (x3) rfl rfl (cX (jd (.bool ((fillL (matchP ar ((rs.getD r ([], [])).1) ((sub ar t p))) ((rs.getD r ([], [])).2)).isSome)) rfl rfl (qh (x3) rfl (qh (.bool ((fillL (matchP ar ((rs.getD r ([], [])).1) ((sub ar t p))) ((rs.getD r ([], [])).2)).isSome)) rfl (qc (qd (qd (qb (qg (.bool ((fillL (matchP ar ((rs.getD r ([], [])).1) ((sub ar t p))) ((rs.getD r ([], [])).2)).isSome)) rfl (cX (jt rfl (qc ?_))))))))))))))
 refine jF (t := !((fillL (matchP ar ((rs.getD r ([], [])).1) ((sub ar t p))) ((rs.getD r ([], [])).2)).isSome)) rfl (fun h2 => ?_) (fun h2 => ?_)
 ·have hfs : (fillL (matchP ar (rs.getD r ([], [])).1 (sub ar t p)) (rs.getD r ([], [])).2).isSome = false := by simpa using h2
  refine qd (qb (cX (qs (s := 1) [] [ii (0)] [] qf qq qL rfl (by decide) rfl CellsAre.nil rfl ?_)))
  intro v4 hv2
  refine qh (v4) rfl (qh (.bool (false)) rfl (qc ?_))
  show X _ _ _ _ _ _ (intsH 2 v4 ([] : List Int) :: cellsH b5 [u2] 137 :: cellsH b2 [a1, a2] 76 :: cellsH b1 [arv, rsv] 39 :: L)
  refine qY [] _ _ rfl (fun F7 le7 hz3 => ?_)
  replace har := har.mono le7
  replace ht := ht.mono le7
  replace hr5 := hr5.mono le7
  have hf3 : IntsF F7 v4 ([]) := intsH.fz (xs := []) hz3.fz
  refine qw (ql (qr (L' := L) [v4, .bool (false)] (.tuple #[v4, .bool (false)]) (.tmp rfl (.tmp rfl .nil)) rfl (qa (qa le4 le6) le7) rF (sD (sD (sD sR))) ?_))
  have hz := stepL_nofill hms hfs
  exact ⟨_, by rw [hz]; rfl, by rw [hz]; exact hf3, rfl⟩
 have hfs : (fillL (matchP ar (rs.getD r ([], [])).1 (sub ar t p)) (rs.getD r ([], [])).2).isSome = true := by simpa using h2
 have hfl := fill_getD_len hfs (by omega)
 refine qz (qd (qb (cX (qk (0) js rfl qJ (by decide) rfl rfl (cX (qu [arv] jf qJ rfl rfl (Rd.ownN [_, _] rfl rfl) (qg (tv) rfl (qg (ii ((p : Int))) rfl (qg (x3) rfl (cX (qn (args := [.agg #[arv], tv, ii (p : Int), x3]) call155 rfl (l3Put_spec (p := p) har ht hr5 (ho := (by first | assumption | rfl | omega | simp)) (hp := (by first | assumption | rfl | omega | simp)) (hul := (by first | assumption | rfl | omega | simp))) ?_)))))))))))
 rintro _ F8 _ le8 ⟨x4, rfl, hr6, rfl⟩
 refine cX (jd (x4) rfl rfl (cX (jd (.bool ((putL ar t p ((fillL (matchP ar ((rs.getD r ([], [])).1) ((sub ar t p))) ((rs.getD r ([], [])).2)).getD [])).isSome)) rfl rfl (qh (x4) rfl (qh (.bool ((putL ar t p ((fillL (matchP ar ((rs.getD r ([], [])).1) ((sub ar t p))) ((rs.getD r ([], [])).2)).getD [])).isSome)) rfl (qc (qw (qr (L' := L) [x4, .bool ((putL ar t p ((fillL (matchP ar ((rs.getD r ([], [])).1) ((sub ar t p))) ((rs.getD r ([], [])).2)).getD [])).isSome)] (.tuple #[x4, .bool ((putL ar t p ((fillL (matchP ar ((rs.getD r ([], [])).1) ((sub ar t p))) ((rs.getD r ([], [])).2)).getD [])).isSome)]) (.tmp rfl (.tmp rfl .nil)) rfl (qa (qa le4 le6) le8) rF (sD (sD (sD sR))) ?_))))))))
 have hz := stepL_put hms hfs
 exact ⟨_, by rw [hz], by rw [hz]; exact hr6, rfl⟩

/- spec.l1New -/
theorem l1New_spec {F : FH} {L : List HP} {bsv : Value} {bs : List Int} (hbs : BytesF F bsv bs) (hlb : bs.length ≤ 4000000) :
    Does prog 92 [bsv] F (L) (fun v F' L' => ∃ cb : Nat, (ptr cb 0 : Value) = v ∧ F = F' ∧ curH .i64 247 cb bsv bs.length :: L = L') := by
 refine qG func92 rfl rfl rfl (qd (qb (qh ((.pointer none)) rfl (qc (qd (qb (qg (bsv) rfl (cX (qE runUnderlying60 rfl hbs.slv (cX (qK (((570029 + ((bs).length) : Nat) : Int)) rfl rfl (by omega) (by omega) (qh (ii (((570029 + ((bs).length) : Nat) : Int))) rfl (qc (qd (qd (qb (qh (ii (0)) rfl ?_)))))))))))))))))
 refine qc (qH (jn (α := Nat × Int) (fun xQ => [(0, bsv), (3, ii (xQ.2)), (4, ii (((xQ.1 : Nat) : Int)))]) (fun xQ => L) (fun xQ F' => F = F' ∧ (xQ.1 ≤ bs.length) ∧ (0 ≤ xQ.2 ∧ xQ.2 ≤ 1073741823)) (fun xQ => bs.length - xQ.1) (0, ((570029 + ((bs).length) : Nat) : Int)) ⟨rfl, rfl, rfl, ⟨⟩⟩ sR ⟨rfl, (Nat.zero_le _), (by (try dsimp only) <;> omega)⟩ ?_))
 rintro ⟨k, h⟩ rE _ _ ⟨rfl, hk, hh⟩
 show X _ _ _ _ (envs [(0, bsv), (3, ii (h)), (4, ii ((k : Int)))] rE) _ (L)
 dsimp only at hk hh
 refine qd (qd (qb (qg (ii ((k : Int))) rfl (qg (bsv) rfl (cX (qE runUnderlying60 rfl hbs.slv (cX (qQ rfl rfl (qc ?_)))))))))
 refine qC (p := (k : Int) < (bs.length : Int)) rfl (fun h1 => ?_) (fun h1 => ?_)
 ·have hrg := hbs.range (i := k) (by omega)
  refine qz (qd (qH (qb (qg (ii (h)) rfl (cX (XOp.mulR (h * 317) rfl rfl (by omega) (by omega) (qg (bsv) rfl (qg (ii ((k : Int))) rfl (cX (qt k runUnderlying60 sizeOf5 rfl rfl rfl hbs.slv (by omega) (Nat.mul_one _) (cX (qj isAgg5 rfl (hbs.rd (by omega) _) (cX (XOp.convI (k' := .u8) (a := bs.getD k 0) (bs.getD k 0) runUnderlying5 runUnderlying2 rfl (IntWalk.i64_in _ (by omega)) (cX (qK ((h * 317) + (bs.getD k 0)) rfl rfl (by omega) (by omega) (cX (qK (((h * 317) + (bs.getD k 0)) + 11) rfl rfl (by omega) (by omega) ?_))))))))))))))))))
  refine cX (XOp.andW (a := ((h * 317) + (bs.getD k 0)) + 11) (b := 1073741823) rfl rfl rfl (by decide) ?_)
  intro r1 hr1
  refine qh (ii (r1)) rfl (qc (qb (qg (ii ((k : Int))) rfl (cX (qK (((k + 1 : Nat) : Int)) rfl rfl (by omega) (by omega) (qh (ii (((k + 1 : Nat) : Int))) rfl (qc ?_)))))))
  exact ⟨(k + 1, r1), _, FLe.refl _, rF, ⟨rfl, rfl, rfl, ⟨⟩⟩, sR, ⟨rfl, (by (try dsimp only) <;> omega), (hr1)⟩, (by omega)⟩
 refine jg (qv (qv (qM (qd (qb (qg (bsv) rfl (qg (ii (h)) rfl (cX (jv [bsv, ii (0), ii (h)] [sN, ii (0), ii (0)] [(0, 1), (1, 1), (2, 1)] [(0, [bsv]), (2, [ii (h)])] jR zeroValue247 rfl (.cons rfl sizeOf60 (.cons rfl sizeOf3 (.cons rfl qq PlacesAre.nil))) rfl (.cons (cells_one (BytesF.isSl hbs)) (.cons rfl CellsAre.nil)) (cX (jb [bsv, ii (0), ii (h)] rfl rfl ?_)))))))))))
 intro b1
 refine qh (ptr b1 0) rfl (qc (qw (qr (L' := curH .i64 247 b1 bsv bs.length :: L) [ptr b1 0] (ptr b1 0) (.tmp rfl .nil) rfl rF rF (Sub.keep (curH.of (by omega) (by omega)) sR) ?_)))
 exact ⟨_, rfl, rfl, rfl⟩

/- spec.l1Byte -/
theorem l1Byte_spec0 {F : FH} {L : List HP} {cb : Nat} {bsv : Value} {bs : List Int} (hbs : BytesF F bsv bs) (hbl : bs.length ≤ 4000000) {i h : Int} (h0 : 0 ≤ i) (h1 : i ≤ bs.length) :
    Does prog 225 [ptr cb 0] F (cellsH cb [bsv, ii (i), ii (h)] 247 :: L) (fun v F' L' => (F = F' ∧ ∃ x : Int, (.int .i64 x : Value) = v ∧ (0 ≤ x ∧ x ≤ 255)) ∧ ∃ i' h' : Int, 0 ≤ i' ∧ i' ≤ bs.length ∧ cellsH cb [bsv, ii (i'), ii (h')] 247 :: L = L') := by
 refine qG func225 rfl rfl rfl (qd (qb (qh (ii (0)) rfl (qc (qd (qb (qg (ptr cb 0) rfl (qg (ptr cb 0) rfl (cX (jk rfl (cX (qk (2) jR rfl qq (by decide) rfl rfl (cX (qj qP rfl (Rd.own [] rfl rfl) (cX (XOp.mulW (a := h) (b := 6364136223846793005) rfl rfl ?_))))))))))))))))
 intro r1
 refine cX (XOp.addW (a := r1) (b := 1442695040888963407) rfl rfl ?_)
 intro r2
 refine cX (jk rfl (cX (qk (2) jR rfl qq (by decide) rfl rfl (cX (jw [] _ [bsv, ii (i), ii (r2)] qq rfl rfl rfl rfl rfl rfl (qc (qd ?_)))))))
 refine jM [cellsH cb [bsv, ii (i), ii (r2)] 247] L 10 [] [[], [0], [1], [2], [3], [], [5], [6], [7], [8]] [] (phiG [pe (ptr cb 0), pe (ptr cb 0), pe (ptr cb 2), pe (ii (r2)), fun FF us v => (ii ((intAt v)) : Value) = v, pe (ptr cb 0), pe (ptr cb 0), pe (ptr cb 2), pe (ii (r2)), fun FF us v => (ii ((intAt v)) : Value) = v]) (ownL []) mixed rfl rfl (by kernel_rfl) (by kernel_rfl) (MonoG.get (m1 (m1 (m1 (m1 (mC (fun le h => h) (m1 (m1 (m1 (m1 (mC (fun le h => h) MonoG.nil))))))))))) ?_ ?_
 ·refine gD (fun W Fs R lF z9 => ?_) ?_
  ·refine qi (qm (ptr cb 0) rfl ?_)
   exact ⟨rfl, rfl⟩
  refine gD (fun W Fs R lF z9 => ?_) ?_
  ·replace hbs := hbs.mono lF
   rw [zA 0 (z9 0 rfl)]
   refine qi (jk rfl ?_)
   exact ⟨rfl, rfl⟩
  refine gD (fun W Fs R lF z9 => ?_) ?_
  ·rw [zA 1 (z9 1 rfl)]
   refine qi (qk (2) jR rfl qq (by decide) rfl rfl ?_)
   exact ⟨rfl, rfl⟩
  refine gD (fun W Fs R lF z9 => ?_) ?_
  ·replace hbs := hbs.mono lF
   rw [zA 2 (z9 2 rfl)]
   refine qi (qj qP rfl (Rd.own [] rfl rfl) ?_)
   exact ⟨rfl, rfl⟩
  refine gD (fun W Fs R lF z9 => ?_) ?_
  ·rw [zA 3 (z9 3 rfl)]
   refine qi (XOp.shrW (a := r2) (b := 33) rfl rfl (by decide) ?_)
   intro r5
   exact ⟨rfl, rfl⟩
  refine gD (fun W Fs R lF z9 => ?_) ?_
  ·refine qi (qm (ptr cb 0) rfl ?_)
   exact ⟨rfl, rfl⟩
  refine gD (fun W Fs R lF z9 => ?_) ?_
  ·replace hbs := hbs.mono lF
   rw [zA 5 (z9 5 rfl)]
   refine qi (jk rfl ?_)
   exact ⟨rfl, rfl⟩
  refine gD (fun W Fs R lF z9 => ?_) ?_
  ·rw [zA 6 (z9 6 rfl)]
   refine qi (qk (2) jR rfl qq (by decide) rfl rfl ?_)
   exact ⟨rfl, rfl⟩
  refine gD (fun W Fs R lF z9 => ?_) ?_
  ·replace hbs := hbs.mono lF
   rw [zA 7 (z9 7 rfl)]
   refine qi (qj qP rfl (Rd.own [] rfl rfl) ?_)
   exact ⟨rfl, rfl⟩
  refine gD (fun W Fs R lF z9 => ?_) ?_
  ·rw [zA 8 (z9 8 rfl)]
   refine qi (XOp.shrW (a := r2) (b := 45) rfl rfl (by decide) ?_)
   intro r6
   exact ⟨rfl, rfl⟩
  exact stepsG.nil
 intro W F1 le1 hphi
 have e4 : (ii ((intAt (W 4))) : Value) = (W 4) := hphi 4 (by decide)
 have e9 : (ii ((intAt (W 9))) : Value) = (W 9) := hphi 9 (by decide)
 generalize hu1 : (intAt (W 4)) = u1 at e4 e9
 generalize hu2 : (intAt (W 9)) = u2 at e4 e9
 rw [eS (l := [(4, (ii (u1))), (9, (ii (u2)))]) ⟨(e4).symm, (e9).symm, ⟨⟩⟩]
 replace hbs := hbs.mono le1
 show XL _ _ _ _ _ _ _ (cellsH cb [bsv, ii (i), ii (r2)] 247 :: L)
 refine cX (XOp.xorW (a := u1) (b := u2) rfl rfl ?_)
 intro r7
 refine cX (XOp.andW (a := r7) (b := 255) rfl rfl rfl (by decide) ?_)
 intro r8 hr1
 refine qh (ii (r8)) rfl (qc (qd (qd ?_)))
 refine jx [cellsH cb [bsv, ii (i), ii (r2)] 247] L 9 [] [[], [0], [1], [2], [], [4], [5], [6], [7]] (phiL [qe (ptr cb 0), qe (ptr cb 0), qe (ptr cb 1), qe (ii (i)), qe (ptr cb 0), qe (ptr cb 0), qe (ptr cb 0), qe bsv, qe (ii ((bs.length : Int)) : Value)]) (ownL []) mixed rfl rfl (by kernel_rfl) ?_ ?_
 ·refine pD (fun W R z9 => ?_) ?_
  ·refine qi (qm (ptr cb 0) rfl ?_)
   exact ⟨rfl, rfl, rfl⟩
  refine pD (fun W R z9 => ?_) ?_
  ·rw [zA 0 (z9 0 rfl)]
   refine qi (jk rfl ?_)
   exact ⟨rfl, rfl, rfl⟩
  refine pD (fun W R z9 => ?_) ?_
  ·rw [zA 1 (z9 1 rfl)]
   refine qi (qk (1) jR rfl sizeOf3 (by decide) rfl rfl ?_)
   exact ⟨rfl, rfl, rfl⟩
  refine pD (fun W R z9 => ?_) ?_
  ·rw [zA 2 (z9 2 rfl)]
   refine qi (qj isAgg3 rfl (Rd.own [] rfl rfl) ?_)
   exact ⟨rfl, rfl, rfl⟩
  refine pD (fun W R z9 => ?_) ?_
  ·refine qi (qm (ptr cb 0) rfl ?_)
   exact ⟨rfl, rfl, rfl⟩
  refine pD (fun W R z9 => ?_) ?_
  ·rw [zA 4 (z9 4 rfl)]
   refine qi (jk rfl ?_)
   exact ⟨rfl, rfl, rfl⟩
  refine pD (fun W R z9 => ?_) ?_
  ·rw [zA 5 (z9 5 rfl)]
   refine qi (qk (0) jR rfl sizeOf60 (by decide) rfl rfl ?_)
   exact ⟨rfl, rfl, rfl⟩
  refine pD (fun W R z9 => ?_) ?_
  ·rw [zA 6 (z9 6 rfl)]
   refine qi (qj isAgg60 rfl (Rd.own [] rfl rfl) ?_)
   exact ⟨rfl, rfl, rfl⟩
  refine pD (fun W R z9 => ?_) ?_
  ·rw [zA 7 (z9 7 rfl)]
   refine qi (qE runUnderlying60 rfl hbs.slv ?_)
   exact ⟨rfl, rfl, rfl⟩
  exact stepsP.nil
 intro W hphi
 rw [zB 3 8 (hphi 3 (by decide)) (hphi 8 (by decide))]
 show XL _ _ _ _ _ _ _ (cellsH cb [bsv, ii (i), ii (r2)] 247 :: L)
 refine cX (qQ rfl rfl (qc ?_))
 refine qC (p := (i : Int) < (bs.length : Int)) rfl (fun h1 => ?_) (fun h1 => ?_)
 ·have hrg := hbs.range (i := i.toNat) (by omega)
  refine qd ?_
  refine jx [cellsH cb [bsv, ii (i), ii (r2)] 247] L 12 [] [[], [], [1], [2], [3], [], [5], [6], [7], [4, 8], [9], [10]] (phiL [qe (ii (r8)), qe (ptr cb 0), qe (ptr cb 0), qe (ptr cb 0), qe bsv, qe (ptr cb 0), qe (ptr cb 0), qe (ptr cb 1), qe (ii (i)), qe (.pointer (some (elemA bsv ((i).toNat)))), qe (.int .u8 (bs.getD ((i).toNat) 0)), qe (ii (bs.getD ((i).toNat) 0))]) (ownL []) mixed rfl rfl (by kernel_rfl) ?_ ?_
  ·refine pD (fun W R z9 => ?_) ?_
   ·refine qi (qm (ii (r8)) rfl ?_)
    exact ⟨rfl, rfl, rfl⟩
   refine pD (fun W R z9 => ?_) ?_
   ·refine qi (qm (ptr cb 0) rfl ?_)
    exact ⟨rfl, rfl, rfl⟩
   refine pD (fun W R z9 => ?_) ?_
   ·rw [zA 1 (z9 1 rfl)]
    refine qi (jk rfl ?_)
    exact ⟨rfl, rfl, rfl⟩
   refine pD (fun W R z9 => ?_) ?_
   ·rw [zA 2 (z9 2 rfl)]
    refine qi (qk (0) jR rfl sizeOf60 (by decide) rfl rfl ?_)
    exact ⟨rfl, rfl, rfl⟩
   refine pD (fun W R z9 => ?_) ?_
   ·rw [zA 3 (z9 3 rfl)]
    refine qi (qj isAgg60 rfl (Rd.own [] rfl rfl) ?_)
    exact ⟨rfl, rfl, rfl⟩
   refine pD (fun W R z9 => ?_) ?_
   ·refine qi (qm (ptr cb 0) rfl ?_)
    exact ⟨rfl, rfl, rfl⟩
   refine pD (fun W R z9 => ?_) ?_
   ·rw [zA 5 (z9 5 rfl)]
    refine qi (jk rfl ?_)
    exact ⟨rfl, rfl, rfl⟩
   refine pD (fun W R z9 => ?_) ?_
   ·rw [zA 6 (z9 6 rfl)]
    refine qi (qk (1) jR rfl sizeOf3 (by decide) rfl rfl ?_)
    exact ⟨rfl, rfl, rfl⟩
   refine pD (fun W R z9 => ?_) ?_
   ·rw [zA 7 (z9 7 rfl)]
    refine qi (qj isAgg3 rfl (Rd.own [] rfl rfl) ?_)
    exact ⟨rfl, rfl, rfl⟩
   refine pD (fun W R z9 => ?_) ?_
   ·rw [zB 4 8 (z9 4 rfl) (z9 8 rfl)]
    refine qi (qt ((i).toNat) runUnderlying60 sizeOf5 rfl rfl (by omega) hbs.slv (by omega) (Nat.mul_one _) ?_)
    exact ⟨rfl, rfl, rfl⟩
   refine pD (fun W R z9 => ?_) ?_
   ·rw [zA 9 (z9 9 rfl)]
    refine qi (qj isAgg5 rfl (hbs.rd (by omega) _) ?_)
    exact ⟨rfl, rfl, rfl⟩
   refine pD (fun W R z9 => ?_) ?_
   ·rw [zA 10 (z9 10 rfl)]
    refine qi (XOp.convI (k' := .u8) (a := bs.getD ((i).toNat) 0) (bs.getD ((i).toNat) 0) runUnderlying5 runUnderlying2 rfl (IntWalk.i64_in _ (by omega)) ?_)
    exact ⟨rfl, rfl, rfl⟩
   exact stepsP.nil
  intro W hphi
  rw [zB 0 11 (hphi 0 (by decide)) (hphi 11 (by decide))]
  show XL _ _ _ _ _ _ _ (cellsH cb [bsv, ii (i), ii (r2)] 247 :: L)
  refine cX (qK (r8 + (bs.getD ((i).toNat) 0)) rfl rfl (by omega) (by omega) (cX (XOp.andW (a := r8 + (bs.getD ((i).toNat) 0)) (b := 255) rfl rfl rfl (by decide) ?_)))
  intro r9 hr2
  refine qh (ii (r9)) rfl (qc (qb (qg (ptr cb 0) rfl (qg (ptr cb 0) rfl (cX (jk rfl (cX (qk (1) jR rfl sizeOf3 (by decide) rfl rfl (cX (qj isAgg3 rfl (Rd.own [] rfl rfl) (cX (qK (i + 1) rfl rfl (by omega) (by omega) (cX (jk rfl (cX (qk (1) jR rfl sizeOf3 (by decide) rfl rfl ?_))))))))))))))))
  refine cX (jw [] _ [bsv, ii (i + 1), ii (r2)] sizeOf3 rfl rfl rfl rfl rfl rfl (qc (qd (qb (qg (ii (r9)) rfl (qh (ii (r9)) rfl (qc (qw (qr (L' := cellsH cb [bsv, ii (i + 1), ii (r2)] 247 :: L) [ii (r9)] (ii (r9)) (.tmp rfl .nil) rfl rF le1 (sC sR) ?_)))))))))
  exact ⟨⟨rfl, _, rfl, by omega⟩, _, _, by omega, by omega, rfl⟩
 refine qz (qd (qb (qg (ii (r8)) rfl (qh (ii (r8)) rfl (qc (qw (qr (L' := cellsH cb [bsv, ii (i), ii (r2)] 247 :: L) [ii (r8)] (ii (r8)) (.tmp rfl .nil) rfl rF le1 (sC sR) ?_)))))))
 exact ⟨⟨rfl, _, rfl, by omega⟩, _, _, by omega, by omega, rfl⟩
theorem l1Byte_spec {F : FH} {L : List HP} {cb : Nat} {bsv : Value} {bs : List Int} (hbs : BytesF F bsv bs) (hbl : bs.length ≤ 4000000) : Does prog 225 [ptr cb 0] F (curH .i64 247 cb bsv bs.length :: L) (fun v F' L' => (F = F' ∧ ∃ (x : Int), (.int .i64 x : Value) = v ∧ (0 ≤ x ∧ x ≤ 255)) ∧ curH .i64 247 cb bsv bs.length :: L = L') :=
  Does.cur (Q := fun v F' => F = F' ∧ ∃ (x : Int), (.int .i64 x : Value) = v ∧ (0 ≤ x ∧ x ≤ 255)) fun i h h0 h1 => l1Byte_spec0 hbs hbl h0 h1

/- spec.l1Below -/
theorem l1Below_spec {F : FH} {L : List HP} {cb : Nat} {bsv : Value} {bs : List Int} (hbs : BytesF F bsv bs) (hbl : bs.length ≤ 4000000) {n : Int} (hn : n ≤ 1000000) :
    Does prog 116 [ptr cb 0, ii (n)] F (curH .i64 247 cb bsv bs.length :: L) (fun v F' L' => (F = F' ∧ ∃ (x : Int), (ii (x) : Value) = v ∧ (0 ≤ x ∧ (x < n ∨ x = 0))) ∧ curH .i64 247 cb bsv bs.length :: L = L') := by
 refine qG func116 rfl rfl rfl (qd (qb (qh (ii (0)) rfl (qc (qd (qd (qb (qg (ii (n)) rfl (cX (XOp.leq rfl rfl (qc ?_)))))))))))
 refine qC (p := (n : Int) ≤ 0) rfl (fun h1 => ?_) (fun h1 => ?_)
 ·refine qd (qb (qh (ii (0)) rfl (qc (qw (ql (qr (L' := curH .i64 247 cb bsv bs.length :: L) [ii (0)] (ii (0)) (.tmp rfl .nil) rfl rF rF (sC sR) ?_))))))
  exact ⟨⟨rfl, _, rfl, by omega⟩, rfl⟩
 refine qz (qd (qd (qb (qg (ii (n)) rfl (cX (XOp.leq rfl rfl (qc ?_)))))))
 refine qC (p := (n : Int) ≤ 256) rfl (fun h2 => ?_) (fun h2 => ?_)
 ·refine qd (qb (qg (ptr cb 0) rfl (cX (qn (args := [ptr cb 0]) call225 rfl (jq [] (l1Byte_spec hbs (by omega))) ?_))))
  rintro _ _ _ _ ⟨⟨rfl, x1, rfl, hr1⟩, rfl⟩
  show XL _ _ _ _ _ _ _ (curH .i64 247 cb bsv bs.length :: L)
  refine qg (ii (n)) rfl (cX (XOp.remV (a := x1) (b := n) rfl rfl (by omega) (by omega) ?_))
  intro r1 hr2
  refine qh (ii (r1)) rfl (qc (qw (ql (qr (L' := curH .i64 247 cb bsv bs.length :: L) [ii (r1)] (ii (r1)) (.tmp rfl .nil) rfl rF rF (sC sR) ?_))))
  exact ⟨⟨rfl, _, rfl, by omega⟩, rfl⟩
 refine qz (qd (qb (qg (ptr cb 0) rfl (cX (qn (args := [ptr cb 0]) call225 rfl (jq [] (l1Byte_spec hbs (by omega))) ?_)))))
 rintro _ _ _ _ ⟨⟨rfl, x2, rfl, hr3⟩, rfl⟩
 show XL _ _ _ _ _ _ _ (curH .i64 247 cb bsv bs.length :: L)
 refine qh (ii (x2)) rfl (qc (qd (qb (qg (ptr cb 0) rfl (cX (qn (args := [ptr cb 0]) call225 rfl (jq [] (l1Byte_spec hbs (by omega))) ?_))))))
 rintro _ _ _ _ ⟨⟨rfl, x3, rfl, hr4⟩, rfl⟩
 show XL _ _ _ _ _ _ _ (curH .i64 247 cb bsv bs.length :: L)
 refine qh (ii (x3)) rfl (qc (qd (qb (qg (ptr cb 0) rfl (cX (qn (args := [ptr cb 0]) call225 rfl (jq [] (l1Byte_spec hbs (by omega))) ?_))))))
 rintro _ _ _ _ ⟨⟨rfl, x4, rfl, hr5⟩, rfl⟩
 show XL _ _ _ _ _ _ _ (curH .i64 247 cb bsv bs.length :: L)
 refine qh (ii (x4)) rfl (qc (qd (qb (qg (ptr cb 0) rfl (cX (qn (args := [ptr cb 0]) call225 rfl (jq [] (l1Byte_spec hbs (by omega))) ?_))))))
 rintro _ _ _ _ ⟨⟨rfl, x5, rfl, hr6⟩, rfl⟩
 show XL _ _ _ _ _ _ _ (curH .i64 247 cb bsv bs.length :: L)
 refine qh (ii (x5)) rfl (qc (qd (qb (qg (ii (x2)) rfl (cX (XOp.mulR (x2 * 16777216) rfl rfl (by omega) (by omega) (qg (ii (x3)) rfl (cX (XOp.mulR (x3 * 65536) rfl rfl (by omega) (by omega) (cX (qK ((x2 * 16777216) + (x3 * 65536)) rfl rfl (by omega) (by omega) (qg (ii (x4)) rfl (cX (XOp.mulR (x4 * 256) rfl rfl (by omega) (by omega) (cX (qK (((x2 * 16777216) + (x3 * 65536)) + (x4 * 256)) rfl rfl (by omega) (by omega) ?_))))))))))))))))
 refine qg (ii (x5)) rfl (cX (qK ((((x2 * 16777216) + (x3 * 65536)) + (x4 * 256)) + x5) rfl rfl (by omega) (by omega) (qg (ii (n)) rfl (cX (XOp.remV (a := (((x2 * 16777216) + (x3 * 65536)) + (x4 * 256)) + x5) (b := n) rfl rfl (by omega) (by omega) ?_)))))
 intro r2 hr7
 refine qh (ii (r2)) rfl (qc (qw (qr (L' := curH .i64 247 cb bsv bs.length :: L) [ii (r2)] (ii (r2)) (.tmp rfl .nil) rfl rF rF (sC sR) ?_)))
 exact ⟨⟨rfl, _, rfl, by omega⟩, rfl⟩

/- spec.l1Once -/
theorem l1Once_spec {F : FH} {L : List HP} {cb : Nat} {bsv : Value} {bs : List Int} (hbs : BytesF F bsv bs) (hbl : bs.length ≤ 4000000) {n : Int} (hn : n ≤ 1000000) :
    Does prog 102 [ptr cb 0, ii (n)] F (curH .i64 247 cb bsv bs.length :: L) (fun v F' L' => (F = F' ∧ ∃ (b : Bool), (.bool (b) : Value) = v) ∧ curH .i64 247 cb bsv bs.length :: L = L') := by
 refine qG func102 rfl rfl rfl (qd (qb (qh (.bool (false)) rfl (qc (qd (qb (qg (ptr cb 0) rfl (qg (ii (n)) rfl (cX (qn (args := [ptr cb 0, ii (n)]) yb rfl (jq [] (l1Below_spec (n := n) hbs (by omega) (hn := (by first | assumption | rfl | omega | simp)))) ?_))))))))))
 rintro _ _ _ _ ⟨⟨rfl, x1, rfl, hr1⟩, rfl⟩
 show XL _ _ _ _ _ _ _ (curH .i64 247 cb bsv bs.length :: L)
 refine cX (ju rfl rfl (qh (.bool (decide ((x1 : Int) = 0))) rfl (qc (qw (qr (L' := curH .i64 247 cb bsv bs.length :: L) [.bool (decide ((x1 : Int) = 0))] (.bool (decide ((x1 : Int) = 0))) (.tmp rfl .nil) rfl rF rF (sC sR) ?_)))))
 exact ⟨⟨rfl, _, rfl⟩, rfl⟩

/- spec.l1From -/
theorem l1From_spec {F : FH} {L : List HP} {cb : Nat} {bsv : Value} {bs : List Int} (hbs : BytesF F bsv bs) (hbl : bs.length ≤ 4000000) {lo : Int} {hi : Int} (hlo : -1000 ≤ lo ∧ lo ≤ 1000 ∧ -1000 ≤ hi ∧ hi ≤ 900000) :
    Does prog 201 [ptr cb 0, ii (lo), ii (hi)] F (curH .i64 247 cb bsv bs.length :: L) (fun v F' L' => (F = F' ∧ ∃ (x : Int), (ii (x) : Value) = v ∧ (lo ≤ x ∧ (x ≤ hi ∨ x = lo))) ∧ curH .i64 247 cb bsv bs.length :: L = L') := by
 refine qG func201 rfl rfl rfl (qd (qb (qh (ii (0)) rfl (qc (qd (qb (qg (ii (lo)) rfl (qg (ptr cb 0) rfl (qg (ii (hi)) rfl (qg (ii (lo)) rfl (cX (je (hi - lo) rfl rfl (by omega) (by omega) (cX (qK ((hi - lo) + 1) rfl rfl (by omega) (by omega) ?_))))))))))))))
 refine cX (qn (args := [ptr cb 0, ii ((hi - lo) + 1)]) yb rfl (jq [] (l1Below_spec (n := (hi - lo) + 1) hbs (by omega) (hn := (by first | assumption | rfl | omega | simp)))) ?_)
 rintro _ _ _ _ ⟨⟨rfl, x1, rfl, hr1⟩, rfl⟩
 show XL _ _ _ _ _ _ _ (curH .i64 247 cb bsv bs.length :: L)
 refine cX (qK (lo + x1) rfl rfl (by omega) (by omega) (qh (ii (lo + x1)) rfl (qc (qw (qr (L' := curH .i64 247 cb bsv bs.length :: L) [ii (lo + x1)] (ii (lo + x1)) (.tmp rfl .nil) rfl rF rF (sC sR) ?_)))))
 exact ⟨⟨rfl, _, rfl, by omega⟩, rfl⟩

/- spec.l1Odd -/
theorem l1Odd_spec {F : FH} {L : List HP} {cb : Nat} {bsv : Value} {bs : List Int} (hbs : BytesF F bsv bs) (hbl : bs.length ≤ 4000000) :
    Does prog 295 [ptr cb 0] F (curH .i64 247 cb bsv bs.length :: L) (fun v F' L' => (F = F' ∧ ∃ (x : Int), (ii (x) : Value) = v) ∧ curH .i64 247 cb bsv bs.length :: L = L') := by
 refine qG func295 rfl rfl rfl (qd (qb (qh (ii (0)) rfl (qc (qd (qb (cX (qs (s := 1) [ii (-1), ii (0), ii (1), ii (2147483648), ii (-2147483648), ii (1099511627776), ii (4611686018427387904), ii (-4611686018427387904), ii (9223372036854775807), ii (-9223372036854775808)] [ii (0)] [(0, [ii (-1)]), (1, [ii (0)]), (2, [ii (1)]), (3, [ii (2147483648)]), (4, [ii (-2147483648)]), (5, [ii (1099511627776)]), (6, [ii (4611686018427387904)]), (7, [ii (-4611686018427387904)]), (8, [ii (9223372036854775807)]), (9, [ii (-9223372036854775808)])] qf qq qL rfl (by decide) rfl (.cons rfl (.cons rfl (.cons rfl (.cons rfl (.cons rfl (.cons rfl (.cons rfl (.cons rfl (.cons rfl (.cons rfl CellsAre.nil)))))))))) rfl ?_))))))))
 intro v1 hv1
 show XL _ _ _ _ _ _ _ (intsH 2 v1 ([-1, 0, 1, 2147483648, -2147483648, 1099511627776, 4611686018427387904, -4611686018427387904, 9223372036854775807, -9223372036854775808] : List Int) :: curH .i64 247 cb bsv bs.length :: L)
 have hl10 : ([-1, 0, 1, 2147483648, -2147483648, 1099511627776, 4611686018427387904, -4611686018427387904, 9223372036854775807, -9223372036854775808] : List Int).length = 10 := rfl
 refine qg (ptr cb 0) rfl (cX (qn (args := [ptr cb 0, ii (10)]) yb rfl (jq [_] (l1Below_spec (n := 10) hbs (by omega) (hn := (by first | assumption | rfl | omega | simp)))) ?_))
 rintro _ _ _ _ ⟨⟨rfl, x1, rfl, hr1⟩, rfl⟩
 show XL _ _ _ _ _ _ _ (intsH 2 v1 ([-1, 0, 1, 2147483648, -2147483648, 1099511627776, 4611686018427387904, -4611686018427387904, 9223372036854775807, -9223372036854775808] : List Int) :: curH .i64 247 cb bsv bs.length :: L)
 refine cX (qt ((x1).toNat) qf qq rfl rfl (by omega) (intsH.slv [] rfl) (by omega) (Nat.mul_one _) (cX (qj qP rfl (intsH.rd [] rfl (by omega)) (qh (ii (([-1, 0, 1, 2147483648, -2147483648, 1099511627776, 4611686018427387904, -4611686018427387904, 9223372036854775807, -9223372036854775808]).getD ((x1).toNat) 0)) rfl (qc (qw (qr (L' := curH .i64 247 cb bsv bs.length :: L) [ii (([-1, 0, 1, 2147483648, -2147483648, 1099511627776, 4611686018427387904, -4611686018427387904, 9223372036854775807, -9223372036854775808]).getD ((x1).toNat) 0)] (ii (([-1, 0, 1, 2147483648, -2147483648, 1099511627776, 4611686018427387904, -4611686018427387904, 9223372036854775807, -9223372036854775808]).getD ((x1).toNat) 0)) (.tmp rfl .nil) rfl rF rF (sD (sC sR)) ?_)))))))
 exact ⟨⟨rfl, _, rfl⟩, rfl⟩

/- spec.l1DrawTerm -/
theorem l1DrawTerm_spec_step {dp : Nat} (ih : ∀ m : Nat, m < dp → ∀ {F : FH} {L : List HP} {cb : Nat} {bsv : Value} {bs : List Int} (hbs : BytesF F bsv bs) (hbl : bs.length ≤ 4000000) {arv : Value} {ar : List Int} (har : IntsF F arv ar) {vs : Int} (hso : sigOk ar = true) (hdp : m ≤ 5) (hvs : 0 ≤ vs ∧ vs ≤ 24), Does prog 252 [ptr cb 0, .agg #[arv], ii ((m : Int)), ii (vs)] F (curH .i64 247 cb bsv bs.length :: L) (fun v F' L' => ∃ a : Value, ((a : Value) = v ∧ IsSl a) ∧ drawnH 2 a (fun t => goodT ar t ∧ 1 ≤ t.length ∧ t.length ≤ szT m) :: curH .i64 247 cb bsv bs.length :: L = L')) {F : FH} {L : List HP} {cb : Nat} {bsv : Value} {bs : List Int} (hbs : BytesF F bsv bs) (hbl : bs.length ≤ 4000000) {arv : Value} {ar : List Int} (har : IntsF F arv ar) {vs : Int} (hso : sigOk ar = true) (hdp : dp ≤ 5) (hvs : 0 ≤ vs ∧ vs ≤ 24) :
    Does prog 252 [ptr cb 0, .agg #[arv], ii (((dp : Nat) : Int)), ii (vs)] F (curH .i64 247 cb bsv bs.length :: L) (fun v F' L' => ∃ a : Value, ((a : Value) = v ∧ IsSl a) ∧ drawnH 2 a (fun t => goodT ar t ∧ 1 ≤ t.length ∧ t.length ≤ szT dp) :: curH .i64 247 cb bsv bs.length :: L = L') := by
 refine qG func252 rfl rfl rfl ?_
 have hz9 := szT_le (d := dp - 1) (e := 4) (by omega)
 have hz8 : szT 4 = 121 := rfl
 have hz7 := szT_pos (dp - 1)
 have hsl := sigOk_spec hso
 refine qd (qb (cX (jb [arv] rfl rfl ?_)))
 intro b1
 refine qh (sN) rfl (qc (qd (qd (qb (qg (ii (((dp : Nat) : Int))) rfl (cX (XOp.leq rfl rfl (qg (.bool (decide ((((dp : Nat) : Int) : Int) ≤ 1))) rfl ?_))))))))
 by_cases h1 : (((dp : Nat) : Int) : Int) ≤ 1
 ·refine qp (t := 15) rfl (vT h1) (qp (t := 15) rfl (vT h1) (cX (qO (.bool (true)) (vT h1) rfl (qc (jA rfl (qd (qd (qb (qg (ii (vs)) rfl (cX (jG rfl rfl (qg (.bool (decide ((vs : Int) > 0))) rfl ?_))))))))))))
  by_cases h2 : (vs : Int) > 0
  ·refine qo (t := 21) rfl (vT h2) (qm (ptr cb 0) rfl (qo (t := 21) rfl (vT h2) (qn (args := [ptr cb 0, ii (2)]) call102 rfl (jq [_] (l1Once_spec (n := 2) hbs (by omega) (hn := (by first | assumption | rfl | omega | simp)))) ?_)))
   rintro _ _ _ _ ⟨⟨rfl, x1, rfl⟩, rfl⟩
   show XL _ _ _ _ _ _ _ (cellsH b1 [arv] 36 :: curH .i64 247 cb bsv bs.length :: L)
   refine cX (qO (.bool (x1)) (vT h2) rfl (qc ?_))
   refine jF (t := x1) rfl (fun h3 => ?_) (fun h3 => ?_)
   ·refine qd (qb (qg (ptr cb 0) rfl (qg (ii (vs)) rfl (cX (qn (args := [ptr cb 0, ii (vs)]) yb rfl (jq [_] (l1Below_spec (n := vs) hbs (by omega) (hn := (by first | assumption | rfl | omega | simp)))) ?_)))))
    rintro _ _ _ _ ⟨⟨rfl, x2, rfl, hr1⟩, rfl⟩
    show XL _ _ _ _ _ _ _ (cellsH b1 [arv] 36 :: curH .i64 247 cb bsv bs.length :: L)
    refine cX (je ((-1) - x2) rfl rfl (by omega) (by omega) (cX (qs (s := 1) [ii ((-1) - x2)] [ii (0)] [(0, [ii ((-1) - x2)])] qf qq qL rfl (by decide) rfl (.cons rfl CellsAre.nil) rfl ?_)))
    intro v1 hv1
    refine qh (v1) rfl (qc (qw (ql (ql (qr (L' := drawnH 2 v1 (fun t => goodT ar t ∧ 1 ≤ t.length ∧ t.length ≤ szT dp) :: curH .i64 247 cb bsv bs.length :: L) [v1] (v1) (.tmp rfl .nil) rfl rF rF (jN (sC (sD (sC sR))) (Sub.keep (drawnH.of (t := [(-1) - x2]) (⟨goodT.var (by omega) (by omega), Nat.le_refl _, szT_pos dp⟩)) sR)) ?_)))))
    exact ⟨_, ⟨rfl, (jo hv1)⟩, rfl⟩
   refine qz (qd (qd (qb (cX (qk (0) ji rfl qA (by decide) rfl rfl (cX (qj qU rfl (Rd.own [] rfl rfl) (cX (qE qf rfl har.slv (cX (je (((((ar).length) - 1 : Nat) : Int)) rfl rfl (by omega) (by omega) (qh (ii (((((ar).length) - 1 : Nat) : Int))) rfl (qc (qH (jn (α := Nat) (fun j => [(5, ptr b1 0), (9, ii ((j : Int) - 1))]) (fun j => cellsH b1 [arv] 36 :: curH .i64 247 cb bsv bs.length :: L) (fun j F' => F = F' ∧ (j ≤ ar.length)) (fun j => j) ar.length ⟨rfl, (vI (by omega)), ⟨⟩⟩ (sC (sC sR)) ⟨rfl, (Nat.le_refl _)⟩ ?_)))))))))))))))
   rintro j rE _ _ ⟨rfl, hj⟩
   show X _ _ _ _ (envs [(5, ptr b1 0), (9, ii ((j : Int) - 1))] rE) _ (cellsH b1 [arv] 36 :: curH .i64 247 cb bsv bs.length :: L)
   refine qd (qd (qb (qg (ii ((j : Int) - 1)) rfl (cX (jP rfl rfl (qc ?_))))))
   refine qC (p := ((j : Int) - 1 : Int) ≥ 0) rfl (fun h4 => ?_) (fun h4 => ?_)
   ·refine qz (qd (qH (qd (qb (cX (qk (0) ji rfl qA (by decide) rfl rfl (cX (qj qU rfl (Rd.own [] rfl rfl) (qg (ii ((j : Int) - 1)) rfl (cX (qt (((j : Int) - 1).toNat) qf qq rfl rfl (by omega) har.slv (by omega) (Nat.mul_one _) (cX (qj qP rfl (har.rd (by omega)) (cX (ju rfl rfl (qc ?_))))))))))))))))
    refine qC (p := (ar.getD (((j : Int) - 1).toNat) 0 : Int) = 0) rfl (fun h5 => ?_) (fun h5 => ?_)
    ·refine qd (qb (qg (ii ((j : Int) - 1)) rfl (cX (qs (s := 1) [ii ((j : Int) - 1)] [ii (0)] [(0, [ii ((j : Int) - 1)])] qf qq qL rfl (by decide) rfl (.cons rfl CellsAre.nil) rfl ?_))))
     intro v2 hv2
     refine qh (v2) rfl (qc (qw (qD (ql (ql (qD (ql (ql (qr (L' := drawnH 2 v2 (fun t => goodT ar t ∧ 1 ≤ t.length ∧ t.length ≤ szT dp) :: curH .i64 247 cb bsv bs.length :: L) [v2] (v2) (.tmp rfl .nil) rfl rF rF (jN (sC (sD (sC sR))) (Sub.keep (drawnH.of (t := [(j : Int) - 1]) (⟨goodT.one (by omega) (by omega) (by rw [arity, if_neg (by omega)]; omega), Nat.le_refl _, szT_pos dp⟩)) sR)) ?_)))))))))
     exact ⟨_, ⟨rfl, (jo hv2)⟩, rfl⟩
    refine qz (qb (qg (ii ((j : Int) - 1)) rfl (cX (je (((j : Int) - 1) - 1) rfl rfl (by omega) (by omega) (qh (ii (((j : Int) - 1) - 1)) rfl (qc ?_))))))
    exact ⟨j - 1, _, FLe.refl _, rF, ⟨rfl, (vI (by (try dsimp only); omega)), ⟨⟩⟩, (sC (sC sR)), ⟨rfl, (by (try dsimp only) <;> omega)⟩, (by (try dsimp only); omega)⟩
   refine jg (qv (qv (qM (qd (qb (cX (qs (s := 1) [ii (-1)] [ii (0)] [(0, [ii (-1)])] qf qq qL rfl (by decide) rfl (.cons rfl CellsAre.nil) rfl ?_)))))))
   intro v3 hv3
   refine qh (v3) rfl (qc (qw (ql (qr (L' := drawnH 2 v3 (fun t => goodT ar t ∧ 1 ≤ t.length ∧ t.length ≤ szT dp) :: curH .i64 247 cb bsv bs.length :: L) [v3] (v3) (.tmp rfl .nil) rfl rF rF (jN (sC (sD (sC sR))) (Sub.keep (drawnH.of (t := [-1]) (⟨goodT.var (by omega) (by omega), Nat.le_refl _, szT_pos dp⟩)) sR)) ?_))))
   exact ⟨_, ⟨rfl, (jo hv3)⟩, rfl⟩
  refine qp (t := 21) rfl (vF h2) (qp (t := 21) rfl (vF h2) (cX (qN (.bool (false)) (vF h2) rfl (qc (jO rfl (qz (qd (qd (qb (cX (qk (0) ji rfl qA (by decide) rfl rfl (cX (qj qU rfl (Rd.own [] rfl rfl) (cX (qE qf rfl har.slv (cX (je (((((ar).length) - 1 : Nat) : Int)) rfl rfl (by omega) (by omega) ?_)))))))))))))))))
  refine qh (ii (((((ar).length) - 1 : Nat) : Int))) rfl (qc (qH (jn (α := Nat) (fun j => [(5, ptr b1 0), (9, ii ((j : Int) - 1))]) (fun j => cellsH b1 [arv] 36 :: curH .i64 247 cb bsv bs.length :: L) (fun j F' => F = F' ∧ (j ≤ ar.length)) (fun j => j) ar.length ⟨rfl, (vI (by omega)), ⟨⟩⟩ (sC (sC sR)) ⟨rfl, (Nat.le_refl _)⟩ ?_)))
  rintro j rE _ _ ⟨rfl, hj⟩
  show X _ _ _ _ (envs [(5, ptr b1 0), (9, ii ((j : Int) - 1))] rE) _ (cellsH b1 [arv] 36 :: curH .i64 247 cb bsv bs.length :: L)
  refine qd (qd (qb (qg (ii ((j : Int) - 1)) rfl (cX (jP rfl rfl (qc ?_))))))
  refine qC (p := ((j : Int) - 1 : Int) ≥ 0) rfl (fun h6 => ?_) (fun h6 => ?_)
  ·refine qz (qd (qH (qd (qb (cX (qk (0) ji rfl qA (by decide) rfl rfl (cX (qj qU rfl (Rd.own [] rfl rfl) (qg (ii ((j : Int) - 1)) rfl (cX (qt (((j : Int) - 1).toNat) qf qq rfl rfl (by omega) har.slv (by omega) (Nat.mul_one _) (cX (qj qP rfl (har.rd (by omega)) (cX (ju rfl rfl (qc ?_))))))))))))))))
   refine qC (p := (ar.getD (((j : Int) - 1).toNat) 0 : Int) = 0) rfl (fun h7 => ?_) (fun h7 => ?_)
   ·refine qd (qb (qg (ii ((j : Int) - 1)) rfl (cX (qs (s := 1) [ii ((j : Int) - 1)] [ii (0)] [(0, [ii ((j : Int) - 1)])] qf qq qL rfl (by decide) rfl (.cons rfl CellsAre.nil) rfl ?_))))
    intro v4 hv4
    refine qh (v4) rfl (qc (qw (qD (ql (ql (qD (ql (ql (qr (L' := drawnH 2 v4 (fun t => goodT ar t ∧ 1 ≤ t.length ∧ t.length ≤ szT dp) :: curH .i64 247 cb bsv bs.length :: L) [v4] (v4) (.tmp rfl .nil) rfl rF rF (jN (sC (sD (sC sR))) (Sub.keep (drawnH.of (t := [(j : Int) - 1]) (⟨goodT.one (by omega) (by omega) (by rw [arity, if_neg (by omega)]; omega), Nat.le_refl _, szT_pos dp⟩)) sR)) ?_)))))))))
    exact ⟨_, ⟨rfl, (jo hv4)⟩, rfl⟩
   refine qz (qb (qg (ii ((j : Int) - 1)) rfl (cX (je (((j : Int) - 1) - 1) rfl rfl (by omega) (by omega) (qh (ii (((j : Int) - 1) - 1)) rfl (qc ?_))))))
   exact ⟨j - 1, _, FLe.refl _, rF, ⟨rfl, (vI (by (try dsimp only); omega)), ⟨⟩⟩, (sC (sC sR)), ⟨rfl, (by (try dsimp only) <;> omega)⟩, (by (try dsimp only); omega)⟩
  refine jg (qv (qv (qM (qd (qb (cX (qs (s := 1) [ii (-1)] [ii (0)] [(0, [ii (-1)])] qf qq qL rfl (by decide) rfl (.cons rfl CellsAre.nil) rfl ?_)))))))
  intro v5 hv5
  refine qh (v5) rfl (qc (qw (ql (qr (L' := drawnH 2 v5 (fun t => goodT ar t ∧ 1 ≤ t.length ∧ t.length ≤ szT dp) :: curH .i64 247 cb bsv bs.length :: L) [v5] (v5) (.tmp rfl .nil) rfl rF rF (jN (sC (sD (sC sR))) (Sub.keep (drawnH.of (t := [-1]) (⟨goodT.var (by omega) (by omega), Nat.le_refl _, szT_pos dp⟩)) sR)) ?_))))
  exact ⟨_, ⟨rfl, (jo hv5)⟩, rfl⟩
 refine qo (t := 15) rfl (vF h1) (qm (ptr cb 0) rfl (qo (t := 15) rfl (vF h1) (qn (args := [ptr cb 0, ii (4)]) call102 rfl (jq [_] (l1Once_spec (n := 4) hbs (by omega) (hn := (by first | assumption | rfl | omega | simp)))) ?_)))
 rintro _ _ _ _ ⟨⟨rfl, x3, rfl⟩, rfl⟩
 show XL _ _ _ _ _ _ _ (cellsH b1 [arv] 36 :: curH .i64 247 cb bsv bs.length :: L)
 refine cX (qN (.bool (x3)) (vF h1) rfl (qc ?_))
 refine jF (t := x3) rfl (fun h8 => ?_) (fun h8 => ?_)
 ·refine qd (qd (qb (qg (ii (vs)) rfl (cX (jG rfl rfl (qg (.bool (decide ((vs : Int) > 0))) rfl ?_))))))
  by_cases h9 : (vs : Int) > 0
  ·refine qo (t := 21) rfl (vT h9) (qm (ptr cb 0) rfl (qo (t := 21) rfl (vT h9) (qn (args := [ptr cb 0, ii (2)]) call102 rfl (jq [_] (l1Once_spec (n := 2) hbs (by omega) (hn := (by first | assumption | rfl | omega | simp)))) ?_)))
   rintro _ _ _ _ ⟨⟨rfl, x4, rfl⟩, rfl⟩
   show XL _ _ _ _ _ _ _ (cellsH b1 [arv] 36 :: curH .i64 247 cb bsv bs.length :: L)
   refine cX (qO (.bool (x4)) (vT h9) rfl (qc ?_))
   refine jF (t := x4) rfl (fun h10 => ?_) (fun h10 => ?_)
   ·refine qd (qb (qg (ptr cb 0) rfl (qg (ii (vs)) rfl (cX (qn (args := [ptr cb 0, ii (vs)]) yb rfl (jq [_] (l1Below_spec (n := vs) hbs (by omega) (hn := (by first | assumption | rfl | omega | simp)))) ?_)))))
    rintro _ _ _ _ ⟨⟨rfl, x5, rfl, hr2⟩, rfl⟩
    show XL _ _ _ _ _ _ _ (cellsH b1 [arv] 36 :: curH .i64 247 cb bsv bs.length :: L)
    refine cX (je ((-1) - x5) rfl rfl (by omega) (by omega) (cX (qs (s := 1) [ii ((-1) - x5)] [ii (0)] [(0, [ii ((-1) - x5)])] qf qq qL rfl (by decide) rfl (.cons rfl CellsAre.nil) rfl ?_)))
    intro v6 hv6
    refine qh (v6) rfl (qc (qw (ql (ql (qr (L' := drawnH 2 v6 (fun t => goodT ar t ∧ 1 ≤ t.length ∧ t.length ≤ szT dp) :: curH .i64 247 cb bsv bs.length :: L) [v6] (v6) (.tmp rfl .nil) rfl rF rF (jN (sC (sD (sC sR))) (Sub.keep (drawnH.of (t := [(-1) - x5]) (⟨goodT.var (by omega) (by omega), Nat.le_refl _, szT_pos dp⟩)) sR)) ?_)))))
    exact ⟨_, ⟨rfl, (jo hv6)⟩, rfl⟩
   refine qz (qd (qd (qb (cX (qk (0) ji rfl qA (by decide) rfl rfl (cX (qj qU rfl (Rd.own [] rfl rfl) (cX (qE qf rfl har.slv (cX (je (((((ar).length) - 1 : Nat) : Int)) rfl rfl (by omega) (by omega) (qh (ii (((((ar).length) - 1 : Nat) : Int))) rfl (qc (qH (jn (α := Nat) (fun j => [(5, ptr b1 0), (9, ii ((j : Int) - 1))]) (fun j => cellsH b1 [arv] 36 :: curH .i64 247 cb bsv bs.length :: L) (fun j F' => F = F' ∧ (j ≤ ar.length)) (fun j => j) ar.length ⟨rfl, (vI (by omega)), ⟨⟩⟩ (sC (sC sR)) ⟨rfl, (Nat.le_refl _)⟩ ?_)))))))))))))))
   rintro j rE _ _ ⟨rfl, hj⟩
   show X _ _ _ _ (envs [(5, ptr b1 0), (9, ii ((j : Int) - 1))] rE) _ (cellsH b1 [arv] 36 :: curH .i64 247 cb bsv bs.length :: L)
   refine qd (qd (qb (qg (ii ((j : Int) - 1)) rfl (cX (jP rfl rfl (qc ?_))))))
   refine qC (p := ((j : Int) - 1 : Int) ≥ 0) rfl (fun h11 => ?_) (fun h11 => ?_)
   ·refine qz (qd (qH (qd (qb (cX (qk (0) ji rfl qA (by decide) rfl rfl (cX (qj qU rfl (Rd.own [] rfl rfl) (qg (ii ((j : Int) - 1)) rfl (cX (qt (((j : Int) - 1).toNat) qf qq rfl rfl (by omega) har.slv (by omega) (Nat.mul_one _) (cX (qj qP rfl (har.rd (by omega)) (cX (ju rfl rfl (qc ?_))))))))))))))))
    refine qC (p := (ar.getD (((j : Int) - 1).toNat) 0 : Int) = 0) rfl (fun h12 => ?_) (fun h12 => ?_)
    ·refine qd (qb (qg (ii ((j : Int) - 1)) rfl (cX (qs (s := 1) [ii ((j : Int) - 1)] [ii (0)] [(0, [ii ((j : Int) - 1)])] qf qq qL rfl (by decide) rfl (.cons rfl CellsAre.nil) rfl ?_))))
     intro v7 hv7
     refine qh (v7) rfl (qc (qw (qD (ql (ql (qD (ql (ql (qr (L' := drawnH 2 v7 (fun t => goodT ar t ∧ 1 ≤ t.length ∧ t.length ≤ szT dp) :: curH .i64 247 cb bsv bs.length :: L) [v7] (v7) (.tmp rfl .nil) rfl rF rF (jN (sC (sD (sC sR))) (Sub.keep (drawnH.of (t := [(j : Int) - 1]) (⟨goodT.one (by omega) (by omega) (by rw [arity, if_neg (by omega)]; omega), Nat.le_refl _, szT_pos dp⟩)) sR)) ?_)))))))))
     exact ⟨_, ⟨rfl, (jo hv7)⟩, rfl⟩
    refine qz (qb (qg (ii ((j : Int) - 1)) rfl (cX (je (((j : Int) - 1) - 1) rfl rfl (by omega) (by omega) (qh (ii (((j : Int) - 1) - 1)) rfl (qc ?_))))))
    exact ⟨j - 1, _, FLe.refl _, rF, ⟨rfl, (vI (by (try dsimp only); omega)), ⟨⟩⟩, (sC (sC sR)), ⟨rfl, (by (try dsimp only) <;> omega)⟩, (by (try dsimp only); omega)⟩
   refine jg (qv (qv (qM (qd (qb (cX (qs (s := 1) [ii (-1)] [ii (0)] [(0, [ii (-1)])] qf qq qL rfl (by decide) rfl (.cons rfl CellsAre.nil) rfl ?_)))))))
   intro v8 hv8
   refine qh (v8) rfl (qc (qw (ql (qr (L' := drawnH 2 v8 (fun t => goodT ar t ∧ 1 ≤ t.length ∧ t.length ≤ szT dp) :: curH .i64 247 cb bsv bs.length :: L) [v8] (v8) (.tmp rfl .nil) rfl rF rF (jN (sC (sD (sC sR))) (Sub.keep (drawnH.of (t := [-1]) (⟨goodT.var (by omega) (by omega), Nat.le_refl _, szT_pos dp⟩)) sR)) ?_))))
   exact ⟨_, ⟨rfl, (jo hv8)⟩, rfl⟩
  refine qp (t := 21) rfl (vF h9) (qp (t := 21) rfl (vF h9) (cX (qN (.bool (false)) (vF h9) rfl (qc (jO rfl (qz (qd (qd (qb (cX (qk (0) ji rfl qA (by decide) rfl rfl (cX (qj qU rfl (Rd.own [] rfl rfl) (cX (qE qf rfl har.slv (cX (je (((((ar).length) - 1 : Nat) : Int)) rfl rfl (by omega) (by omega) ?_)))))))))))))))))
  refine qh (ii (((((ar).length) - 1 : Nat) : Int))) rfl (qc (qH (jn (α := Nat) (fun j => [(5, ptr b1 0), (9, ii ((j : Int) - 1))]) (fun j => cellsH b1 [arv] 36 :: curH .i64 247 cb bsv bs.length :: L) (fun j F' => F = F' ∧ (j ≤ ar.length)) (fun j => j) ar.length ⟨rfl, (vI (by omega)), ⟨⟩⟩ (sC (sC sR)) ⟨rfl, (Nat.le_refl _)⟩ ?_)))
  rintro j rE _ _ ⟨rfl, hj⟩
  show X _ _ _ _ (envs [(5, ptr b1 0), (9, ii ((j : Int) - 1))] rE) _ (cellsH b1 [arv] 36 :: curH .i64 247 cb bsv bs.length :: L)
  refine qd (qd (qb (qg (ii ((j : Int) - 1)) rfl (cX (jP rfl rfl (qc ?_))))))
  refine qC (p := ((j : Int) - 1 : Int) ≥ 0) rfl (fun h13 => ?_) (fun h13 => ?_)
  ·refine qz (qd (qH (qd (qb (cX (qk (0) ji rfl qA (by decide) rfl rfl (cX (qj qU rfl (Rd.own [] rfl rfl) (qg (ii ((j : Int) - 1)) rfl (cX (qt (((j : Int) - 1).toNat) qf qq rfl rfl (by omega) har.slv (by omega) (Nat.mul_one _) (cX (qj qP rfl (har.rd (by omega)) (cX (ju rfl rfl (qc ?_))))))))))))))))
   refine qC (p := (ar.getD (((j : Int) - 1).toNat) 0 : Int) = 0) rfl (fun h14 => ?_) (fun h14 => ?_)
   ·refine qd (qb (qg (ii ((j : Int) - 1)) rfl (cX (qs (s := 1) [ii ((j : Int) - 1)] [ii (0)] [(0, [ii ((j : Int) - 1)])] qf qq qL rfl (by decide) rfl (.cons rfl CellsAre.nil) rfl ?_))))
    intro v9 hv9
    refine qh (v9) rfl (qc (qw (qD (ql (ql (qD (ql (ql (qr (L' := drawnH 2 v9 (fun t => goodT ar t ∧ 1 ≤ t.length ∧ t.length ≤ szT dp) :: curH .i64 247 cb bsv bs.length :: L) [v9] (v9) (.tmp rfl .nil) rfl rF rF (jN (sC (sD (sC sR))) (Sub.keep (drawnH.of (t := [(j : Int) - 1]) (⟨goodT.one (by omega) (by omega) (by rw [arity, if_neg (by omega)]; omega), Nat.le_refl _, szT_pos dp⟩)) sR)) ?_)))))))))
    exact ⟨_, ⟨rfl, (jo hv9)⟩, rfl⟩
   refine qz (qb (qg (ii ((j : Int) - 1)) rfl (cX (je (((j : Int) - 1) - 1) rfl rfl (by omega) (by omega) (qh (ii (((j : Int) - 1) - 1)) rfl (qc ?_))))))
   exact ⟨j - 1, _, FLe.refl _, rF, ⟨rfl, (vI (by (try dsimp only); omega)), ⟨⟩⟩, (sC (sC sR)), ⟨rfl, (by (try dsimp only) <;> omega)⟩, (by (try dsimp only); omega)⟩
  refine jg (qv (qv (qM (qd (qb (cX (qs (s := 1) [ii (-1)] [ii (0)] [(0, [ii (-1)])] qf qq qL rfl (by decide) rfl (.cons rfl CellsAre.nil) rfl ?_)))))))
  intro v10 hv10
  refine qh (v10) rfl (qc (qw (ql (qr (L' := drawnH 2 v10 (fun t => goodT ar t ∧ 1 ≤ t.length ∧ t.length ≤ szT dp) :: curH .i64 247 cb bsv bs.length :: L) [v10] (v10) (.tmp rfl .nil) rfl rF rF (jN (sC (sD (sC sR))) (Sub.keep (drawnH.of (t := [-1]) (⟨goodT.var (by omega) (by omega), Nat.le_refl _, szT_pos dp⟩)) sR)) ?_))))
  exact ⟨_, ⟨rfl, (jo hv10)⟩, rfl⟩
 refine qz (qd (qb (qg (ptr cb 0) rfl (cX (qk (0) ji rfl qA (by decide) rfl rfl (cX (qj qU rfl (Rd.own [] rfl rfl) (cX (qE qf rfl har.slv (cX (qn (args := [ptr cb 0, ii ((ar.length : Int))]) yb rfl (jq [_] (l1Below_spec (n := (ar.length : Int)) hbs (by omega) (hn := (by first | assumption | rfl | omega | simp)))) ?_)))))))))))
 rintro _ _ _ _ ⟨⟨rfl, x6, rfl, hr3⟩, rfl⟩
 show XL _ _ _ _ _ _ _ (cellsH b1 [arv] 36 :: curH .i64 247 cb bsv bs.length :: L)
 refine qh (ii (x6)) rfl (qc (qd (qb (qg (ii (x6)) rfl (cX (qs (s := 1) [ii (x6)] [ii (0)] [(0, [ii (x6)])] qf qq qL rfl (by decide) rfl (.cons rfl CellsAre.nil) rfl ?_))))))
 intro v11 hv11
 refine qh (v11) rfl (qc (qd (qd (qb ?_))))
 show XL _ _ _ _ _ _ _ (intsH 2 v11 ([x6] : List Int) :: cellsH b1 [arv] 36 :: curH .i64 247 cb bsv bs.length :: L)
 skip
 refine cX (qk (0) ji rfl qA (by decide) rfl rfl (cX (qj qU rfl (Rd.own [_] rfl rfl) (qg (ii (x6)) rfl (cX (qt ((x6).toNat) qf qq rfl rfl (by omega) har.slv (by omega) (Nat.mul_one _) (cX (qj qP rfl (har.rd (by omega)) (qh (ii (ar.getD ((x6).toNat) 0)) rfl ?_)))))))))
 have hfr : 0 ≤ x6 ∧ x6 < (ar.length : Int) := by omega
 have hsp := (sigOk_spec hso).2.2 (x6).toNat (by omega)
 obtain ⟨haK, hKe⟩ : ∃ q : Nat, q = (ar.getD ((x6).toNat) 0).toNat := ⟨_, rfl⟩
 have hK3 : haK ≤ 3 := by omega
 have hKa : arity ar x6 = (haK : Int) := by rw [arity, if_neg (by omega)]; omega
 refine qc (qH (jn (α := Nat × Value × List Int × List Int × FH) (fun xQ => [(0, ptr cb 0), (2, ii (((dp : Nat) : Int))), (3, ii (vs)), (5, ptr b1 0), (11, xQ.2.1), (12, ii (((xQ.1 : Nat) : Int)))]) (fun xQ => intsH 2 xQ.2.1 xQ.2.2.1 :: cellsH b1 [arv] 36 :: curH .i64 247 cb bsv bs.length :: L) (fun xQ F' => xQ.2.2.2.2 = F' ∧ F ≤ xQ.2.2.2.2 ∧ (IsSl xQ.2.1) ∧ (xQ.2.2.1 = x6 :: xQ.2.2.2.1) ∧ (xQ.1 + (haK - xQ.1) = haK ∧ xQ.1 ≤ haK) ∧ (goodN ar xQ.2.2.2.1 (haK - xQ.1)) ∧ (xQ.2.2.2.1.length ≤ (haK - xQ.1) * szT (dp - 1))) (fun xQ => xQ.1) ((ar.getD ((x6).toNat) 0).toNat, v11, [x6], [], F) ⟨rfl, rfl, rfl, rfl, rfl, (vI (by omega)), ⟨⟩⟩ (sC (sC (sC sR))) ⟨rfl, FLe.refl _, ((jo hv11)), (rfl), (by (try dsimp only); omega), (by (try dsimp only); rw [show haK - (ar.getD ((x6).toNat) 0).toNat = 0 from by omega]; exact goodN.nil), (by (try dsimp only); simp)⟩ ?_))
 rintro ⟨n, ov, os, ot, G1⟩ rE _ _ ⟨rfl, leG, hov, hoe, hn3, hgo, hol⟩
 show X _ _ _ _ (envs [(0, ptr cb 0), (2, ii (((dp : Nat) : Int))), (3, ii (vs)), (5, ptr b1 0), (11, ov), (12, ii ((n : Int)))] rE) _ (intsH 2 ov os :: cellsH b1 [arv] 36 :: curH .i64 247 cb bsv bs.length :: L)
 replace leG : F ≤ G1 := leG
 dsimp only at hov hoe hn3 hgo hol
 have hm9 : (haK - n) * szT (dp - 1) ≤ 3 * szT (dp - 1) := Nat.mul_le_mul_right _ (by omega)
 have hool : os.length = ot.length + 1 := by rw [hoe]; rfl
 have leG1 := leG
 replace hbs := hbs.mono leG1
 replace har := har.mono leG1
 refine qd (qd (qb (qg (ii ((n : Int))) rfl (cX (jG rfl rfl (qc ?_))))))
 refine qC (p := (n : Int) > 0) rfl (fun h15 => ?_) (fun h15 => ?_)
 ·refine qz (qd (qH (qb (qg (ov) rfl (qg (ptr cb 0) rfl (cX (qu [arv] jf qJ rfl rfl (Rd.ownN [_] rfl rfl) (qg (ii (((dp : Nat) : Int))) rfl (cX (je (((dp - 1 : Nat) : Int)) rfl rfl (by omega) (by omega) (qg (ii (vs)) rfl (cX (qn (args := [ptr cb 0, .agg #[arv], ii ((dp - 1 : Nat) : Int), ii (vs)]) call252 rfl (Does.atO [_, _] (ih (dp - 1) (by omega) (vs := vs) hbs (by omega) har (hso := (by first | assumption | rfl | omega | simp)) (hdp := (by first | assumption | rfl | omega | simp)) (hvs := (by first | assumption | rfl | omega | simp)))) ?_)))))))))))))
  rintro _ F7 _ le7 ⟨x8, ⟨rfl, hsl1⟩, rfl⟩
  show XL _ _ _ _ _ _ _ (drawnH 2 x8 (fun t => goodT ar t ∧ 1 ≤ t.length ∧ t.length ≤ szT (dp - 1)) :: intsH 2 ov os :: cellsH b1 [arv] 36 :: curH .i64 247 cb bsv bs.length :: L)
  refine XL.undraw [] rfl (fun t1 hq9 => ?_)
  obtain ⟨q1, q2, q3⟩ := hq9
  show XL _ _ _ _ _ _ _ (intsH 2 x8 t1 :: intsH 2 ov os :: cellsH b1 [arv] 36 :: curH .i64 247 cb bsv bs.length :: L)
  refine ja [] _ _ rfl (fun F8 le8 hz1 => ?_)
  have hf1 : IntsF F8 x8 t1 := intsH.fz (xs := t1) hz1.fz
  refine cX (yd [] _ qf typeInfo2 rfl rfl rfl rfl rfl rfl hf1 (by (try simp only [List.length_append, List.length_nil, List.length_cons, List.length_singleton, List.length_take, List.length_drop]); omega) ?_)
  intro v12 hs1 hn1 hm1
  refine qh (v12) rfl (qc (qb (qg (ii ((n : Int))) rfl (cX (je (((n - 1 : Nat) : Int)) rfl rfl (by omega) (by omega) (qh (ii (((n - 1 : Nat) : Int))) rfl (qc ?_)))))))
  exact ⟨(n - 1, v12, os ++ t1, (ot ++ t1), F8), _, (qa (qa leG1 le7) le8), rF, ⟨rfl, rfl, rfl, rfl, rfl, rfl, ⟨⟩⟩, (sC (sC (sC sR))), ⟨rfl, (qa (qa leG1 le7) le8), (hs1), (by (try dsimp only); rw [hoe] <;> rfl), (by (try dsimp only); omega), (by (try dsimp only); rw [show haK - (n - 1) = haK - n + 1 from by omega]; exact hgo.snoc q1), (by (try dsimp only); rw [show haK - (n - 1) = haK - n + 1 from by omega, Nat.succ_mul, List.length_append]; omega)⟩, (by (try dsimp only); omega)⟩
 refine jg (qv (qv (qM (qd (qb (qg (ov) rfl (qh (ov) rfl (qc (qw (qr (L' := drawnH 2 ov (fun t => goodT ar t ∧ 1 ≤ t.length ∧ t.length ≤ szT dp) :: curH .i64 247 cb bsv bs.length :: L) [ov] (ov) (.tmp rfl .nil) rfl leG1 rF (jN (sC (sD (sC sR))) (Sub.keep (drawnH.of (t := os) ((show goodT ar os ∧ 1 ≤ os.length ∧ os.length ≤ szT dp from ⟨by rw [hoe]; exact goodT.node hfr.1 (by omega) hKa (by have h9 := hgo; rwa [show haK - n = haK from by omega] at h9), by omega, by have h9 := szT_next (d := dp) (by omega); omega⟩))) sR)) ?_))))))))))
 exact ⟨_, ⟨rfl, hov⟩, rfl⟩

theorem l1DrawTerm_spec (dp : Nat) : ∀ {F : FH} {L : List HP} {cb : Nat} {bsv : Value} {bs : List Int} (hbs : BytesF F bsv bs) (hbl : bs.length ≤ 4000000) {arv : Value} {ar : List Int} (har : IntsF F arv ar) {vs : Int} (hso : sigOk ar = true) (hdp : dp ≤ 5) (hvs : 0 ≤ vs ∧ vs ≤ 24), Does prog 252 [ptr cb 0, .agg #[arv], ii (((dp : Nat) : Int)), ii (vs)] F (curH .i64 247 cb bsv bs.length :: L) (fun v F' L' => ∃ a : Value, ((a : Value) = v ∧ IsSl a) ∧ drawnH 2 a (fun t => goodT ar t ∧ 1 ≤ t.length ∧ t.length ≤ szT dp) :: curH .i64 247 cb bsv bs.length :: L = L') := by
  induction dp using Nat.strongRecOn with
  | _ dp ih =>
    intros
    exact l1DrawTerm_spec_step ih (by assumption) (by assumption) (by assumption) (by assumption) (by assumption) (by assumption)

/- spec.l1DrawAny -/
set_option maxHeartbeats 1000000 in
theorem l1DrawAny_spec {F : FH} {L : List HP} {cb : Nat} {bsv : Value} {bs : List Int} (hbs : BytesF F bsv bs) (hbl : bs.length ≤ 4000000) {arv : Value} {ar : List Int} (har : IntsF F arv ar) (hal : ar.length ≤ 4000000) :
    Does prog 251 [ptr cb 0, .agg #[arv]] F (curH .i64 247 cb bsv bs.length :: L) (fun v F' L' => (∃ (a : Value), (a : Value) = v ∧ (SomesF F' a (fun u => u.length ≤ 2000))) ∧ curH .i64 247 cb bsv bs.length :: L = L') := by
 refine qG func251 rfl rfl rfl (qd (qb (cX (jb [arv] rfl rfl ?_))))
 intro b1
 refine qh (sN) rfl (qc (qd (qd (qb (cX (qk (0) ji rfl qA (by decide) rfl rfl (cX (qj qU rfl (Rd.own [] rfl rfl) (cX (qE qf rfl har.slv (cX (ju rfl rfl (qg (.bool (decide (((ar.length : Int) : Int) = 0))) rfl ?_)))))))))))))
 by_cases h1 : ((ar.length : Int) : Int) = 0
 ·refine qp (t := 10) rfl (vT h1) (qp (t := 10) rfl (vT h1) (qp (t := 10) rfl (vT h1) (cX (qO (.bool (true)) (vT h1) rfl (qc (jA rfl (qd (qb (qg (ptr cb 0) rfl (cX (qn (args := [ptr cb 0, ii (-2), ii (2)]) call201 rfl (jq [_] (l1From_spec (lo := -2) (hi := 2) hbs (by omega) (hlo := (by first | assumption | rfl | omega | simp)))) ?_)))))))))))
  rintro _ _ _ _ ⟨⟨rfl, x1, rfl, hr1⟩, rfl⟩
  show XL _ _ _ _ _ _ _ (cellsH b1 [arv] 36 :: curH .i64 247 cb bsv bs.length :: L)
  refine cX (qs (s := 1) [ii (x1)] [ii (0)] [(0, [ii (x1)])] qf qq qL rfl (by decide) rfl (.cons rfl CellsAre.nil) rfl ?_)
  intro v1 hv1
  refine qh (v1) rfl (qc ?_)
  show X _ _ _ _ _ _ (intsH 2 v1 ([x1] : List Int) :: cellsH b1 [arv] 36 :: curH .i64 247 cb bsv bs.length :: L)
  refine qY [] _ _ rfl (fun F2 le2 hz1 => ?_)
  replace hbs := hbs.mono le2
  replace har := har.mono le2
  have hf1 : IntsF F2 v1 ([x1]) := intsH.fz (xs := [x1]) hz1.fz
  refine qw (ql (qr (L' := curH .i64 247 cb bsv bs.length :: L) [v1] (v1) (.tmp rfl .nil) rfl le2 rF (sD (sC sR)) ?_))
  exact ⟨⟨_, rfl, ⟨_, hf1, by (try simp only [List.length_append, List.length_cons, List.length_nil, List.length_set, List.length_take, List.length_drop]); omega⟩⟩, rfl⟩
 refine qo (t := 10) rfl (vF h1) (qu [arv] jf qJ rfl rfl (Rd.ownN [] rfl rfl) (qo (t := 10) rfl (vF h1) (qn (args := [.agg #[arv]]) call120 rfl (sSigOk_spec har (hla := (by first | assumption | rfl | omega | simp))) ?_)))
 rintro _ _ _ _ ⟨rfl, rfl, rfl⟩
 refine qo (t := 10) rfl (vF h1) (jt rfl (cX (qN (.bool (!(sigOk ar))) (vF h1) rfl (qc ?_))))
 refine jF (t := !(sigOk ar)) rfl (fun h2 => ?_) (fun h2 => ?_)
 ·refine qd (qb (qg (ptr cb 0) rfl (cX (qn (args := [ptr cb 0, ii (-2), ii (2)]) call201 rfl (jq [_] (l1From_spec (lo := -2) (hi := 2) hbs (by omega) (hlo := (by first | assumption | rfl | omega | simp)))) ?_))))
  rintro _ _ _ _ ⟨⟨rfl, x2, rfl, hr2⟩, rfl⟩
  show XL _ _ _ _ _ _ _ (cellsH b1 [arv] 36 :: curH .i64 247 cb bsv bs.length :: L)
  refine cX (qs (s := 1) [ii (x2)] [ii (0)] [(0, [ii (x2)])] qf qq qL rfl (by decide) rfl (.cons rfl CellsAre.nil) rfl ?_)
  intro v2 hv2
  refine qh (v2) rfl (qc ?_)
  show X _ _ _ _ _ _ (intsH 2 v2 ([x2] : List Int) :: cellsH b1 [arv] 36 :: curH .i64 247 cb bsv bs.length :: L)
  refine qY [] _ _ rfl (fun F4 le4 hz2 => ?_)
  replace hbs := hbs.mono le4
  replace har := har.mono le4
  have hf2 : IntsF F4 v2 ([x2]) := intsH.fz (xs := [x2]) hz2.fz
  refine qw (ql (qr (L' := curH .i64 247 cb bsv bs.length :: L) [v2] (v2) (.tmp rfl .nil) rfl le4 rF (sD (sC sR)) ?_))
  exact ⟨⟨_, rfl, ⟨_, hf2, by (try simp only [List.length_append, List.length_cons, List.length_nil, List.length_set, List.length_take, List.length_drop]); omega⟩⟩, rfl⟩
 have hso : sigOk ar = true := by simpa using h2
 refine qz (qd ?_)
 refine jM [cellsH b1 [arv] 36, curH .i64 247 cb bsv bs.length] L 5 [[], [], [], [], [3]] [[], [], [], [2], [3]] [] (phiG [pe (ptr cb 0), pe (.agg #[arv]), pe (ptr cb 0), fun FF us v => (ii (((intAt v))) : Value) = v ∧ (0 ≤ ((intAt v)) ∧ (((intAt v)) < 4 ∨ ((intAt v)) = 0)), fun FF us v => v = (ii (1 + (((intAt (us.getD 0 undef))))) : Value)]) (ownL []) mixed rfl rfl (by kernel_rfl) (by kernel_rfl) (MonoG.get (m1 (m1 (m1 (mC (fun le h => ⟨h.1, h.2⟩) (mC (fun le h => h) MonoG.nil)))))) ?_ ?_
 ·refine gD (fun W Fs R lF z9 => ?_) ?_
  ·refine qi (qm (ptr cb 0) rfl ?_)
   exact ⟨rfl, rfl⟩
  refine gD (fun W Fs R lF z9 => ?_) ?_
  ·replace hbs := hbs.mono lF
   replace har := har.mono lF
   refine qi (qu [arv] jf qJ rfl rfl (Rd.ownN [] rfl rfl) ?_)
   exact ⟨rfl, rfl⟩
  refine gD (fun W Fs R lF z9 => ?_) ?_
  ·refine qi (qm (ptr cb 0) rfl ?_)
   exact ⟨rfl, rfl⟩
  refine gD (fun W Fs R lF z9 => ?_) ?_
  ·replace hbs := hbs.mono lF
   replace har := har.mono lF
   rw [zA 2 (z9 2 rfl)]
   refine qi (qn (args := [ptr cb 0, ii (4)]) yb rfl (jq [_] (l1Below_spec (n := 4) hbs (by omega) (hn := (by first | assumption | rfl | omega | simp)))) ?_)
   rintro _ _ _ _ ⟨⟨rfl, x4, rfl, hr4⟩, rfl⟩
   exact ⟨⟨rfl, hr4⟩, rfl⟩
  refine gD (fun W Fs R lF z9 => ?_) ?_
  ·obtain ⟨e3, f3_1hx⟩ := z9 3 rfl
   rw [eS (l := [(3, (ii (((intAt (W 3))))))]) ⟨(e3).symm, ⟨⟩⟩]
   refine qi (qK (1 + (((intAt (W 3))))) rfl rfl (by omega) (by omega) ?_)
   exact ⟨rfl, rfl⟩
  exact stepsG.nil
 intro W F7 le7 hphi
 obtain ⟨e3, f3_1hx⟩ := hphi 3 (by decide)
 have e4 : W 4 = (ii (1 + (((intAt (W 3))))) : Value) := hphi 4 (by decide)
 generalize hu1 : (intAt (W 3)) = u1 at e3 f3_1hx e4
 rw [eS (l := [(0, _), (1, _), (3, (ii ((u1)))), (4, (ii (1 + ((u1)))))]) ⟨(hphi 0 (by decide)), (hphi 1 (by decide)), (e3).symm, e4, ⟨⟩⟩]
 replace hbs := hbs.mono le7
 replace har := har.mono le7
 show XL _ _ _ _ _ _ _ (cellsH b1 [arv] 36 :: curH .i64 247 cb bsv bs.length :: L)
 refine cX (qn (args := [ptr cb 0, .agg #[arv], ii (((1 + ((u1))).toNat : Nat) : Int), ii (3)]) call252 (by rw [show (((1 + ((u1))).toNat : Nat) : Int) = 1 + ((u1)) from by omega]; rfl) (Does.atO [_] (l1DrawTerm_spec ((1 + ((u1))).toNat) (vs := 3) hbs (by omega) har (hso := (by first | assumption | rfl | omega | simp)) (hdp := (by first | assumption | rfl | omega | simp)) (hvs := (by first | assumption | rfl | omega | simp)))) ?_)
 rintro _ F8 _ le8 ⟨x6, ⟨rfl, hsl1⟩, rfl⟩
 replace hbs := hbs.mono le8
 show XL _ _ _ _ _ _ _ (drawnH 2 x6 (fun t => goodT ar t ∧ 1 ≤ t.length ∧ t.length ≤ szT ((1 + ((u1))).toNat)) :: cellsH b1 [arv] 36 :: curH .i64 247 cb bsv bs.length :: L)
 refine XL.undraw [] rfl (fun t1 hq9 => ?_)
 obtain ⟨q1, q2, q3⟩ := hq9
 show XL _ _ _ _ _ _ _ (intsH 2 x6 t1 :: cellsH b1 [arv] 36 :: curH .i64 247 cb bsv bs.length :: L)
 have hz9 := szT_le (d := (1 + ((u1))).toNat) (e := 4) (by omega)
 have hz8 : szT 4 = 121 := rfl
 refine qh (x6) rfl (qc (qd (qd (qb (qg (ptr cb 0) rfl (cX (qn (args := [ptr cb 0, ii (12)]) call102 rfl (jq [_, _] (l1Once_spec (n := 12) hbs (by omega) (hn := (by first | assumption | rfl | omega | simp)))) ?_)))))))
 rintro _ _ _ _ ⟨⟨rfl, x7, rfl⟩, rfl⟩
 show XL _ _ _ _ _ _ _ (intsH 2 x6 t1 :: cellsH b1 [arv] 36 :: curH .i64 247 cb bsv bs.length :: L)
 refine qc ?_
 refine jF (t := x7) rfl (fun h3 => ?_) (fun h3 => ?_)
 ·refine qd (qb (qg (ptr cb 0) rfl (cX (qn (args := [ptr cb 0, ii (4)]) yb rfl (jq [_, _] (l1Below_spec (n := 4) hbs (by omega) (hn := (by first | assumption | rfl | omega | simp)))) ?_))))
  rintro _ _ _ _ ⟨⟨rfl, x8, rfl, hr5⟩, rfl⟩
  show XL _ _ _ _ _ _ _ (intsH 2 x6 t1 :: cellsH b1 [arv] 36 :: curH .i64 247 cb bsv bs.length :: L)
  refine qc (qH (qd (qb (cX (ju rfl rfl (qh (.bool (decide ((x8 : Int) = 0))) rfl (qc ?_)))))))
  refine qC (p := (x8 : Int) = 0) rfl (fun h4 => ?_) (fun h4 => ?_)
  ·refine qb (qg (x6) rfl (qg (ptr cb 0) rfl (cX (qn (args := [ptr cb 0, ii (-2), ii (3)]) call201 rfl (jq [_, _] (l1From_spec (lo := -2) (hi := 3) hbs (by omega) (hlo := (by first | assumption | rfl | omega | simp)))) ?_))))
   rintro _ _ _ _ ⟨⟨rfl, x9, rfl, hr6⟩, rfl⟩
   show XL _ _ _ _ _ _ _ (intsH 2 x6 t1 :: cellsH b1 [arv] 36 :: curH .i64 247 cb bsv bs.length :: L)
   refine cX (qs (s := 1) [ii (x9)] [ii (0)] [(0, [ii (x9)])] qf qq qL rfl (by decide) rfl (.cons rfl CellsAre.nil) rfl ?_)
   intro v3 hv3
   refine cX (jX (u := x9) [_] _ qf typeInfo2 rfl rfl rfl rfl rfl rfl (SlV.own [] rfl) (Rd.sl [] rfl rfl) (by (try simp only [List.length_append, List.length_nil, List.length_cons, List.length_singleton, List.length_take, List.length_drop]); omega) ?_)
   intro v4 hs1 hn1
   refine qh (v4) rfl (qc (qd (qb (qg (v4) rfl (qh (v4) rfl (qc (qY [_] _ _ rfl (fun F12 le12 hz3 => ?_))))))))
   replace hbs := hbs.mono le12
   have hf3 : IntsF F12 v4 (t1 ++ [x9]) := intsH.fz (xs := t1 ++ [x9]) hz3.fz
   refine qw (qr (L' := curH .i64 247 cb bsv bs.length :: L) [v4] (v4) (.tmp rfl .nil) rfl (qa (qa le7 le8) le12) rF (sD (sD (sC sR))) ?_)
   exact ⟨⟨_, rfl, ⟨_, hf3, by (try simp only [List.length_append, List.length_cons, List.length_nil, List.length_set, List.length_take, List.length_drop]); omega⟩⟩, rfl⟩
  refine qd (qb (cX (ju rfl rfl (qh (.bool (decide ((x8 : Int) = 1))) rfl (qc ?_)))))
  refine qC (p := (x8 : Int) = 1) rfl (fun h5 => ?_) (fun h5 => ?_)
  ·refine qb (qg (x6) rfl (qg (ptr cb 0) rfl (qg (x6) rfl (cX (qE qf rfl (intsH.slv [] rfl) (cX (qn (args := [ptr cb 0, ii ((t1.length : Int))]) yb rfl (jq [_, _] (l1Below_spec (n := (t1.length : Int)) hbs (by omega) (hn := (by first | assumption | rfl | omega | simp)))) ?_)))))))
   rintro _ _ _ _ ⟨⟨rfl, x10, rfl, hr7⟩, rfl⟩
   show XL _ _ _ _ _ _ _ (intsH 2 x6 t1 :: cellsH b1 [arv] 36 :: curH .i64 247 cb bsv bs.length :: L)
   refine qg (ptr cb 0) rfl (cX (qn (args := [ptr cb 0, ii (-3), ii (4)]) call201 rfl (jq [_, _] (l1From_spec (lo := -3) (hi := 4) hbs (by omega) (hlo := (by first | assumption | rfl | omega | simp)))) ?_))
   rintro _ _ _ _ ⟨⟨rfl, x11, rfl, hr8⟩, rfl⟩
   show XL _ _ _ _ _ _ _ (intsH 2 x6 t1 :: cellsH b1 [arv] 36 :: curH .i64 247 cb bsv bs.length :: L)
   refine cX (qt ((x10).toNat) qf qq rfl rfl (by omega) (intsH.slv [] rfl) (by omega) (Nat.mul_one _) (cX (intsH.storeX (i := (x10).toNat) (v := x6) [] _ (t1.set ((x10).toNat) x11) qq rfl rfl rfl (by omega) rfl (qc (qd (qb (qg (x6) rfl (qh (x6) rfl (qc (qY [] _ _ rfl (fun F15 le15 hz4 => ?_)))))))))))
   replace hbs := hbs.mono le15
   have hf4 : IntsF F15 x6 ((t1.set ((x10).toNat) x11)) := intsH.fz (xs := (t1.set ((x10).toNat) x11)) hz4.fz
   refine qw (qr (L' := curH .i64 247 cb bsv bs.length :: L) [x6] (x6) (.tmp rfl .nil) rfl (qa (qa le7 le8) le15) rF (sD (sC sR)) ?_)
   exact ⟨⟨_, rfl, ⟨_, hf4, by (try simp only [List.length_append, List.length_cons, List.length_nil, List.length_set, List.length_take, List.length_drop]); omega⟩⟩, rfl⟩
  refine qd (qb (cX (ju rfl rfl (qh (.bool (decide ((x8 : Int) = 2))) rfl (qc ?_)))))
  refine qC (p := (x8 : Int) = 2) rfl (fun h6 => ?_) (fun h6 => ?_)
  ·refine qb (ja [] _ _ rfl (fun F16 le16 hz5 => ?_))
   replace hbs := hbs.mono le16
   have hf5 : IntsF F16 x6 t1 := intsH.fz (xs := t1) hz5.fz
   skip
   refine qg (x6) rfl (cX (jV 1 ((t1).length) qf qq rfl hf5 ⟨_, rfl⟩ rfl (by omega) (by omega) ?_))
   intro v5 hv4 hn2
   refine qh (v5) rfl (qc (qd (qb (qg (v5) rfl (qh (v5) rfl (qc (qw (qr (L' := curH .i64 247 cb bsv bs.length :: L) [v5] (v5) (.tmp rfl .nil) rfl (qa (qa le7 le8) le16) rF (sD (sC sR)) ?_))))))))
   exact ⟨⟨_, rfl, ⟨_, hv4, by (try simp only [List.length_append, List.length_cons, List.length_nil, List.length_set, List.length_take, List.length_drop]); omega⟩⟩, rfl⟩
  refine qd (qb (cX (ju rfl rfl (qh (.bool (decide ((x8 : Int) = 3))) rfl (qc ?_)))))
  refine qC (p := (x8 : Int) = 3) rfl (fun h7 => ?_) (fun h7 => ?_)
  ·refine qb (qg (x6) rfl (qg (ptr cb 0) rfl (cX (qn (args := [ptr cb 0]) call295 rfl (jq [_, _] (l1Odd_spec hbs (by omega))) ?_))))
   rintro _ _ _ _ ⟨⟨rfl, x12, rfl⟩, rfl⟩
   show XL _ _ _ _ _ _ _ (intsH 2 x6 t1 :: cellsH b1 [arv] 36 :: curH .i64 247 cb bsv bs.length :: L)
   refine cX (qs (s := 1) [ii (x12)] [ii (0)] [(0, [ii (x12)])] qf qq qL rfl (by decide) rfl (.cons rfl CellsAre.nil) rfl ?_)
   intro v6 hv5
   refine cX (jX (u := x12) [_] _ qf typeInfo2 rfl rfl rfl rfl rfl rfl (SlV.own [] rfl) (Rd.sl [] rfl rfl) (by (try simp only [List.length_append, List.length_nil, List.length_cons, List.length_singleton, List.length_take, List.length_drop]); omega) ?_)
   intro v7 hs2 hn3
   refine qh (v7) rfl (qc (qd (qb (qg (v7) rfl (qh (v7) rfl (qc (qY [_] _ _ rfl (fun F18 le18 hz6 => ?_))))))))
   have hf6 : IntsF F18 v7 (t1 ++ [x12]) := intsH.fz (xs := t1 ++ [x12]) hz6.fz
   refine qw (qr (L' := curH .i64 247 cb bsv bs.length :: L) [v7] (v7) (.tmp rfl .nil) rfl (qa (qa le7 le8) le18) rF (sD (sD (sC sR))) ?_)
   exact ⟨⟨_, rfl, ⟨_, hf6, by (try simp only [List.length_append, List.length_cons, List.length_nil, List.length_set, List.length_take, List.length_drop]); omega⟩⟩, rfl⟩
  refine qz (qd (qb (qg (x6) rfl (qh (x6) rfl (qc (qY [] _ _ rfl (fun F19 le19 hz7 => ?_)))))))
  have hf7 : IntsF F19 x6 t1 := intsH.fz (xs := t1) hz7.fz
  refine qw (qr (L' := curH .i64 247 cb bsv bs.length :: L) [x6] (x6) (.tmp rfl .nil) rfl (qa (qa le7 le8) le19) rF (sD (sC sR)) ?_)
  exact ⟨⟨_, rfl, ⟨_, hf7, by (try simp only [List.length_append, List.length_cons, List.length_nil, List.length_set, List.length_take, List.length_drop]); omega⟩⟩, rfl⟩
 refine qz (qd (qb (qg (x6) rfl (qh (x6) rfl (qc (qY [] _ _ rfl (fun F20 le20 hz8 => ?_)))))))
 have hf8 : IntsF F20 x6 t1 := intsH.fz (xs := t1) hz8.fz
 refine qw (qr (L' := curH .i64 247 cb bsv bs.length :: L) [x6] (x6) (.tmp rfl .nil) rfl (qa (qa le7 le8) le20) rF (sD (sC sR)) ?_)
 exact ⟨⟨_, rfl, ⟨_, hf8, by (try simp only [List.length_append, List.length_cons, List.length_nil, List.length_set, List.length_take, List.length_drop]); omega⟩⟩, rfl⟩

/- spec.l2Order -/

/- spec.l1Min -/
theorem l1Min_spec {F : FH} {L : List HP} {a : Int} {b : Int} :
    Does prog 296 [ii (a), ii (b)] F (L) (fun v F' L' => (ii (min a b) : Value) = v ∧ F = F' ∧ L = L') := by
 refine qG func296 rfl rfl rfl (qd (qb (qh (ii (0)) rfl (qc (qd (qd (qb (qg (ii (a)) rfl (qg (ii (b)) rfl (cX (qQ rfl rfl (qc ?_))))))))))))
 refine qC (p := (a : Int) < b) rfl (fun h1 => ?_) (fun h1 => ?_)
 ·refine qd (qb (qg (ii (a)) rfl (qh (ii (a)) rfl (qc (qw (ql (qr (L' := L) [ii (a)] (ii (a)) (.tmp rfl .nil) rfl rF rF sR ?_)))))))
  exact ⟨(vI (by omega)), rfl, rfl⟩
 refine qz (qd (qb (qg (ii (b)) rfl (qh (ii (b)) rfl (qc (qw (qr (L' := L) [ii (b)] (ii (b)) (.tmp rfl .nil) rfl rF rF sR ?_)))))))
 exact ⟨(vI (by omega)), rfl, rfl⟩

/- spec.l1Num -/
theorem l1Num_spec {F : FH} {L : List HP} {cb : Nat} {bsv : Value} {bs : List Int} (hbs : BytesF F bsv bs) (hbl : bs.length ≤ 4000000) {m : Int} (hm : 0 ≤ m ∧ m ≤ 1000) :
    Does prog 203 [ptr cb 0, ii (m)] F (curH .i64 247 cb bsv bs.length :: L) (fun v F' L' => (F = F' ∧ ∃ (x : Int), (ii (x) : Value) = v) ∧ curH .i64 247 cb bsv bs.length :: L = L') := by
 refine qG func203 rfl rfl rfl (qd (qb (qh (ii (0)) rfl (qc (qd (qd (qb (qg (ptr cb 0) rfl (cX (qn (args := [ptr cb 0, ii (10)]) call102 rfl (jq [] (l1Once_spec (n := 10) hbs (by omega) (hn := (by first | assumption | rfl | omega | simp)))) ?_))))))))))
 rintro _ _ _ _ ⟨⟨rfl, x1, rfl⟩, rfl⟩
 show XL _ _ _ _ _ _ _ (curH .i64 247 cb bsv bs.length :: L)
 refine qc ?_
 refine jF (t := x1) rfl (fun h1 => ?_) (fun h1 => ?_)
 ·refine qd (qb (qg (ii (m)) rfl (qg (ii (m)) rfl (cX (qK (m + 1) rfl rfl (by omega) (by omega) (qg (ptr cb 0) rfl (cX (qn (args := [ptr cb 0]) call295 rfl (jq [] (l1Odd_spec hbs (by omega))) ?_))))))))
  rintro _ _ _ _ ⟨⟨rfl, x2, rfl⟩, rfl⟩
  show XL _ _ _ _ _ _ _ (curH .i64 247 cb bsv bs.length :: L)
  refine cX (qs (s := 1) [ii (-1), ii (m), ii (m + 1), ii (x2)] [ii (0)] [(0, [ii (-1)]), (1, [ii (m)]), (2, [ii (m + 1)]), (3, [ii (x2)])] qf qq qL rfl (by decide) rfl (.cons rfl (.cons rfl (.cons rfl (.cons rfl CellsAre.nil)))) rfl ?_)
  intro v1 hv1
  show XL _ _ _ _ _ _ _ (intsH 2 v1 ([-1, m, m + 1, x2] : List Int) :: curH .i64 247 cb bsv bs.length :: L)
  have hl4 : ([-1, m, m + 1, x2] : List Int).length = 4 := rfl
  refine qg (ptr cb 0) rfl (cX (qn (args := [ptr cb 0, ii (4)]) yb rfl (jq [_] (l1Below_spec (n := 4) hbs (by omega) (hn := (by first | assumption | rfl | omega | simp)))) ?_))
  rintro _ _ _ _ ⟨⟨rfl, x3, rfl, hr1⟩, rfl⟩
  show XL _ _ _ _ _ _ _ (intsH 2 v1 ([-1, m, m + 1, x2] : List Int) :: curH .i64 247 cb bsv bs.length :: L)
  refine cX (qt ((x3).toNat) qf qq rfl rfl (by omega) (intsH.slv [] rfl) (by omega) (Nat.mul_one _) (cX (qj qP rfl (intsH.rd [] rfl (by omega)) (qh (ii (([-1, m, m + 1, x2]).getD ((x3).toNat) 0)) rfl (qc (qw (ql (qr (L' := curH .i64 247 cb bsv bs.length :: L) [ii (([-1, m, m + 1, x2]).getD ((x3).toNat) 0)] (ii (([-1, m, m + 1, x2]).getD ((x3).toNat) 0)) (.tmp rfl .nil) rfl rF rF (sD (sC sR)) ?_))))))))
  exact ⟨⟨rfl, _, rfl⟩, rfl⟩
 refine qz (qd (qd (qb (qg (ptr cb 0) rfl (cX (qn (args := [ptr cb 0, ii (2)]) call102 rfl (jq [] (l1Once_spec (n := 2) hbs (by omega) (hn := (by first | assumption | rfl | omega | simp)))) ?_))))))
 rintro _ _ _ _ ⟨⟨rfl, x4, rfl⟩, rfl⟩
 show XL _ _ _ _ _ _ _ (curH .i64 247 cb bsv bs.length :: L)
 refine qc ?_
 refine jF (t := x4) rfl (fun h2 => ?_) (fun h2 => ?_)
 ·refine qd (qb (qg (ptr cb 0) rfl (qg (ii (m)) rfl (cX (qn (args := [ii (m), ii (4)]) call296 rfl (l1Min_spec (a := m) (b := 4)) ?_)))))
  rintro _ _ _ _ ⟨rfl, rfl, rfl⟩
  refine cX (qK ((min m 4) + 1) rfl rfl (by omega) (by omega) (cX (qn (args := [ptr cb 0, ii ((min m 4) + 1)]) yb rfl (jq [] (l1Below_spec (n := (min m 4) + 1) hbs (by omega) (hn := (by first | assumption | rfl | omega | simp)))) ?_)))
  rintro _ _ _ _ ⟨⟨rfl, x5, rfl, hr2⟩, rfl⟩
  show XL _ _ _ _ _ _ _ (curH .i64 247 cb bsv bs.length :: L)
  refine qh (ii (x5)) rfl (qc (qw (ql (qr (L' := curH .i64 247 cb bsv bs.length :: L) [ii (x5)] (ii (x5)) (.tmp rfl .nil) rfl rF rF (sC sR) ?_))))
  exact ⟨⟨rfl, _, rfl⟩, rfl⟩
 refine qz (qd (qb (qg (ptr cb 0) rfl (qg (ii (m)) rfl (cX (qK (m + 1) rfl rfl (by omega) (by omega) (cX (qn (args := [ptr cb 0, ii (m + 1)]) yb rfl (jq [] (l1Below_spec (n := m + 1) hbs (by omega) (hn := (by first | assumption | rfl | omega | simp)))) ?_))))))))
 rintro _ _ _ _ ⟨⟨rfl, x6, rfl, hr3⟩, rfl⟩
 show XL _ _ _ _ _ _ _ (curH .i64 247 cb bsv bs.length :: L)
 refine qh (ii (x6)) rfl (qc (qw (qr (L' := curH .i64 247 cb bsv bs.length :: L) [ii (x6)] (ii (x6)) (.tmp rfl .nil) rfl rF rF (sC sR) ?_)))
 exact ⟨⟨rfl, _, rfl⟩, rfl⟩

/- spec.l8DrawFuel -/
theorem l8DrawFuel_spec {F : FH} {L : List HP} {cb : Nat} {bsv : Value} {bs : List Int} (hbs : BytesF F bsv bs) (hbl : bs.length ≤ 4000000) :
    Does prog 139 [ptr cb 0] F (curH .i64 247 cb bsv bs.length :: L) (fun v F' L' => (F = F' ∧ ∃ (x : Int), (ii (x) : Value) = v) ∧ curH .i64 247 cb bsv bs.length :: L = L') := by
 refine qG func139 rfl rfl rfl (qd (qb (qh (ii (0)) rfl (qc (qd (qd (qb (qg (ptr cb 0) rfl (cX (qn (args := [ptr cb 0, ii (8)]) call102 rfl (jq [] (l1Once_spec (n := 8) hbs (by omega) (hn := (by first | assumption | rfl | omega | simp)))) ?_))))))))))
 rintro _ _ _ _ ⟨⟨rfl, x1, rfl⟩, rfl⟩
 show XL _ _ _ _ _ _ _ (curH .i64 247 cb bsv bs.length :: L)
 refine qc ?_
 refine jF (t := x1) rfl (fun h1 => ?_) (fun h1 => ?_)
 ·refine qd (qb (qg (ptr cb 0) rfl (cX (qn (args := [ptr cb 0, ii (60)]) call203 rfl (jq [] (l1Num_spec (m := 60) hbs (by omega) (hm := (by first | assumption | rfl | omega | simp)))) ?_))))
  rintro _ _ _ _ ⟨⟨rfl, x2, rfl⟩, rfl⟩
  show XL _ _ _ _ _ _ _ (curH .i64 247 cb bsv bs.length :: L)
  refine qh (ii (x2)) rfl (qc (qw (ql (qr (L' := curH .i64 247 cb bsv bs.length :: L) [ii (x2)] (ii (x2)) (.tmp rfl .nil) rfl rF rF (sC sR) ?_))))
  exact ⟨⟨rfl, _, rfl⟩, rfl⟩
 refine qz (qd (qb (qg (ptr cb 0) rfl (cX (qn (args := [ptr cb 0, ii (12)]) yb rfl (jq [] (l1Below_spec (n := 12) hbs (by omega) (hn := (by first | assumption | rfl | omega | simp)))) ?_)))))
 rintro _ _ _ _ ⟨⟨rfl, x3, rfl, hr1⟩, rfl⟩
 show XL _ _ _ _ _ _ _ (curH .i64 247 cb bsv bs.length :: L)
 refine qh (ii (x3)) rfl (qc (qw (qr (L' := curH .i64 247 cb bsv bs.length :: L) [ii (x3)] (ii (x3)) (.tmp rfl .nil) rfl rF rF (sC sR) ?_)))
 exact ⟨⟨rfl, _, rfl⟩, rfl⟩

/- spec.l7Redexes -/
theorem l7Redexes_spec {F : FH} {L : List HP} {arv : Value} {ar : List Int} (har : IntsF F arv ar) {rsv : Value} {rs : List (List Int × List Int)} (hrs : PairsF F rsv rs) {tv : Value} {t : List Int} (ht : IntsF F tv t) (hsys : sysOk ar rs = true) (ho : termOk ar t = true) :
    Does prog 244 [.agg #[arv, rsv], tv] F (L) (fun v F' L' => (ii (((cntP ar rs t t.length : Nat) : Int)) : Value) = v ∧ F = F' ∧ L = L') := by
 refine qG func244 rfl rfl rfl ?_
 have hnn := notNil_of_pos ht (by have := termOk_len ho; omega)
 have htl := termOk_len ho
 have hrl := (sysOk_iff.1 hsys).2.1
 have hsig := (sysOk_iff.1 hsys).1
 have hsl := sigOk_spec hsig
 refine qd (qb (cX (jb [arv, rsv] rfl rfl ?_)))
 intro b1
 refine qh (ii (0)) rfl (qc (qd (qb (qh (ii (0)) rfl (qc (qd (qd (qb (qh (ii (0)) rfl (qc (qH (jn (α := Nat) (fun k => [(1, tv), (2, ptr b1 0), (5, ii (((cntP ar rs t k : Nat) : Int))), (6, ii ((k : Int)))]) (fun k => cellsH b1 [arv, rsv] 39 :: L) (fun k F' => F = F' ∧ (k ≤ t.length)) (fun k => t.length - k) 0 ⟨rfl, rfl, rfl, rfl, ⟨⟩⟩ (sC sR) ⟨rfl, (by (try dsimp only) <;> omega)⟩ ?_))))))))))))
 rintro k rE _ _ ⟨rfl, hk⟩
 show X _ _ _ _ (envs [(1, tv), (2, ptr b1 0), (5, ii (((cntP ar rs t k : Nat) : Int))), (6, ii ((k : Int)))] rE) _ (cellsH b1 [arv, rsv] 39 :: L)
 have hcp := cntP_le (ar := ar) (rs := rs) (t := t) hrl k
 refine qd (qd (qb (qg (ii ((k : Int))) rfl (qg (tv) rfl (cX (qE qf rfl ht.slv (cX (qQ rfl rfl (qc ?_)))))))))
 refine qC (p := (k : Int) < (t.length : Int)) rfl (fun h1 => ?_) (fun h1 => ?_)
 ·refine qz (qd (qH (qd (qb (qh (ii (0)) rfl (qc (qH (jn (α := Nat) (fun j => [(1, tv), (2, ptr b1 0), (5, ii (((cntP ar rs t k + cntR ar rs t k j : Nat) : Int))), (6, ii ((k : Int))), (7, ii ((j : Int)))]) (fun j => cellsH b1 [arv, rsv] 39 :: L) (fun j F' => F = F' ∧ (j ≤ rs.length)) (fun j => rs.length - j) 0 ⟨rfl, rfl, rfl, rfl, rfl, ⟨⟩⟩ (sC sR) ⟨rfl, (by (try dsimp only) <;> omega)⟩ ?_))))))))
  rintro j rE _ _ ⟨rfl, hj⟩
  show X _ _ _ _ (envs [(1, tv), (2, ptr b1 0), (5, ii (((cntP ar rs t k + cntR ar rs t k j : Nat) : Int))), (6, ii ((k : Int))), (7, ii ((j : Int)))] rE) _ (cellsH b1 [arv, rsv] 39 :: L)
  have hcr := cntR_le (ar := ar) (rs := rs) (t := t) (p := k) (k := j)
  refine qd (qd (qb (qg (ii ((j : Int))) rfl (cX (qk (1) js rfl sizeOf37 (by decide) rfl rfl (cX (qj isAgg37 rfl (Rd.own [] rfl rfl) (cX (qE jZ rfl hrs.slv (cX (qQ rfl rfl (qc ?_))))))))))))
  refine qC (p := (j : Int) < (rs.length : Int)) rfl (fun h2 => ?_) (fun h2 => ?_)
  ·refine qz (qd (qH (qd ?_)))
   obtain ⟨a1, a2, ha1, ha2, hr1, hr2⟩ := hrs.rd (i := j) (by omega)
   refine jM [cellsH b1 [arv, rsv] 39] L 19 [[], [], [], [], [], [], [], [], [], [], [], [], [], [], [13], [13], [], [], [13, 17]] [[], [0], [], [2], [], [3, 4], [5], [6], [], [8], [], [], [9, 10, 11], [1, 7, 12], [13], [13, 14], [13, 14], [], [13, 15, 17]] [[], [], [], [], [], [], [], [], [], [], [], [], [], [], [], [], [], [], [17]] (phiG [pe (ptr b1 0), pe (.agg #[arv]), pe (ptr b1 1), pe rsv, pe (ii ((j : Int)) : Value), pe (.pointer (some (elemA rsv (j * 2)))), pe (.pointer (some (elemA rsv (j * 2)))), pe a1, pe (ptr b1 0), pe (.agg #[arv]), pe tv, pe (ii ((k : Int)) : Value), fun FF us v => ((v) : Value) = v ∧ (IntsF FF (v) (sub ar t k)), fun FF us v => (.tuple #[.agg #[((aggAt (tupAt v 0) 0))], .bool ((matchB ar ((rs.getD j ([], [])).1) ((sub ar t k))).isSome)] : Value) = v ∧ (RowsF FF ((aggAt (tupAt v 0) 0)) (matchP ar ((rs.getD j ([], [])).1) ((sub ar t k)))), fun FF us v => v = (.tuple #[.agg #[((aggAt (tupAt (us.getD 0 undef) 0) 0))], .bool ((matchB ar ((rs.getD j ([], [])).1) ((sub ar t k))).isSome)] : Value), fun FF us v => v = (.agg #[((aggAt (tupAt (us.getD 0 undef) 0) 0))] : Value), pe (.bool ((matchB ar ((rs.getD j ([], [])).1) ((sub ar t k))).isSome)), fun FF us v => v = ptr (blk v) 0, fun FF us v => True]) (ownL [o0, o0, o0, o0, o0, o0, o0, o0, o0, o0, o0, o0, o0, o0, o0, o0, o0, fun us v => [cellsH (blk v) [sN] 137], fun us v => [cellsH (blk (us.getD 1 undef)) [((aggAt (tupAt (us.getD 0 undef) 0) 0))] 137]]) mixed rfl rfl (by kernel_rfl) (by kernel_rfl) (MonoG.get (m1 (m1 (m1 (m1 (m1 (m1 (m1 (m1 (m1 (m1 (m1 (m1 (mC (fun le h => ⟨h.1, h.2.mono le⟩) (mC (fun le h => ⟨h.1, h.2.mono le⟩) (mC (fun le h => h) (mC (fun le h => h) (m1 (mC (fun le h => h) (mC (fun le h => h) MonoG.nil)))))))))))))))))))) ?_ ?_
   ·refine gD (fun W Fs R lF z9 => ?_) ?_
    ·refine qi (qk (0) js rfl qJ (by decide) rfl rfl ?_)
     exact ⟨rfl, rfl⟩
    refine gD (fun W Fs R lF z9 => ?_) ?_
    ·replace har := har.mono lF
     replace hrs := hrs.mono lF
     replace ht := ht.mono lF
     replace ha1 := ha1.mono lF
     replace hr1 := Rd.monoA hr1 lF
     rw [zA 0 (z9 0 rfl)]
     refine qi (qu [arv] jf qJ rfl rfl (Rd.ownN [] rfl rfl) ?_)
     exact ⟨rfl, rfl⟩
    refine gD (fun W Fs R lF z9 => ?_) ?_
    ·refine qi (qk (1) js rfl sizeOf37 (by decide) rfl rfl ?_)
     exact ⟨rfl, rfl⟩
    refine gD (fun W Fs R lF z9 => ?_) ?_
    ·replace har := har.mono lF
     replace hrs := hrs.mono lF
     replace ht := ht.mono lF
     replace ha1 := ha1.mono lF
     replace hr1 := Rd.monoA hr1 lF
     rw [zA 2 (z9 2 rfl)]
     refine qi (qj isAgg37 rfl (Rd.own [] rfl rfl) ?_)
     exact ⟨rfl, rfl⟩
    refine gD (fun W Fs R lF z9 => ?_) ?_
    ·refine qi (qm (ii ((j : Int))) rfl ?_)
     exact ⟨rfl, rfl⟩
    refine gD (fun W Fs R lF z9 => ?_) ?_
    ·replace har := har.mono lF
     replace hrs := hrs.mono lF
     replace ht := ht.mono lF
     replace ha1 := ha1.mono lF
     replace hr1 := Rd.monoA hr1 lF
     rw [zB 3 4 (z9 3 rfl) (z9 4 rfl)]
     refine qi (qt j jZ sizeOf76 rfl rfl rfl hrs.slv (by omega) rfl ?_)
     exact ⟨rfl, rfl⟩
    refine gD (fun W Fs R lF z9 => ?_) ?_
    ·rw [zA 5 (z9 5 rfl)]
     refine qi (XOp.fieldE (j * 2) jy rfl qA (by decide) rfl rfl ?_)
     exact ⟨rfl, rfl⟩
    refine gD (fun W Fs R lF z9 => ?_) ?_
    ·replace har := har.mono lF
     replace ht := ht.mono lF
     replace ha1 := ha1.mono lF
     replace hr1 := Rd.monoA hr1 lF
     rw [zA 6 (z9 6 rfl)]
     refine qi (qj qU rfl (hr1 _) ?_)
     exact ⟨rfl, rfl⟩
    refine gD (fun W Fs R lF z9 => ?_) ?_
    ·refine qi (qk (0) js rfl qJ (by decide) rfl rfl ?_)
     exact ⟨rfl, rfl⟩
    refine gD (fun W Fs R lF z9 => ?_) ?_
    ·replace har := har.mono lF
     replace ht := ht.mono lF
     replace ha1 := ha1.mono lF
     rw [zA 8 (z9 8 rfl)]
     refine qi (qu [arv] jf qJ rfl rfl (Rd.ownN [] rfl rfl) ?_)
     exact ⟨rfl, rfl⟩
    refine gD (fun W Fs R lF z9 => ?_) ?_
    ·refine qi (qm (tv) rfl ?_)
     exact ⟨rfl, rfl⟩
    refine gD (fun W Fs R lF z9 => ?_) ?_
    ·refine qi (qm (ii ((k : Int))) rfl ?_)
     exact ⟨rfl, rfl⟩
    refine gD (fun W Fs R lF z9 => ?_) ?_
    ·replace har := har.mono lF
     replace ht := ht.mono lF
     replace ha1 := ha1.mono lF
     rw [eS (l := [(9, _), (10, _), (11, _)]) ⟨z9 9 rfl, z9 10 rfl, z9 11 rfl, ⟨⟩⟩]
     refine qi (jD <| qn (args := [.agg #[arv], tv, ii (k : Int)]) call150 rfl (l1Sub_spec (p := k) har ht (ho := (by first | assumption | rfl | omega | simp)) (hp := (by first | assumption | rfl | omega | simp))) ?_)
     rintro v2 _ _ _ ⟨rfl, hs2, rfl⟩
     refine ⟨_, _, rfl, fun F2 le2 hz1 => ?_⟩
     replace har := har.mono le2
     replace ha1 := ha1.mono le2
     have hf1 : IntsF F2 v2 ((sub ar t k)) := intsH.fz (xs := (sub ar t k)) hz1.fz
     exact ⟨⟨rfl, hf1⟩, rfl⟩
    refine gD (fun W Fs R lF z9 => ?_) ?_
    ·obtain ⟨e12, f12_1ha⟩ := z9 12 rfl
     replace har := har.mono lF
     replace ha1 := ha1.mono lF
     rw [eS (l := [(1, _), (7, _), (12, ((W 12)))]) ⟨z9 1 rfl, z9 7 rfl, (e12).symm, ⟨⟩⟩]
     refine qi (qn (args := [.agg #[arv], a1, ((W 12))]) call216 rfl (l4Match_spec har ha1 f12_1ha (ho := (sub_ok ho (by omega))) (hpo := ((ruleOk_iff.1 ((sysOk_iff.1 hsys).2.2 j (by omega))).left))) ?_)
     rintro _ F3 _ le3 ⟨x2, rfl, hr4, rfl⟩
     replace har := har.mono le3
     replace f12_1ha := f12_1ha.mono le3
     exact ⟨⟨rfl, hr4⟩, rfl⟩
    refine gD (fun W Fs R lF z9 => ?_) ?_
    ·obtain ⟨e13, f13_1hr⟩ := z9 13 rfl
     rw [eS (l := [(13, (.tuple #[.agg #[((aggAt (tupAt (W 13) 0) 0))], .bool ((matchB ar ((rs.getD j ([], [])).1) ((sub ar t k))).isSome)]))]) ⟨(e13).symm, ⟨⟩⟩]
     refine qi (qm (.tuple #[.agg #[((aggAt (tupAt (W 13) 0) 0))], .bool ((matchB ar ((rs.getD j ([], [])).1) ((sub ar t k))).isSome)]) rfl ?_)
     exact ⟨rfl, rfl⟩
    refine gD (fun W Fs R lF z9 => ?_) ?_
    ·obtain ⟨e13, f13_1hr⟩ := z9 13 rfl
     have e14 : W 14 = (.tuple #[.agg #[((aggAt (tupAt (W 13) 0) 0))], .bool ((matchB ar ((rs.getD j ([], [])).1) ((sub ar t k))).isSome)] : Value) := z9 14 rfl
     rw [eS (l := [(13, (.tuple #[.agg #[((aggAt (tupAt (W 13) 0) 0))], .bool ((matchB ar ((rs.getD j ([], [])).1) ((sub ar t k))).isSome)])), (14, (.tuple #[.agg #[((aggAt (tupAt (W 13) 0) 0))], .bool ((matchB ar ((rs.getD j ([], [])).1) ((sub ar t k))).isSome)]))]) ⟨(e13).symm, e14, ⟨⟩⟩]
     refine qi (jd (.agg #[((aggAt (tupAt (W 13) 0) 0))]) rfl rfl ?_)
     exact ⟨rfl, rfl⟩
    refine gD (fun W Fs R lF z9 => ?_) ?_
    ·obtain ⟨e13, f13_1hr⟩ := z9 13 rfl
     have e14 : W 14 = (.tuple #[.agg #[((aggAt (tupAt (W 13) 0) 0))], .bool ((matchB ar ((rs.getD j ([], [])).1) ((sub ar t k))).isSome)] : Value) := z9 14 rfl
     rw [eS (l := [(13, (.tuple #[.agg #[((aggAt (tupAt (W 13) 0) 0))], .bool ((matchB ar ((rs.getD j ([], [])).1) ((sub ar t k))).isSome)])), (14, (.tuple #[.agg #[((aggAt (tupAt (W 13) 0) 0))], .bool ((matchB ar ((rs.getD j ([], [])).1) ((sub ar t k))).isSome)]))]) ⟨(e13).symm, e14, ⟨⟩⟩]
     refine qi (jd (.bool ((matchB ar ((rs.getD j ([], [])).1) ((sub ar t k))).isSome)) rfl rfl ?_)
     exact ⟨rfl, rfl⟩
    refine gD (fun W Fs R lF z9 => ?_) ?_
    ·replace har := har.mono lF
     refine qi (jr [sN] jB rfl ?_)
     intro b3
     exact ⟨rfl, rfl⟩
    refine gD (fun W Fs R lF z9 => ?_) ?_
    ·obtain ⟨e13, f13_1hr⟩ := z9 13 rfl
     have e15 : W 15 = (.agg #[((aggAt (tupAt (W 13) 0) 0))] : Value) := z9 15 rfl
     have e17 : W 17 = ptr (blk (W 17)) 0 := z9 17 rfl
     rw [eS (l := [(13, (.tuple #[.agg #[((aggAt (tupAt (W 13) 0) 0))], .bool ((matchB ar ((rs.getD j ([], [])).1) ((sub ar t k))).isSome)])), (15, (.agg #[((aggAt (tupAt (W 13) 0) 0))])), (17, ptr (blk (W 17)) 0)]) ⟨(e13).symm, e15, e17, ⟨⟩⟩]
     show XG _ _ _ _ _ (cellsH (blk (W 17)) [sN] 137 :: ([cellsH b1 [arv, rsv] 39] ++ R)) _
     refine qi (qV [] _ [((aggAt (tupAt (W 13) 0) 0))] jp rfl rfl rfl (qx (qI (RowsF.isSl f13_1hr)) qX) rfl rfl rfl ?_)
     exact ⟨trivial, rfl⟩
    exact stepsG.nil
   intro W F4 le4 hphi
   obtain ⟨e12, f12_1ha⟩ := hphi 12 (by decide)
   obtain ⟨e13, f13_1hr⟩ := hphi 13 (by decide)
   have e14 : W 14 = (.tuple #[.agg #[((aggAt (tupAt (W 13) 0) 0))], .bool ((matchB ar ((rs.getD j ([], [])).1) ((sub ar t k))).isSome)] : Value) := hphi 14 (by decide)
   have e15 : W 15 = (.agg #[((aggAt (tupAt (W 13) 0) 0))] : Value) := hphi 15 (by decide)
   have e17 : W 17 = ptr (blk (W 17)) 0 := hphi 17 (by decide)
   generalize hu1 : ((W 12)) = u1 at e12 f12_1ha e13 f13_1hr e14 e15 e17
   generalize hu2 : ((aggAt (tupAt (W 13) 0) 0)) = u2 at e12 f12_1ha e13 f13_1hr e14 e15 e17
   generalize hu3 : blk (W 17) = b4 at e12 f12_1ha e13 f13_1hr e14 e15 e17
   rw [eS (l := [(13, (.tuple #[.agg #[u2], .bool ((matchB ar ((rs.getD j ([], [])).1) ((sub ar t k))).isSome)])), (16, _), (17, ptr b4 0)]) ⟨(e13).symm, (hphi 16 (by decide)), e17, ⟨⟩⟩]
   show XL _ _ _ _ _ _ _ (cellsH b4 [u2] 137 :: cellsH b1 [arv, rsv] 39 :: L)
   refine qh (.bool ((matchB ar ((rs.getD j ([], [])).1) ((sub ar t k))).isSome)) rfl (qc (qd (qb (qg (.bool ((matchB ar ((rs.getD j ([], [])).1) ((sub ar t k))).isSome)) rfl (qc ?_)))))
   refine jF (t := (matchB ar ((rs.getD j ([], [])).1) ((sub ar t k))).isSome) rfl (fun h3 => ?_) (fun h3 => ?_)
   ·refine qb (qg (ii (((cntP ar rs t k + cntR ar rs t k j : Nat) : Int))) rfl (cX (qK ((((cntP ar rs t k + cntR ar rs t k j) + 1 : Nat) : Int)) rfl rfl (by omega) (by omega) (qh (ii ((((cntP ar rs t k + cntR ar rs t k j) + 1 : Nat) : Int))) rfl (qc (qb (qg (ii ((j : Int))) rfl (cX (qK (((j + 1 : Nat) : Int)) rfl rfl (by omega) (by omega) (qh (ii (((j + 1 : Nat) : Int))) rfl (qc ?_)))))))))))
    exact ⟨j + 1, _, FLe.refl _, le4, ⟨rfl, rfl, (congrArg (fun z : Nat => Value.int .i64 (z : Int)) (by first | exact cntR_yes (by unfold isRedex; assumption) | exact cntR_no (by unfold isRedex; assumption))), rfl, rfl, ⟨⟩⟩, (sD (sC sR)), ⟨rfl, (by omega)⟩, (by omega)⟩
   refine qz (qb (qg (ii ((j : Int))) rfl (cX (qK (((j + 1 : Nat) : Int)) rfl rfl (by omega) (by omega) (qh (ii (((j + 1 : Nat) : Int))) rfl (qc ?_))))))
   exact ⟨j + 1, _, FLe.refl _, le4, ⟨rfl, rfl, (congrArg (fun z : Nat => Value.int .i64 (z : Int)) (by first | exact cntR_yes (by unfold isRedex; assumption) | exact cntR_no (by unfold isRedex; assumption))), rfl, rfl, ⟨⟩⟩, (sD (sC sR)), ⟨rfl, (by omega)⟩, (by omega)⟩
  refine jg (qv (qv (qM (qb (qg (ii ((k : Int))) rfl (cX (qK (((k + 1 : Nat) : Int)) rfl rfl (by omega) (by omega) (qh (ii (((k + 1 : Nat) : Int))) rfl (qc ?_)))))))))
  exact ⟨k + 1, _, FLe.refl _, rF, ⟨rfl, rfl, (congrArg (fun z : Nat => Value.int .i64 (z : Int)) (cntP_succ (by omega))), rfl, ⟨⟩⟩, (sC sR), ⟨rfl, (by omega)⟩, (by omega)⟩
 refine jg (qv (qv (qM (qd (qb (qg (ii (((cntP ar rs t k : Nat) : Int))) rfl (qh (ii (((cntP ar rs t k : Nat) : Int))) rfl (qc (qw (qr (L' := L) [ii (((cntP ar rs t k : Nat) : Int))] (ii (((cntP ar rs t k : Nat) : Int))) (.tmp rfl .nil) rfl rF rF (sD sR) ?_))))))))))
 exact ⟨(vI (by rw [show k = t.length from by omega])), rfl, rfl⟩

/- spec.NormalIn -/
theorem sNormalIn_spec {F : FH} {L : List HP} {arv : Value} {ar : List Int} (har : IntsF F arv ar) {rsv : Value} {rs : List (List Int × List Int)} (hrs : PairsF F rsv rs) {tv : Value} {t : List Int} (ht : IntsF F tv t) (hla : ar.length ≤ 4000000) (hlr : rs.length ≤ 4000000) (hrb : ∀ i, i < rs.length → (rs.getD i ([], [])).1.length ≤ 4000000 ∧ (rs.getD i ([], [])).2.length ≤ 4000000) (hlt : t.length ≤ 4000000) :
    Does prog 134 [.agg #[arv, rsv], tv] F (L) (fun v F' L' => (.bool ((rightB ar rs t && normalL ar rs t)) : Value) = v ∧ F = F' ∧ L = L') := by
 refine qG func134 rfl rfl rfl (qd (qb (cX (jb [arv, rsv] rfl rfl ?_))))
 intro b1
 refine qh (.bool (false)) rfl (qc (qd (qb (cX (qu [arv, rsv] jU jK rfl rfl (Rd.ownN [] rfl rfl) (qg (tv) rfl (cX (qn (args := [.agg #[arv, rsv], tv]) call107 rfl (l7Right_spec har hrs ht (hla := (by first | assumption | rfl | omega | simp)) (hlr := (by first | assumption | rfl | omega | simp)) (hrb := (by first | assumption | rfl | omega | simp)) (hlt := (by first | assumption | rfl | omega | simp))) ?_))))))))
 rintro _ _ _ _ ⟨rfl, rfl, rfl⟩
 refine qg (.bool (rightB ar rs t)) rfl ?_
 by_cases h1 : (rightB ar rs t) = true
 ·have hsys := (right_iff.1 h1).1
  have ho := (right_iff.1 h1).2
  refine qo (t := 8) rfl (vB h1) (qu [arv, rsv] jU jK rfl rfl (Rd.ownN [] rfl rfl) (qo (t := 8) rfl (vB h1) (qm (tv) rfl (qo (t := 8) rfl (vB h1) (qn (args := [.agg #[arv, rsv], tv]) call244 rfl (l7Redexes_spec har hrs ht (hsys := (by first | assumption | rfl | omega | simp)) (ho := (by first | assumption | rfl | omega | simp))) ?_)))))
  rintro _ _ _ _ ⟨rfl, rfl, rfl⟩
  refine qo (t := 8) rfl (vB h1) (ju rfl rfl (cX (qO (.bool (decide ((((cntP ar rs t t.length : Nat) : Int) : Int) = 0))) (vB h1) rfl (qh (.bool (decide ((((cntP ar rs t t.length : Nat) : Int) : Int) = 0))) rfl (qc (qw (qr (L' := L) [.bool (decide ((((cntP ar rs t t.length : Nat) : Int) : Int) = 0))] (.bool (decide ((((cntP ar rs t t.length : Nat) : Int) : Int) = 0))) (.tmp rfl .nil) rfl rF rF (sD sR) ?_)))))))
  exact ⟨(vB (by rw [normal_cnt]; simp_all)), rfl, rfl⟩
 rw [Bool.not_eq_true] at h1
 refine qp (t := 8) rfl (vB h1) (qp (t := 8) rfl (vB h1) (qp (t := 8) rfl (vB h1) (qp (t := 8) rfl (vB h1) (cX (qN (.bool (false)) (vB h1) rfl (qh (.bool (false)) rfl (qc (qw (qr (L' := L) [.bool (false)] (.bool (false)) (.tmp rfl .nil) rfl rF rF (sD sR) ?_)))))))))
 exact ⟨(vB (by simp_all)), rfl, rfl⟩

/- spec.WalkBy -/
theorem sWalkBy_spec {F : FH} {L : List HP} {arv : Value} {ar : List Int} (har : IntsF F arv ar) {rsv : Value} {rs : List (List Int × List Int)} (hrs : PairsF F rsv rs) {tv : Value} {t : List Int} (ht : IntsF F tv t) {st : Int} {n : Int} (hla : ar.length ≤ 4000000) (hlr : rs.length ≤ 4000000) (hrb : ∀ i, i < rs.length → (rs.getD i ([], [])).1.length ≤ 4000000 ∧ (rs.getD i ([], [])).2.length ≤ 4000000) (hlt : t.length ≤ 4000000) :
    Does prog 164 [.agg #[arv, rsv], tv, ii (st), ii (n)] F (L) (fun v F' L' => ∃ (a : Value), ∃ (b : Value), (.tuple #[.agg #[a, b], .bool ((walkB ar rs t st n).2.2)] : Value) = v ∧ (IntsF F' a (walkB ar rs t st n).1) ∧ (StepsF F' b (walkB ar rs t st n).2.1) ∧ L = L') := by
 refine qG func164 rfl rfl rfl (qd (qb (cX (jb [arv, rsv] rfl rfl ?_))))
 intro b1
 refine cX (jr [sN, sN] zeroValue45 rfl ?_)
 intro b2
 refine qh (.bool (false)) rfl (qc (qd (qd (qb (cX (qu [arv, rsv] jU jK rfl rfl (Rd.ownN [_] rfl rfl) (qg (tv) rfl (qg (ii (st)) rfl (cX (qn (args := [.agg #[arv, rsv], tv, ii (st)]) call268 rfl (l8Right_spec (st := st) har hrs ht (hla := (by first | assumption | rfl | omega | simp)) (hlr := (by first | assumption | rfl | omega | simp)) (hrb := (by first | assumption | rfl | omega | simp)) (hlt := (by first | assumption | rfl | omega | simp))) ?_))))))))))
 rintro _ _ _ _ ⟨rfl, rfl, rfl⟩
 refine cX (jt rfl (qg (.bool (!((rightB ar rs t && decide (1 ≤ st ∧ st ≤ 3))))) rfl ?_))
 by_cases h1 : (!((rightB ar rs t && decide (1 ≤ st ∧ st ≤ 3)))) = true
 ·refine qp (t := 22) rfl (vB h1) (qp (t := 22) rfl (vB h1) (qp (t := 22) rfl (vB h1) (cX (qO (.bool (true)) (vB h1) rfl (qc (jA rfl (qd (qb (cX (jv [sN, sN] [sN, sN] [(0, 1), (1, 1)] [] ya zeroValue45 rfl (.cons rfl qA (.cons rfl sizeOf43 PlacesAre.nil)) rfl CellsAre.nil (cX (qV [] _ [sN, sN] sizeOf45 rfl rfl rfl (qx rfl (qx rfl qX)) rfl rfl rfl (qh (.bool (false)) rfl ?_)))))))))))))
  refine qc (qw (ql (qr (L' := L) [.agg #[sN, sN], .bool (false)] (.tuple #[.agg #[sN, sN], .bool (false)]) (.cell rfl (jH [sN, sN] isAgg45 sizeOf45 rfl (Rd.ownN [] rfl rfl)) (.tmp rfl .nil)) rfl rF rF (sD (sD sR)) ?_)))
  have hw : walkB ar rs t st n = ([], [], false) := walkB_no (by rw [wOk]; cases hx : (rightB ar rs t && decide (1 ≤ st ∧ st ≤ 3)) <;> simp_all <;> (intros; omega))
  exact ⟨_, _, by rw [hw], by rw [hw]; exact IntsF.nilV, by rw [hw]; exact SlOf.nilV, rfl⟩
 rw [Bool.not_eq_true] at h1
 have hri : rightB ar rs t = true ∧ (1 ≤ st ∧ st ≤ 3) := by simpa using h1
 have hsys := (right_iff.1 hri.1).1
 have ho := (right_iff.1 hri.1).2
 have htl := termOk_len ho
 refine qo (t := 22) rfl (vB h1) (qm (ii (n)) rfl (qo (t := 22) rfl (vB h1) (qn (args := [ii (n), ii (0), ii (60)]) call109 rfl (l1In_spec (n := n) (a := 0) (b := 60)) ?_)))
 rintro _ _ _ _ ⟨rfl, rfl, rfl⟩
 refine qo (t := 22) rfl (vB h1) (jY rfl (cX (qN (.bool (decide (¬(0 ≤ n ∧ n ≤ 60)))) (vB h1) rfl (qc ?_))))
 refine qC (p := ¬(0 ≤ n ∧ n ≤ 60)) rfl (fun h2 => ?_) (fun h2 => ?_)
 ·refine qd (qb (cX (jv [sN, sN] [sN, sN] [(0, 1), (1, 1)] [] ya zeroValue45 rfl (.cons rfl qA (.cons rfl sizeOf43 PlacesAre.nil)) rfl CellsAre.nil (cX (qV [] _ [sN, sN] sizeOf45 rfl rfl rfl (qx rfl (qx rfl qX)) rfl rfl rfl (qh (.bool (false)) rfl (qc (qw (ql (qr (L' := L) [.agg #[sN, sN], .bool (false)] (.tuple #[.agg #[sN, sN], .bool (false)]) (.cell rfl (jH [sN, sN] isAgg45 sizeOf45 rfl (Rd.ownN [] rfl rfl)) (.tmp rfl .nil)) rfl rF rF (sD (sD sR)) ?_))))))))))
  have hw : walkB ar rs t st n = ([], [], false) := walkB_no (by rw [wOk]; cases hx : (rightB ar rs t && decide (1 ≤ st ∧ st ≤ 3)) <;> simp_all <;> (intros; omega))
  exact ⟨_, _, by rw [hw], by rw [hw]; exact IntsF.nilV, by rw [hw]; exact SlOf.nilV, rfl⟩
 refine qz (qd (qb (qg (tv) rfl (cX (jD <| qn (args := [tv]) call105 rfl (l1Copy_spec ht (hlt := (by first | omega | (rw [hu2]; have := termOk_len (stepL_ok hsys hoc (by omega) (by omega) hu); simp only [Option.getD_some]; omega)))) ?_)))))
 rintro v1 _ _ _ ⟨rfl, hs1, rfl⟩
 refine ⟨_, _, rfl, fun F1 le1 hz1 => ?_⟩
 replace har := har.mono le1
 replace hrs := hrs.mono le1
 replace ht := ht.mono le1
 have hf1 : IntsF F1 v1 ((t)) := intsH.fz (xs := (t)) hz1.fz
 refine cX (jv [v1, sN] [sN, sN] [(0, 1), (1, 1)] [(0, [v1])] ya zeroValue45 rfl (.cons rfl qA (.cons rfl sizeOf43 PlacesAre.nil)) rfl (.cons (cells_one (qB hf1)) CellsAre.nil) (cX (jr [sN, sN] zeroValue45 rfl ?_)))
 intro b3
 refine cX (qV [] _ [v1, sN] sizeOf45 rfl rfl rfl (qx (qI (qB hf1)) (qx rfl qX)) rfl rfl rfl (qc (qd (qb (qg (tv) rfl (cX (jD <| qn (args := [tv]) call105 rfl (l1Copy_spec ht (hlt := (by first | omega | (rw [hu2]; have := termOk_len (stepL_ok hsys hoc (by omega) (by omega) hu); simp only [Option.getD_some]; omega)))) ?_)))))))
 rintro v2 _ _ _ ⟨rfl, hs2, rfl⟩
 refine ⟨_, _, rfl, fun F2 le2 hz2 => ?_⟩
 replace har := har.mono le2
 replace hrs := hrs.mono le2
 replace hf1 := hf1.mono le2
 have hf2 : IntsF F2 v2 ((t)) := intsH.fz (xs := (t)) hz2.fz
 refine qh (v2) rfl (qc (qd (qH (jn (α := Value × List Int × Value × List StepT × FH) (fun xQ => [(2, ii (st)), (3, ii (n)), (4, ptr b1 0), (8, ptr b2 0), (10, ptr b3 0), (11, xQ.1)]) (fun xQ => stepsH 192 xQ.2.2.2.2 xQ.2.2.1 xQ.2.2.2.1 :: cellsH b3 [v1, xQ.2.2.1] 45 :: cellsH b2 [sN, sN] 45 :: cellsH b1 [arv, rsv] 39 :: L) (fun xQ F' => xQ.2.2.2.2 = F' ∧ F2 ≤ xQ.2.2.2.2 ∧ (IntsF xQ.2.2.2.2 xQ.1 xQ.2.1) ∧ (termOk ar xQ.2.1 = true) ∧ (IsSl xQ.2.2.1) ∧ (xQ.2.2.2.1.length ≤ n.toNat) ∧ ((walkGo ar rs st n.toNat t).1 = xQ.2.2.2.1 ++ (walkGo ar rs st (n.toNat - xQ.2.2.2.1.length) xQ.2.1).1) ∧ ((walkGo ar rs st n.toNat t).2 = (walkGo ar rs st (n.toNat - xQ.2.2.2.1.length) xQ.2.1).2)) (fun xQ => n.toNat - xQ.2.2.2.1.length) (v2, t, sN, [], F2) ⟨rfl, rfl, rfl, rfl, rfl, rfl, ⟨⟩⟩ (coH.addNil none (sC (sC (sC sR)))) ⟨rfl, FLe.refl _, (hf2), (ho), (⟨_, _, _, rfl⟩), (by simp), (rfl), (rfl)⟩ ?_))))
 rintro ⟨cv, cur, sv, ss, G1⟩ rE _ _ ⟨rfl, leG, hcv, hoc, hsv, hln, hwa, hwb⟩
 show X _ _ _ _ (envs [(2, ii (st)), (3, ii (n)), (4, ptr b1 0), (8, ptr b2 0), (10, ptr b3 0), (11, cv)] rE) _ (stepsH 192 G1 sv ss :: cellsH b3 [v1, sv] 45 :: cellsH b2 [sN, sN] 45 :: cellsH b1 [arv, rsv] 39 :: L)
 replace leG : F2 ≤ G1 := leG
 dsimp only at hcv hoc hsv hln hwa hwb
 have hcl := termOk_len hoc
 have leG1 := leG
 replace har := har.mono leG1
 replace hrs := hrs.mono leG1
 replace hf1 := hf1.mono leG1
 refine X.open [] rfl (fun cs1 hc1 => ?_)
 replace hc1 : StepsC G1 cs1 ss := hc1
 refine qd (qd (qb (cX (qk (1) ya rfl sizeOf43 (by decide) rfl rfl (cX (qj isAgg43 rfl (Rd.own [_] rfl rfl) (cX (qE runUnderlying43 rfl (SlV.own [] rfl) (qg (ii (n)) rfl (cX (qQ rfl rfl (qc ?_))))))))))))
 refine qC (p := ((ss.length : Int) : Int) < n) rfl (fun h3 => ?_) (fun h3 => ?_)
 ·refine qz (qH (qd (qb (cX (qu [arv, rsv] jU jK rfl rfl (Rd.ownN [_, _, _] rfl rfl) (qg (cv) rfl (qg (ii (st)) rfl (cX (qn (args := [.agg #[arv, rsv], cv, ii (st)]) call269 rfl (sPickBy_spec (st := st) har hrs hcv (hla := (by first | assumption | rfl | omega | simp)) (hlr := (by first | assumption | rfl | omega | simp)) (hrb := (by first | assumption | rfl | omega | simp)) (hlt := (by first | assumption | rfl | omega | simp))) ?_)))))))))
  rintro _ _ _ _ ⟨rfl, rfl, rfl⟩
  refine qg (.tuple #[ii (pickAt ar rs cur st), ii (pickRule ar rs cur st), .bool (pickB ar rs cur st)]) rfl (cX (jd (ii (pickAt ar rs cur st)) rfl rfl (cX (jd (ii (pickRule ar rs cur st)) rfl rfl (cX (jd (.bool (pickB ar rs cur st)) rfl rfl (qh (ii (pickAt ar rs cur st)) rfl (qh (ii (pickRule ar rs cur st)) rfl (qh (.bool (pickB ar rs cur st)) rfl (qc (qd (qd (qb (qg (.bool (pickB ar rs cur st)) rfl (cX (jt rfl ?_))))))))))))))))
  refine qc ?_
  refine jF (t := !(pickB ar rs cur st)) rfl (fun h4 => ?_) (fun h4 => ?_)
  ·have hpb : pickB ar rs cur st = false := by simpa using h4
   have he : redL ar rs cur = [] := Classical.byContradiction (fun hne => by rw [pickB_iff.2 ⟨right_iff.2 ⟨hsys, hoc⟩, hri.2, hne⟩] at hpb; cases hpb)
   have hend : walkGo ar rs st (n.toNat - ss.length) cur = ([], normalL ar rs cur) := by rw [walk_nil he, normalL, decide_eq_true he]
   refine jg (qv (blockQ_other (by decide) (qv (qM (qd ?_)))))
   refine jx [slH 192 3 sv ((ss).length) cs1, cellsH b3 [v1, sv] 45, cellsH b2 [sN, sN] 45, cellsH b1 [arv, rsv] 39] L 4 [] [[], [], [], [1, 2]] (phiL [qe (.agg #[v1, sv]), qe (.agg #[arv, rsv]), qe cv, qe (.bool ((rightB ar rs cur && normalL ar rs cur)))]) (ownL []) mixed rfl rfl (by kernel_rfl) ?_ ?_
   ·refine pD (fun W R z9 => ?_) ?_
    ·refine qi (qu [v1, sv] isAgg45 sizeOf45 rfl rfl (Rd.ownN [_] rfl rfl) ?_)
     exact ⟨rfl, rfl, rfl⟩
    refine pD (fun W R z9 => ?_) ?_
    ·refine qi (qu [arv, rsv] jU jK rfl rfl (Rd.ownN [_, _, _] rfl rfl) ?_)
     exact ⟨rfl, rfl, rfl⟩
    refine pD (fun W R z9 => ?_) ?_
    ·refine qi (qm (cv) rfl ?_)
     exact ⟨rfl, rfl, rfl⟩
    refine pD (fun W R z9 => ?_) ?_
    ·rw [zB 1 2 (z9 1 rfl) (z9 2 rfl)]
     refine qi (qn (args := [.agg #[arv, rsv], cv]) call134 rfl (sNormalIn_spec har hrs hcv (hla := (by first | assumption | rfl | omega | simp)) (hlr := (by first | assumption | rfl | omega | simp)) (hrb := (by first | assumption | rfl | omega | simp)) (hlt := (by first | assumption | rfl | omega | simp))) ?_)
     rintro _ _ _ _ ⟨rfl, rfl, rfl⟩
     exact ⟨rfl, rfl, rfl⟩
    exact stepsP.nil
   intro W hphi
   rw [zB 0 3 (hphi 0 (by decide)) (hphi 3 (by decide))]
   show XL _ _ _ _ _ _ _ (slH 192 3 sv ((ss).length) cs1 :: cellsH b3 [v1, sv] 45 :: cellsH b2 [sN, sN] 45 :: cellsH b1 [arv, rsv] 39 :: L)
   refine cX (qV [_, _] _ [v1, sv] sizeOf45 rfl rfl rfl (qx (qI (qB hf1)) (qx (qI hsv) qX)) rfl rfl rfl (qh (.bool ((rightB ar rs cur && normalL ar rs cur))) rfl (qc (qY [] _ _ rfl (fun F3 le3 hz3 => ?_)))))
   replace har := har.mono le3
   replace hrs := hrs.mono le3
   replace hf1 := hf1.mono le3
   replace hcv := hcv.mono le3
   replace hc1 := hc1.mono le3
   have hf3 : StepsF F3 sv ss := CO.fz hc1 (by first | rfl | omega | (rw [List.length_set]; omega) | (simp; done)) hz3.fz
   refine qw (qr (L' := L) [.agg #[v1, sv], .bool ((rightB ar rs cur && normalL ar rs cur))] (.tuple #[.agg #[v1, sv], .bool ((rightB ar rs cur && normalL ar rs cur))]) (.cell rfl (jH [v1, sv] isAgg45 sizeOf45 rfl (Rd.ownN [_] rfl rfl)) (.tmp rfl .nil)) rfl (qa (qa (qa le1 le2) leG1) le3) rF (sD (sD (sD sR))) ?_)
   have hw := walkB_yes (ar := ar) (rs := rs) (t := t) (st := st) (n := n) (by rw [wOk]; simp [hri, hri.2]; omega)
   have e : walkGo ar rs st n.toNat t = (ss, normalL ar rs cur) := Prod.ext (by rw [hwa, hend]; simp) (by rw [hwb, hend])
   have hrc : rightB ar rs cur = true := right_iff.2 ⟨hsys, hoc⟩
   exact ⟨_, _, by rw [hw, e, hrc, Bool.true_and], by rw [hw]; exact hf1, by rw [hw, e]; exact hf3, rfl⟩
  have hpb : pickB ar rs cur st = true := by simpa using h4
  have hne := (pickB_iff.1 hpb).2.2
  have hpa : pickAt ar rs cur st = pickL ar rs cur st := by rw [pickAt, if_pos hpb]
  have hpr : pickRule ar rs cur st = ruleAtL ar rs cur (pickL ar rs cur st).toNat := by rw [pickRule, if_pos hpb]
  obtain ⟨q, hq1, hq2, hq3, _⟩ := (pick_spec (ar := ar) (rs := rs) (t := cur) st).resolve_left (fun h => hne h.2)
  have hpn : (pickL ar rs cur st).toNat = q := by omega
  have hrr : 0 ≤ ruleAtL ar rs cur (pickL ar rs cur st).toNat := by rw [hpn]; simpa [hasR] using hq3
  obtain ⟨k, hk1, hk2, _⟩ := (M.ruleAt_spec (ar := ar) (rs := rs) (t := cur) (p := (pickL ar rs cur st).toNat)).resolve_left (by omega)
  refine qz (qd (qb (cX (qu [arv, rsv] jU jK rfl rfl (Rd.ownN [_, _, _] rfl rfl) (qg (cv) rfl (qg (ii (pickAt ar rs cur st)) rfl (qg (ii (pickRule ar rs cur st)) rfl (cX (qn (args := [.agg #[arv, rsv], cv, ii (((pickAt ar rs cur st).toNat : Nat) : Int), ii (((pickRule ar rs cur st).toNat : Nat) : Int)]) call110 (by rw [show (((pickAt ar rs cur st).toNat : Nat) : Int) = pickAt ar rs cur st from by omega, show (((pickRule ar rs cur st).toNat : Nat) : Int) = pickRule ar rs cur st from by omega]; rfl) (l7Step_spec (p := (pickAt ar rs cur st).toNat) (r := (pickRule ar rs cur st).toNat) har hrs hcv (hsys := (by first | assumption | rfl | omega | simp)) (ho := (by first | assumption | rfl | omega | simp)) (hp := (by first | assumption | rfl | omega | simp)) (hr := (by first | assumption | rfl | omega | simp))) ?_)))))))))
  rintro _ F4 _ le4 ⟨x1, rfl, hr1, rfl⟩
  replace har := har.mono le4
  replace hrs := hrs.mono le4
  replace hf1 := hf1.mono le4
  replace hcv := hcv.mono le4
  replace hc1 := hc1.mono le4
  refine qg (.tuple #[x1, .bool ((stepL ar rs cur ((pickAt ar rs cur st).toNat) ((pickRule ar rs cur st).toNat)).isSome)]) rfl (cX (jd (x1) rfl rfl (cX (jd (.bool ((stepL ar rs cur ((pickAt ar rs cur st).toNat) ((pickRule ar rs cur st).toNat)).isSome)) rfl rfl (qh (x1) rfl (qh (.bool ((stepL ar rs cur ((pickAt ar rs cur st).toNat) ((pickRule ar rs cur st).toNat)).isSome)) rfl (qc (qd (qd (qb (qg (.bool ((stepL ar rs cur ((pickAt ar rs cur st).toNat) ((pickRule ar rs cur st).toNat)).isSome)) rfl (cX (jt rfl (qc ?_))))))))))))))
  refine jF (t := !((stepL ar rs cur ((pickAt ar rs cur st).toNat) ((pickRule ar rs cur st).toNat)).isSome)) rfl (fun h5 => ?_) (fun h5 => ?_)
  ·have hu : (stepL ar rs cur (pickL ar rs cur st).toNat (ruleAtL ar rs cur (pickL ar rs cur st).toNat).toNat).isSome = false := by rw [← hpr, ← hpa]; simpa using h5
   have hend : walkGo ar rs st (n.toNat - ss.length) cur = ([], normalL ar rs cur) := by rw [walk_stuck (by omega) hne hu, normalL, decide_eq_false hne]
   refine jg (qv (blockQ_other (by decide) (qv (qM (qd ?_)))))
   refine jx [slH 192 3 sv ((ss).length) cs1, cellsH b3 [v1, sv] 45, cellsH b2 [sN, sN] 45, cellsH b1 [arv, rsv] 39] L 4 [] [[], [], [], [1, 2]] (phiL [qe (.agg #[v1, sv]), qe (.agg #[arv, rsv]), qe cv, qe (.bool ((rightB ar rs cur && normalL ar rs cur)))]) (ownL []) mixed rfl rfl (by kernel_rfl) ?_ ?_
   ·refine pD (fun W R z9 => ?_) ?_
    ·refine qi (qu [v1, sv] isAgg45 sizeOf45 rfl rfl (Rd.ownN [_] rfl rfl) ?_)
     exact ⟨rfl, rfl, rfl⟩
    refine pD (fun W R z9 => ?_) ?_
    ·refine qi (qu [arv, rsv] jU jK rfl rfl (Rd.ownN [_, _, _] rfl rfl) ?_)
     exact ⟨rfl, rfl, rfl⟩
    refine pD (fun W R z9 => ?_) ?_
    ·refine qi (qm (cv) rfl ?_)
     exact ⟨rfl, rfl, rfl⟩
    refine pD (fun W R z9 => ?_) ?_
    ·rw [zB 1 2 (z9 1 rfl) (z9 2 rfl)]
     refine qi (qn (args := [.agg #[arv, rsv], cv]) call134 rfl (sNormalIn_spec har hrs hcv (hla := (by first | assumption | rfl | omega | simp)) (hlr := (by first | assumption | rfl | omega | simp)) (hrb := (by first | assumption | rfl | omega | simp)) (hlt := (by first | assumption | rfl | omega | simp))) ?_)
     rintro _ _ _ _ ⟨rfl, rfl, rfl⟩
     exact ⟨rfl, rfl, rfl⟩
    exact stepsP.nil
   intro W hphi
   rw [zB 0 3 (hphi 0 (by decide)) (hphi 3 (by decide))]
   show XL _ _ _ _ _ _ _ (slH 192 3 sv ((ss).length) cs1 :: cellsH b3 [v1, sv] 45 :: cellsH b2 [sN, sN] 45 :: cellsH b1 [arv, rsv] 39 :: L)
   refine cX (qV [_, _] _ [v1, sv] sizeOf45 rfl rfl rfl (qx (qI (qB hf1)) (qx (qI hsv) qX)) rfl rfl rfl (qh (.bool ((rightB ar rs cur && normalL ar rs cur))) rfl (qc (qY [] _ _ rfl (fun F5 le5 hz4 => ?_)))))
   replace har := har.mono le5
   replace hrs := hrs.mono le5
   replace hf1 := hf1.mono le5
   replace hcv := hcv.mono le5
   replace hc1 := hc1.mono le5
   replace hr1 := hr1.mono le5
   have hf4 : StepsF F5 sv ss := CO.fz hc1 (by first | rfl | omega | (rw [List.length_set]; omega) | (simp; done)) hz4.fz
   refine qw (qr (L' := L) [.agg #[v1, sv], .bool ((rightB ar rs cur && normalL ar rs cur))] (.tuple #[.agg #[v1, sv], .bool ((rightB ar rs cur && normalL ar rs cur))]) (.cell rfl (jH [v1, sv] isAgg45 sizeOf45 rfl (Rd.ownN [_] rfl rfl)) (.tmp rfl .nil)) rfl (qa (qa (qa (qa le1 le2) leG1) le4) le5) rF (sD (sD (sD sR))) ?_)
   have hw := walkB_yes (ar := ar) (rs := rs) (t := t) (st := st) (n := n) (by rw [wOk]; simp [hri, hri.2]; omega)
   have e : walkGo ar rs st n.toNat t = (ss, normalL ar rs cur) := Prod.ext (by rw [hwa, hend]; simp) (by rw [hwb, hend])
   have hrc : rightB ar rs cur = true := right_iff.2 ⟨hsys, hoc⟩
   exact ⟨_, _, by rw [hw, e, hrc, Bool.true_and], by rw [hw]; exact hf1, by rw [hw, e]; exact hf4, rfl⟩
  obtain ⟨u, hu⟩ := Option.isSome_iff_exists.1 (show (stepL ar rs cur (pickL ar rs cur st).toNat (ruleAtL ar rs cur (pickL ar rs cur st).toNat).toNat).isSome = true from by rw [← hpr, ← hpa]; simpa using h5)
  have hu2 : stepL ar rs cur (pickAt ar rs cur st).toNat (pickRule ar rs cur st).toNat = some u := by rw [hpa, hpr]; exact hu
  refine qz (qd (qb (cX (qk (1) ya rfl sizeOf43 (by decide) rfl rfl (cX (qj isAgg43 rfl (Rd.own [_] rfl rfl) (qg (ii (pickAt ar rs cur st)) rfl (qg (ii (pickRule ar rs cur st)) rfl (qg (x1) rfl (cX (jv [ii (pickAt ar rs cur st), ii (pickRule ar rs cur st), x1] [ii (0), ii (0), sN] [(0, 1), (1, 1), (2, 1)] [(0, [ii (pickAt ar rs cur st)]), (1, [ii (pickRule ar rs cur st)]), (2, [x1])] runUnderlying192 zeroValue192 rfl (.cons rfl qq (.cons rfl qq (.cons rfl qA PlacesAre.nil))) rfl (.cons rfl (.cons rfl (.cons (cells_one (qB hr1)) CellsAre.nil))) (cX (qs (s := 3) [ii (pickAt ar rs cur st), ii (pickRule ar rs cur st), x1] [ii (0), ii (0), sN] [(0, [ii (pickAt ar rs cur st), ii (pickRule ar rs cur st), x1])] runUnderlying43 sizeOf192 zeroValue192 rfl (by decide) rfl (.cons rfl CellsAre.nil) rfl ?_)))))))))))))
  intro v3 hv1
  refine cX (jT (m := 1) (bytes := 40) (cs := cs1) [_] _ [ii (pickAt ar rs cur st), ii (pickRule ar rs cur st), x1] runUnderlying43 typeInfo192 rfl rfl rfl rfl rfl rfl rfl (SlV.own [] rfl) rfl (Rd.lit [] rfl) (qx rfl (qx rfl (qx (qI (qB hr1)) qX))) (by (try simp only [List.length_append, List.length_nil, List.length_cons, List.length_singleton]); omega) (by (try simp only [List.length_append, List.length_nil, List.length_cons, List.length_singleton]); omega) ?_)
  intro v4 hs3 hn1 hm1
  have hc2 := StepsC.snoc hc1 (i := pickAt ar rs cur st) (j := pickRule ar rs cur st) hr1
  refine cX (qk (1) ya rfl sizeOf43 (by decide) rfl rfl (cX (jw [_, _] _ [v1, v4] sizeOf43 rfl rfl (qI hs3) rfl rfl rfl (qc (qb (qg (x1) rfl (cX (jD <| qn (args := [x1]) call105 rfl (l1Copy_spec hr1 (hlt := (by first | omega | (rw [hu2]; have := termOk_len (stepL_ok hsys hoc (by omega) (by omega) hu); simp only [Option.getD_some]; omega)))) ?_))))))))
  rintro v5 _ _ _ ⟨rfl, hs4, rfl⟩
  refine ⟨_, _, rfl, fun F6 le6 hz5 => ?_⟩
  replace har := har.mono le6
  replace hrs := hrs.mono le6
  replace hf1 := hf1.mono le6
  replace hcv := hcv.mono le6
  replace hc1 := hc1.mono le6
  replace hc2 := hc2.mono le6
  have hf5 : IntsF F6 v5 ((((stepL ar rs cur ((pickAt ar rs cur st).toNat) ((pickRule ar rs cur st).toNat)).getD []))) := intsH.fz (xs := (((stepL ar rs cur ((pickAt ar rs cur st).toNat) ((pickRule ar rs cur st).toNat)).getD []))) hz5.fz
  refine qh (v5) rfl (qc ?_)
  exact ⟨(v5, (((stepL ar rs cur ((pickAt ar rs cur st).toNat) ((pickRule ar rs cur st).toNat)).getD [])), v4, ss ++ [(pickAt ar rs cur st, pickRule ar rs cur st, (stepL ar rs cur ((pickAt ar rs cur st).toNat) ((pickRule ar rs cur st).toNat)).getD [])], F6), _, (qa (qa leG1 le4) le6), rF, ⟨rfl, rfl, rfl, rfl, rfl, rfl, ⟨⟩⟩, (sD (coH.close hc2 (by first | rfl | simp) (sC (sC (sC sR))))), ⟨rfl, (qa (qa leG1 le4) le6), (hf5), (by dsimp only; rw [hu2]; exact stepL_ok hsys hoc (by omega) (by omega) hu), (hs3), (by dsimp only; rw [List.length_append]; simp only [List.length_singleton]; omega), (by dsimp only; rw [hwa, walk_next (m := n.toNat - ss.length) (by omega) hne hu, hu2, hpa, hpr]; simp only [Option.getD_some, List.length_append, List.length_singleton, List.append_assoc, List.singleton_append]; rw [show n.toNat - ss.length - 1 = n.toNat - (ss.length + 1) from by omega]), (by dsimp only; rw [hwb, walk_next (m := n.toNat - ss.length) (by omega) hne hu, hu2]; simp only [Option.getD_some, List.length_append, List.length_singleton]; rw [show n.toNat - ss.length - 1 = n.toNat - (ss.length + 1) from by omega])⟩, (by dsimp only; rw [List.length_append]; simp only [List.length_singleton]; omega)⟩
 have hend : walkGo ar rs st (n.toNat - ss.length) cur = ([], normalL ar rs cur) := by rw [show n.toNat - ss.length = 0 from by omega]; rfl
 refine jg (qv (qv (qM (qd ?_))))
 refine jx [slH 192 3 sv ((ss).length) cs1, cellsH b3 [v1, sv] 45, cellsH b2 [sN, sN] 45, cellsH b1 [arv, rsv] 39] L 4 [] [[], [], [], [1, 2]] (phiL [qe (.agg #[v1, sv]), qe (.agg #[arv, rsv]), qe cv, qe (.bool ((rightB ar rs cur && normalL ar rs cur)))]) (ownL []) mixed rfl rfl (by kernel_rfl) ?_ ?_
 ·refine pD (fun W R z9 => ?_) ?_
  ·refine qi (qu [v1, sv] isAgg45 sizeOf45 rfl rfl (Rd.ownN [_] rfl rfl) ?_)
   exact ⟨rfl, rfl, rfl⟩
  refine pD (fun W R z9 => ?_) ?_
  ·refine qi (qu [arv, rsv] jU jK rfl rfl (Rd.ownN [_, _, _] rfl rfl) ?_)
   exact ⟨rfl, rfl, rfl⟩
  refine pD (fun W R z9 => ?_) ?_
  ·refine qi (qm (cv) rfl ?_)
   exact ⟨rfl, rfl, rfl⟩
  refine pD (fun W R z9 => ?_) ?_
  ·rw [zB 1 2 (z9 1 rfl) (z9 2 rfl)]
   refine qi (qn (args := [.agg #[arv, rsv], cv]) call134 rfl (sNormalIn_spec har hrs hcv (hla := (by first | assumption | rfl | omega | simp)) (hlr := (by first | assumption | rfl | omega | simp)) (hrb := (by first | assumption | rfl | omega | simp)) (hlt := (by first | assumption | rfl | omega | simp))) ?_)
   rintro _ _ _ _ ⟨rfl, rfl, rfl⟩
   exact ⟨rfl, rfl, rfl⟩
  exact stepsP.nil
 intro W hphi
 rw [zB 0 3 (hphi 0 (by decide)) (hphi 3 (by decide))]
 show XL _ _ _ _ _ _ _ (slH 192 3 sv ((ss).length) cs1 :: cellsH b3 [v1, sv] 45 :: cellsH b2 [sN, sN] 45 :: cellsH b1 [arv, rsv] 39 :: L)
 refine cX (qV [_, _] _ [v1, sv] sizeOf45 rfl rfl rfl (qx (qI (qB hf1)) (qx (qI hsv) qX)) rfl rfl rfl (qh (.bool ((rightB ar rs cur && normalL ar rs cur))) rfl (qc (qY [] _ _ rfl (fun F7 le7 hz6 => ?_)))))
 replace hf1 := hf1.mono le7
 replace hc1 := hc1.mono le7
 have hf6 : StepsF F7 sv ss := CO.fz hc1 (by first | rfl | omega | (rw [List.length_set]; omega) | (simp; done)) hz6.fz
 refine qw (qr (L' := L) [.agg #[v1, sv], .bool ((rightB ar rs cur && normalL ar rs cur))] (.tuple #[.agg #[v1, sv], .bool ((rightB ar rs cur && normalL ar rs cur))]) (.cell rfl (jH [v1, sv] isAgg45 sizeOf45 rfl (Rd.ownN [_] rfl rfl)) (.tmp rfl .nil)) rfl (qa (qa (qa le1 le2) leG1) le7) rF (sD (sD (sD sR))) ?_)
 have hw := walkB_yes (ar := ar) (rs := rs) (t := t) (st := st) (n := n) (by rw [wOk]; simp [hri, hri.2]; omega)
 have e : walkGo ar rs st n.toNat t = (ss, normalL ar rs cur) := Prod.ext (by rw [hwa, hend]; simp) (by rw [hwb, hend])
 have hrc : rightB ar rs cur = true := right_iff.2 ⟨hsys, hoc⟩
 exact ⟨_, _, by rw [hw, e, hrc, Bool.true_and], by rw [hw]; exact hf1, by rw [hw, e]; exact hf6, rfl⟩

/- spec.l7End -/
theorem l7End_spec {F : FH} {L : List HP} {fv : Value} {f : List Int} (hf : IntsF F fv f) {ssv : Value} {ss : List StepT} (hss : StepsF F ssv ss) (hlf : f.length ≤ 4000000) (hlss : ss.length ≤ 4000000) (hsb : ∀ i, i < ss.length → (ss.getD i (0, 0, [])).2.2.length ≤ 4000000) :
    Does prog 165 [.agg #[fv, ssv]] F (L) (fun v F' L' => F = F' ∧ IsSl v ∧ intsH 2 v (endL f ss) :: L = L') := by
 refine qG func165 rfl rfl rfl ?_
 have hsb1 := hsb (ss.length - 1)
 refine qd (qb (cX (jb [fv, ssv] rfl rfl ?_)))
 intro b1
 refine qh (sN) rfl (qc (qd (qd (qb (cX (qk (1) ya rfl sizeOf43 (by decide) rfl rfl (cX (qj isAgg43 rfl (Rd.own [] rfl rfl) (cX (qE runUnderlying43 rfl hss.slv (cX (ju rfl rfl (qc ?_)))))))))))))
 refine qC (p := ((ss.length : Int) : Int) = 0) rfl (fun h1 => ?_) (fun h1 => ?_)
 ·refine qd (qb (cX (qk (0) ya rfl qA (by decide) rfl rfl (cX (qj qU rfl (Rd.own [] rfl rfl) (cX (qn (args := [fv]) call105 rfl (l1Copy_spec hf (hlt := (by first | assumption | rfl | omega | simp))) ?_)))))))
  rintro v1 _ _ _ ⟨rfl, hs1, rfl⟩
  refine qh (v1) rfl (qc (qw (ql (qr (L' := intsH 2 v1 ((f)) :: L) [v1] (v1) (.tmp rfl .nil) rfl rF rF (sC (sD sR)) ?_))))
  refine ⟨rfl, hs1, ?_⟩
  have hxs : (endL f ss : List Int) = (f) := by rw [endL, if_pos (by omega)]
  exact congrArg (fun z => intsH 2 _ z :: L) hxs
 refine qz (qd (qb (cX (qk (1) ya rfl sizeOf43 (by decide) rfl rfl (cX (qj isAgg43 rfl (Rd.own [] rfl rfl) (cX (qk (1) ya rfl sizeOf43 (by decide) rfl rfl (cX (qj isAgg43 rfl (Rd.own [] rfl rfl) (cX (qE runUnderlying43 rfl hss.slv (cX (je (((((ss).length) - 1 : Nat) : Int)) rfl rfl (by omega) (by omega) (cX (qt (((ss).length) - 1) runUnderlying43 sizeOf192 rfl rfl rfl hss.slv (by omega) rfl (cX (XOp.fieldE ((((ss).length) - 1) * 3 + 2) runUnderlying192 rfl qA (by decide) rfl rfl ?_))))))))))))))))))
 obtain ⟨a1, ha1, hr1, hr2, hr3⟩ := hss.rd (i := ((ss).length) - 1) (by omega)
 refine cX (qj qU rfl (hr3 _) (cX (qn (args := [a1]) call105 rfl (l1Copy_spec ha1 (hlt := (by first | assumption | rfl | omega | simp))) ?_)))
 rintro v2 _ _ _ ⟨rfl, hs2, rfl⟩
 refine qh (v2) rfl (qc (qw (qr (L' := intsH 2 v2 ((((ss.getD (((ss).length) - 1) (0, 0, [])).2.2))) :: L) [v2] (v2) (.tmp rfl .nil) rfl rF rF (sC (sD sR)) ?_)))
 refine ⟨rfl, hs2, ?_⟩
 have hxs : (endL f ss : List Int) = (((ss.getD (((ss).length) - 1) (0, 0, [])).2.2)) := by rw [endL, if_neg (by omega)]
 exact congrArg (fun z => intsH 2 _ z :: L) hxs

/- spec.NormalBy -/
theorem sNormalBy_spec {F : FH} {L : List HP} {arv : Value} {ar : List Int} (har : IntsF F arv ar) {rsv : Value} {rs : List (List Int × List Int)} (hrs : PairsF F rsv rs) {tv : Value} {t : List Int} (ht : IntsF F tv t) {st : Int} {n : Int} (hla : ar.length ≤ 4000000) (hlr : rs.length ≤ 4000000) (hrb : ∀ i, i < rs.length → (rs.getD i ([], [])).1.length ≤ 4000000 ∧ (rs.getD i ([], [])).2.length ≤ 4000000) (hlt : t.length ≤ 4000000) :
    Does prog 61 [.agg #[arv, rsv], tv, ii (st), ii (n)] F (L) (fun v F' L' => ∃ (a : Value), (.tuple #[a, .bool ((normB ar rs t st n).2)] : Value) = v ∧ (IntsF F' a (normB ar rs t st n).1) ∧ L = L') := by
 refine qG func61 rfl rfl rfl (qd (qb (cX (jb [arv, rsv] rfl rfl ?_))))
 intro b1
 refine qh (sN) rfl (qh (.bool (false)) rfl (qc (qd (qb (cX (qu [arv, rsv] jU jK rfl rfl (Rd.ownN [] rfl rfl) (qg (tv) rfl (qg (ii (st)) rfl (qg (ii (n)) rfl (cX (qn (args := [.agg #[arv, rsv], tv, ii (st), ii (n)]) call164 rfl (sWalkBy_spec (st := st) (n := n) har hrs ht (hla := (by first | assumption | rfl | omega | simp)) (hlr := (by first | assumption | rfl | omega | simp)) (hrb := (by first | assumption | rfl | omega | simp)) (hlt := (by first | assumption | rfl | omega | simp))) ?_)))))))))))
 rintro _ F1 _ le1 ⟨x1, x2, rfl, hr1, hr2, rfl⟩
 refine qg (.tuple #[.agg #[x1, x2], .bool ((walkB ar rs t st n).2.2)]) rfl (cX (jd (.agg #[x1, x2]) rfl rfl (cX (jd (.bool ((walkB ar rs t st n).2.2)) rfl rfl (cX (jr [sN, sN] zeroValue45 rfl ?_))))))
 intro b2
 refine cX (qV [] _ [x1, x2] sizeOf45 rfl rfl rfl (qx (qI (qB hr1)) (qx (qI (StepsF.isSl hr2)) qX)) rfl rfl rfl (qh (.bool ((walkB ar rs t st n).2.2)) rfl (qc (qd (qd (qb (qg (.bool ((walkB ar rs t st n).2.2)) rfl (cX (jt rfl (qc ?_))))))))))
 refine jF (t := !((walkB ar rs t st n).2.2)) rfl (fun h1 => ?_) (fun h1 => ?_)
 ·have hw2 : (walkB ar rs t st n).2.2 = false := by simpa using h1
  refine qd (qb (cX (qs (s := 1) [] [ii (0)] [] qf qq qL rfl (by decide) rfl CellsAre.nil rfl ?_)))
  intro v1 hv1
  refine qh (v1) rfl (qh (.bool (false)) rfl (qc ?_))
  show X _ _ _ _ _ _ (intsH 2 v1 ([] : List Int) :: cellsH b2 [x1, x2] 45 :: cellsH b1 [arv, rsv] 39 :: L)
  refine qY [] _ _ rfl (fun F2 le2 hz1 => ?_)
  replace hr1 := hr1.mono le2
  replace hr2 := hr2.mono le2
  have hf1 : IntsF F2 v1 ([]) := intsH.fz (xs := []) hz1.fz
  refine qw (ql (qr (L' := L) [v1, .bool (false)] (.tuple #[v1, .bool (false)]) (.tmp rfl (.tmp rfl .nil)) rfl (qa le1 le2) rF (sD (sD sR)) ?_))
  have e : normB ar rs t st n = ([], false) := by rw [normB, if_neg (by rw [hw2]; simp)]
  exact ⟨_, by rw [e], by rw [e]; exact hf1, rfl⟩
 have hw2 : (walkB ar rs t st n).2.2 = true := by simpa using h1
 obtain ⟨hw3, hw4, hw5, hw6⟩ := walkB_ok hw2
 have hel : 1 ≤ (endL (walkB ar rs t st n).1 (walkB ar rs t st n).2.1).length ∧ (endL (walkB ar rs t st n).1 (walkB ar rs t st n).2.1).length ≤ 60 := by rw [hw4]; exact termOk_len hw6
 have hwl := walkB_len (ar := ar) (rs := rs) (t := t) (st := st) (n := n)
 refine qz (qd (qb (cX (qu [x1, x2] isAgg45 sizeOf45 rfl rfl (Rd.ownN [] rfl rfl) (cX (jD <| qn (args := [.agg #[x1, x2]]) call165 rfl (l7End_spec hr1 hr2 (hlf := (by rw [hw4]; exact hlt)) (hlss := (by first | assumption | rfl | omega | simp)) (hsb := (fun i hi => by have := termOk_len (walkOk_to hw5 hi); omega))) ?_))))))
 rintro v2 _ _ _ ⟨rfl, hs1, rfl⟩
 refine ⟨_, _, rfl, fun F3 le3 hz2 => ?_⟩
 have hf2 : IntsF F3 v2 ((endL ((walkB ar rs t st n).1) ((walkB ar rs t st n).2.1))) := intsH.fz (xs := (endL ((walkB ar rs t st n).1) ((walkB ar rs t st n).2.1))) hz2.fz
 refine qh (v2) rfl (qh (.bool (true)) rfl (qc (qw (qr (L' := L) [v2, .bool (true)] (.tuple #[v2, .bool (true)]) (.tmp rfl (.tmp rfl .nil)) rfl (qa le1 le3) rF (sD (sD sR)) ?_))))
 have e : normB ar rs t st n = (endL (walkB ar rs t st n).1 (walkB ar rs t st n).2.1, true) := by rw [normB, if_pos hw2]
 exact ⟨_, by rw [e], by rw [e]; exact hf2, rfl⟩

/- impl.argsAt -/
end Go.Proofs.YtjpfankibmeaaaaGreat
