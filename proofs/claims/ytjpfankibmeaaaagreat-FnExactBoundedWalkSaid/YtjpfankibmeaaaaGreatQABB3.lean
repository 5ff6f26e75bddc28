/-
  Walks, one after the other (part 4).
-/
import Derived.Test.YtjpfankibmeaaaaGreatQABL1
import Derived.Test.YtjpfankibmeaaaaGreatQABB2
set_option linter.unusedSimpArgs false
set_option linter.unusedVariables false
namespace Go.Proofs.YtjpfankibmeaaaaGreat
open Go X M Tryz

/- spec.FormOf -/
set_option maxRecDepth 20000 in
theorem sFormOf_spec {F : FH} {L : List HP} {arv : Value} {ar : List Int} (har : IntsF F arv ar) {psv : Value} {ps : List PolyT} (hps : PolysF F psv ps) {tv : Value} {t : List Int} (ht : IntsF F tv t) (hlp : ps.length ≤ 4000000) (hpb : ∀ i, i < ps.length → (ps.getD i (0, [])).2.length ≤ 4000000) (hla : ar.length ≤ 4000000) (hlt : t.length ≤ 4000000) :
    Does prog 272 [.agg #[arv], psv, tv] F (L) (fun v F' L' => ∃ (a : Value), (.tuple #[.agg #[ii (((formO ar ps t).getD (0, [])).1), a], .bool ((formO ar ps t).isSome)] : Value) = v ∧ (IntsF F' a ((formO ar ps t).getD (0, [])).2) ∧ L = L') := by
 refine qC func272 rfl rfl rfl (qc (qa (cX (qI [arv] rfl rfl ?_))))
 intro b1
 refine cX (qY [ii (0), sN] qX rfl ?_)
 intro b2
 refine qd (.bool (false)) rfl (qb (qc (qc (qa (cX (qr [arv] qZ qH rfl rfl (Rd.ownN [_] rfl rfl) (qg (psv) rfl (cX (qq (args := [.agg #[arv], psv]) call339 rfl (sPolysOk_spec har hps (hlp := (by first | assumption | rfl | omega | simp)) (hpb := (by first | assumption | rfl | omega | simp)) (hla := (by first | assumption | rfl | omega | simp))) ?_)))))))))
 rintro _ _ _ _ ⟨rfl, rfl, rfl⟩
 refine cX (jg rfl (qg (.bool (!(polysOk ar ps))) rfl ?_))
 by_cases h1 : (!(polysOk ar ps)) = true
 ·have hpk : polysOk ar ps = false := Bool.not_inj (y := false) h1
  refine qm (t := 12) rfl (vB h1) (qm (t := 12) rfl (vB h1) (qm (t := 12) rfl (vB h1) (qm (t := 12) rfl (vB h1) (cX (qT (.bool (true)) (vB h1) rfl (qb (jv rfl (qc (qa (cX (jA [ii (0), sN] [ii (0), sN] [(0, 1), (1, 1)] [] qt qX rfl (.cons rfl qy (.cons rfl qs PlacesAre.nil)) rfl CellsAre.nil (cX (qL [] _ [ii (0), sN] qE rfl rfl rfl (qz rfl (qz rfl qS)) rfl rfl rfl ?_)))))))))))))
  refine qd (.bool (false)) rfl (qb (qp (qi (ql (L' := L) [.agg #[ii (0), sN], .bool (false)] (.tuple #[.agg #[ii (0), sN], .bool (false)]) (.cell rfl (jq [ii (0), sN] je qE rfl (Rd.ownN [] rfl rfl)) (.tmp rfl .nil)) rfl rF rF (sD (sD sR)) ?_))))
  rw [formO_no (fun h9 => by have h8 := h9.1; have h7 := h9.2; simp_all)]
  exact ⟨_, rfl, IntsF.nilV, rfl⟩
 rw [Bool.not_eq_true] at h1
 have hpk : polysOk ar ps = true := Bool.not_inj (y := true) h1
 refine qn (t := 12) rfl (vB h1) (qr [arv] qZ qH rfl rfl (Rd.ownN [_] rfl rfl) (qn (t := 12) rfl (vB h1) (qo (tv) rfl (qn (t := 12) rfl (vB h1) (qq (args := [.agg #[arv], tv]) call202 rfl (sTermOk_spec har ht (hla := (by first | assumption | rfl | omega | simp)) (hlt := (by first | assumption | rfl | omega | simp))) ?_)))))
 rintro _ _ _ _ ⟨rfl, rfl, rfl⟩
 refine qn (t := 12) rfl (vB h1) (jg rfl (cX (qP (.bool (!(termOk ar t))) (vB h1) rfl (qb ?_))))
 refine jF (t := !(termOk ar t)) rfl (fun h2 => ?_) (fun h2 => ?_)
 ·have hot : termOk ar t = false := Bool.not_inj (y := false) h2
  refine qc (qa (cX (jA [ii (0), sN] [ii (0), sN] [(0, 1), (1, 1)] [] qt qX rfl (.cons rfl qy (.cons rfl qs PlacesAre.nil)) rfl CellsAre.nil (cX (qL [] _ [ii (0), sN] qE rfl rfl rfl (qz rfl (qz rfl qS)) rfl rfl rfl (qd (.bool (false)) rfl (qb (qp (qi (ql (L' := L) [.agg #[ii (0), sN], .bool (false)] (.tuple #[.agg #[ii (0), sN], .bool (false)]) (.cell rfl (jq [ii (0), sN] je qE rfl (Rd.ownN [] rfl rfl)) (.tmp rfl .nil)) rfl rF rF (sD (sD sR)) ?_))))))))))
  rw [formO_no (fun h9 => by have h8 := h9.1; have h7 := h9.2; simp_all)]
  exact ⟨_, rfl, IntsF.nilV, rfl⟩
 have hot : termOk ar t = true := Bool.not_inj (y := true) h2
 have htl := termOk_len hot
 have hsub : sub ar t 0 = t := sub_root hot
 refine qx (qc (qa (cX (qr [arv] qZ qH rfl rfl (Rd.ownN [_] rfl rfl) (qg (psv) rfl (qg (tv) rfl (cX (qq (args := [.agg #[arv], psv, tv]) call341 rfl (sl15Form_spec t.length har hps ht (hpk := (hpk)) (ho := (termW_of hot)) (hd := (rfl))) ?_))))))))
 rintro _ F1 _ le1 ⟨⟨x1, rfl, hr1⟩, rfl⟩
 show XL _ _ _ _ _ _ _ (cellsH b2 [ii (0), sN] 128 :: cellsH b1 [arv] 36 :: L)
 refine cX (qO (.agg #[ii (((formL ar ps t).getD (0, [])).1), x1]) rfl rfl (cX (qO (.bool ((formL ar ps t).isSome)) rfl rfl (cX (qL [] _ [ii (((formL ar ps t).getD (0, [])).1), x1] qE rfl rfl rfl (qz rfl (qz (qW (qM hr1)) qS)) rfl rfl rfl (qd (.bool ((formL ar ps t).isSome)) rfl (qb (qp (ql (L' := L) [.agg #[ii (((formL ar ps t).getD (0, [])).1), x1], .bool ((formL ar ps t).isSome)] (.tuple #[.agg #[ii (((formL ar ps t).getD (0, [])).1), x1], .bool ((formL ar ps t).isSome)]) (.cell rfl (jq [ii (((formL ar ps t).getD (0, [])).1), x1] je qE rfl (Rd.ownN [] rfl rfl)) (.tmp rfl .nil)) rfl le1 rF (sD (sD sR)) ?_)))))))))
 rw [formO_yes hpk hot]
 exact ⟨_, rfl, hr1, rfl⟩

/- spec.ValueAt -/
set_option maxRecDepth 20000 in
theorem sValueAt_spec {F : FH} {L : List HP} {arv : Value} {ar : List Int} (har : IntsF F arv ar) {psv : Value} {ps : List PolyT} (hps : PolysF F psv ps) {tv : Value} {t : List Int} (ht : IntsF F tv t) {vsv : Value} {vs : List Int} (hvs : IntsF F vsv vs) (hlp : ps.length ≤ 4000000) (hpb : ∀ i, i < ps.length → (ps.getD i (0, [])).2.length ≤ 4000000) (hla : ar.length ≤ 4000000) (hlt : t.length ≤ 4000000) (hv0 : vs.length = 0) :
    Does prog 169 [.agg #[arv], psv, tv, vsv] F (L) (fun v F' L' => (.tuple #[ii ((valueL ar ps t).getD 0), .bool ((valueL ar ps t).isSome)] : Value) = v ∧ L = L') := by
 refine qC func169 rfl rfl rfl (qc (qa (cX (qI [arv] rfl rfl ?_))))
 intro b1
 refine qd (ii (0)) rfl (qd (.bool (false)) rfl (qb (qc (qa (cX (qr [arv] qZ qH rfl rfl (Rd.ownN [] rfl rfl) (qg (psv) rfl (qg (tv) rfl (cX (qq (args := [.agg #[arv], psv, tv]) call272 rfl (sFormOf_spec har hps ht (hlp := (by first | assumption | rfl | omega | simp)) (hpb := (by first | assumption | rfl | omega | simp)) (hla := (by first | assumption | rfl | omega | simp)) (hlt := (by first | assumption | rfl | omega | simp))) ?_))))))))))
 rintro _ F1 _ le1 ⟨x1, rfl, hr1, rfl⟩
 replace hvs := hvs.mono le1
 refine qg (.tuple #[.agg #[ii (((formO ar ps t).getD (0, [])).1), x1], .bool ((formO ar ps t).isSome)]) rfl (cX (qO (.agg #[ii (((formO ar ps t).getD (0, [])).1), x1]) rfl rfl (cX (qO (.bool ((formO ar ps t).isSome)) rfl rfl (cX (qY [ii (0), sN] qX rfl ?_))))))
 intro b2
 refine cX (qL [] _ [ii (((formO ar ps t).getD (0, [])).1), x1] qE rfl rfl rfl (qz rfl (qz (qW (qM hr1)) qS)) rfl rfl rfl (qd (.bool ((formO ar ps t).isSome)) rfl (qb (qc (qc (qa (qg (.bool ((formO ar ps t).isSome)) rfl (cX (jg rfl (qg (.bool (!((formO ar ps t).isSome))) rfl ?_))))))))))
 by_cases h1 : (!((formO ar ps t).isSome)) = true
 ·have hfo : (formO ar ps t).isSome = false := Bool.not_inj (y := false) h1
  have hfn : (formO ar ps t) = none := by revert hfo; cases (formO ar ps t) <;> simp
  refine qm (t := 24) rfl (vB h1) (qm (t := 24) rfl (vB h1) (qm (t := 24) rfl (vB h1) (cX (qT (.bool (true)) (vB h1) rfl (qb (jv rfl (qc (qa (qd (ii (0)) rfl (qd (.bool (false)) rfl (qb ?_)))))))))))
  refine qp (qi (ql (L' := L) [ii (0), .bool (false)] (.tuple #[ii (0), .bool (false)]) (.tmp rfl (.tmp rfl .nil)) rfl le1 rF (sD (sD sR)) ?_))
  first | (rw [valueL_eq, hfn]; exact ⟨rfl, rfl⟩) | (rw [valueL_eq, hx9]; exact ⟨rfl, rfl⟩)
 rw [Bool.not_eq_true] at h1
 have hfo : (formO ar ps t).isSome = true := Bool.not_inj (y := true) h1
 obtain ⟨x9, hx9⟩ := Option.isSome_iff_exists.1 hfo
 have hin9 := formO_in hx9
 have hxc := hin9.1
 have hxe : ((formO ar ps t).getD (0, [])) = x9 := by rw [hx9]; rfl
 have hxe1 : ((formO ar ps t).getD (0, [])).1 = x9.1 := by rw [hxe]
 refine qn (t := 24) rfl (vB h1) (qo (vsv) rfl (qn (t := 24) rfl (vB h1) (qB qf rfl hvs.slv (qn (t := 24) rfl (vB h1) (jn rfl rfl (cX (qP (.bool (decide (((vs.length : Int) : Int) > 24))) (vB h1) rfl (qb ?_))))))))
 refine qw (p := ((vs.length : Int) : Int) > 24) rfl (fun h2 => ?_) (fun h2 => ?_)
 ·exact absurd h2 (by omega)
 refine qx (qc (qc (qa (qd (ii (0)) rfl (qb (qG (jd (α := Unit) (fun xQ => [(3, vsv), (10, ptr b2 0), (12, ii (0))]) (fun xQ => cellsH b2 [ii (((formO ar ps t).getD (0, [])).1), x1] 128 :: cellsH b1 [arv] 36 :: L) (fun xQ F' => F1 = F' ∧ (True)) (fun xQ => 0) () ⟨rfl, rfl, rfl, ⟨⟩⟩ (sC (sC sR)) ⟨rfl, (trivial)⟩ ?_)))))))
 rintro ⟨⟩ rE _ _ ⟨rfl, htr⟩
 show X _ _ _ _ (envs [(3, vsv), (10, ptr b2 0), (12, ii (0))] rE) _ (cellsH b2 [ii (((formO ar ps t).getD (0, [])).1), x1] 128 :: cellsH b1 [arv] 36 :: L)
 refine qc (qc (qa (qg (ii (0)) rfl (qg (vsv) rfl (cX (qB qf rfl hvs.slv (cX (qK rfl rfl (qb ?_)))))))))
 refine qw (p := (0 : Int) < (vs.length : Int)) rfl (fun h3 => ?_) (fun h3 => ?_)
 ·exact absurd h3 (by omega)
 refine jb (qu (qu (qJ (qc (qa (cX (qj (0) qt rfl qy (by decide) rfl rfl (cX (qh qQ rfl (Rd.own [] rfl rfl) (qd (ii (((formO ar ps t).getD (0, [])).1)) rfl (qb (qc (qc (qa (qd (ii (0)) rfl (qb (qG (jd (α := Unit) (fun xQ => [(3, vsv), (10, ptr b2 0), (13, ii (((formO ar ps t).getD (0, [])).1)), (14, ii (0))]) (fun xQ => cellsH b2 [ii (((formO ar ps t).getD (0, [])).1), x1] 128 :: cellsH b1 [arv] 36 :: L) (fun xQ F' => F1 = F' ∧ (True)) (fun xQ => 0) () ⟨rfl, rfl, rfl, rfl, ⟨⟩⟩ (sC (sC sR)) ⟨rfl, (trivial)⟩ ?_))))))))))))))))))
 rintro ⟨⟩ rE _ _ ⟨rfl, htr⟩
 show X _ _ _ _ (envs [(3, vsv), (10, ptr b2 0), (13, ii (((formO ar ps t).getD (0, [])).1)), (14, ii (0))] rE) _ (cellsH b2 [ii (((formO ar ps t).getD (0, [])).1), x1] 128 :: cellsH b1 [arv] 36 :: L)
 refine qc (qc (qa (qg (ii (0)) rfl (cX (qj (1) qt rfl qs (by decide) rfl rfl (cX (qh qF rfl (Rd.own [] rfl rfl) (cX (qB qf rfl hr1.slv (cX (qK rfl rfl (qg (.bool (decide ((0 : Int) < (((((formO ar ps t).getD (0, [])).2).length : Nat) : Int)))) rfl ?_))))))))))))
 by_cases h4 : (0 : Int) < (((((formO ar ps t).getD (0, [])).2).length : Nat) : Int)
 ·refine qn (t := 48) rfl (vT h4) (qo (ii (0)) rfl (qn (t := 48) rfl (vT h4) (qo (vsv) rfl (qn (t := 48) rfl (vT h4) (qB qf rfl hvs.slv (qn (t := 48) rfl (vT h4) (qK rfl rfl (cX (qT (.bool (decide ((0 : Int) < (vs.length : Int)))) (vT h4) rfl (qb (X.condF (vF h3) (jb (qu (qu (qJ (qc (qc (qa (qg (ii (((formO ar ps t).getD (0, [])).1)) rfl ?_)))))))))))))))))))
  refine cX (jn rfl rfl (qb ?_))
  refine qw (p := (((formO ar ps t).getD (0, [])).1 : Int) > 1000000000000) rfl (fun h5 => ?_) (fun h5 => ?_)
  ·exact absurd h5 (by omega)
  refine qx (qc (qa (qg (ii (((formO ar ps t).getD (0, [])).1)) rfl (qd (ii (((formO ar ps t).getD (0, [])).1)) rfl (qd (.bool (true)) rfl (qb (qp (ql (L' := L) [ii (((formO ar ps t).getD (0, [])).1), .bool (true)] (.tuple #[ii (((formO ar ps t).getD (0, [])).1), .bool (true)]) (.tmp rfl (.tmp rfl .nil)) rfl le1 rF (sD (sD sR)) ?_))))))))
  first | (rw [valueL_eq, hfn]; exact ⟨rfl, rfl⟩) | (rw [valueL_eq, hx9]; exact ⟨rfl, rfl⟩)
 refine qm (t := 48) rfl (vF h4) (qm (t := 48) rfl (vF h4) (qm (t := 48) rfl (vF h4) (qm (t := 48) rfl (vF h4) (cX (qP (.bool (false)) (vF h4) rfl (qb (X.condF rfl (jb (qu (qu (qJ (qc (qc (qa (qg (ii (((formO ar ps t).getD (0, [])).1)) rfl ?_)))))))))))))))
 refine cX (jn rfl rfl (qb ?_))
 refine qw (p := (((formO ar ps t).getD (0, [])).1 : Int) > 1000000000000) rfl (fun h6 => ?_) (fun h6 => ?_)
 ·exact absurd h6 (by omega)
 refine qx (qc (qa (qg (ii (((formO ar ps t).getD (0, [])).1)) rfl (qd (ii (((formO ar ps t).getD (0, [])).1)) rfl (qd (.bool (true)) rfl (qb (qp (ql (L' := L) [ii (((formO ar ps t).getD (0, [])).1), .bool (true)] (.tuple #[ii (((formO ar ps t).getD (0, [])).1), .bool (true)]) (.tmp rfl (.tmp rfl .nil)) rfl le1 rF (sD (sD sR)) ?_))))))))
 first | (rw [valueL_eq, hfn]; exact ⟨rfl, rfl⟩) | (rw [valueL_eq, hx9]; exact ⟨rfl, rfl⟩)

/- spec.l15Most -/
theorem sl15Most_spec {F : FH} {L : List HP} {ac : Int} {afv : Value} {af : List Int} (haf : IntsF F afv af) {bc : Int} {bfv : Value} {bf : List Int} (hbf : IntsF F bfv bf) (hA : InP 1000000000000 (ac, af)) (hB : InP 1000000000000 (bc, bf)) :
    Does prog 340 [.agg #[ii (ac), afv], .agg #[ii (bc), bfv]] F (L) (fun v F' L' => (.bool (mostP (ac, af) (bc, bf)) : Value) = v ∧ F = F' ∧ L = L') := by
 refine qC func340 rfl rfl rfl ?_
 have hal9 : af.length ≤ 48 := hA.2.1
 have hbl9 : bf.length ≤ 48 := hB.2.1
 refine qc (qa (cX (qI [ii (ac), afv] rfl rfl ?_)))
 intro b1
 refine cX (qI [ii (bc), bfv] rfl rfl ?_)
 intro b2
 refine qd (.bool (false)) rfl (qb (qc (qc (qa (qd (ii (0)) rfl (qb (qG (jd (α := Nat) (fun k => [(2, ptr b1 0), (3, ptr b2 0), (5, ii ((k : Int)))]) (fun k => cellsH b2 [ii (bc), bfv] 128 :: cellsH b1 [ii (ac), afv] 128 :: L) (fun k F' => F = F' ∧ (k ≤ af.length) ∧ (∀ i, i < k → ¬ (af.getD i 0 > 0 ∧ (bf.length ≤ i ∨ af.getD i 0 > bf.getD i 0)))) (fun k => af.length - k) 0 ⟨rfl, rfl, rfl, ⟨⟩⟩ (sC (sC sR)) ⟨rfl, (by (try dsimp only) <;> omega), (fun i hi => absurd hi (by omega))⟩ ?_))))))))
 rintro k rE _ _ ⟨rfl, hk, hall⟩
 show X _ _ _ _ (envs [(2, ptr b1 0), (3, ptr b2 0), (5, ii ((k : Int)))] rE) _ (cellsH b2 [ii (bc), bfv] 128 :: cellsH b1 [ii (ac), afv] 128 :: L)
 refine qc (qc (qa (qg (ii ((k : Int))) rfl (cX (qj (1) qt rfl qs (by decide) rfl rfl (cX (qh qF rfl (Rd.own [_] rfl rfl) (cX (qB qf rfl haf.slv (cX (qK rfl rfl (qb ?_))))))))))))
 refine qw (p := (k : Int) < (af.length : Int)) rfl (fun h1 => ?_) (fun h1 => ?_)
 ·refine qx (qc (qG (qc ?_)))
  by_cases h2 : (af.getD k 0 : Int) > 0
  ·by_cases h3 : (k : Int) ≥ (bf.length : Int)
   ·refine jB [cellsH b2 [ii (bc), bfv] 128, cellsH b1 [ii (ac), afv] 128] L 23 [] [[], [0], [], [1, 2], [3], [4], [5], [6], [6], [6, 8], [6, 9], [6, 7, 10], [6, 11], [12], [12, 13], [12], [12, 14, 15], [12, 16], [12], [12, 18], [12], [12, 19, 20], [12, 21]] (phiL [qe (ptr b1 1), qe afv, qe (ii ((k : Int)) : Value), qe (.pointer (some (elemA afv (k)))), qe (ii (af.getD k 0)), qe (.bool (decide ((af.getD k 0 : Int) > 0)) : Value), qe (.bool (decide ((af.getD k 0 : Int) > 0)) : Value), qe (ii ((k : Int)) : Value), qe (ptr b2 1), qe bfv, qe (ii ((bf.length : Int)) : Value), qe (.bool (decide ((k : Int) ≥ (bf.length : Int))) : Value), qe (.bool (decide ((k : Int) ≥ (bf.length : Int))) : Value), qe undef, qe undef, qe undef, qe undef, qe undef, qe undef, qe undef, qe undef, qe undef, qe undef]) (ownL []) mixed rfl rfl (by kernel_rfl) ?_ ?_
    ·refine pD (fun W R z9 => ?_) ?_
     ·refine qk (qj (1) qt rfl qs (by decide) rfl rfl ?_)
      exact ⟨rfl, rfl, rfl⟩
     refine pD (fun W R z9 => ?_) ?_
     ·rw [eS (l := [(0, _)]) ⟨z9 0 rfl, ⟨⟩⟩]
      refine qk (qh qF rfl (Rd.own [_] rfl rfl) ?_)
      exact ⟨rfl, rfl, rfl⟩
     refine pD (fun W R z9 => ?_) ?_
     ·refine qk (qo (ii ((k : Int))) rfl ?_)
      exact ⟨rfl, rfl, rfl⟩
     refine pD (fun W R z9 => ?_) ?_
     ·rw [eS (l := [(1, _), (2, _)]) ⟨z9 1 rfl, z9 2 rfl, ⟨⟩⟩]
      refine qk (qv k qf qy rfl rfl rfl haf.slv (by omega) (Nat.mul_one _) ?_)
      exact ⟨rfl, rfl, rfl⟩
     refine pD (fun W R z9 => ?_) ?_
     ·rw [eS (l := [(3, _)]) ⟨z9 3 rfl, ⟨⟩⟩]
      refine qk (qh qQ rfl (haf.rd (by omega)) ?_)
      exact ⟨rfl, rfl, rfl⟩
     refine pD (fun W R z9 => ?_) ?_
     ·rw [eS (l := [(4, _)]) ⟨z9 4 rfl, ⟨⟩⟩]
      refine qk (jn rfl rfl ?_)
      exact ⟨rfl, rfl, rfl⟩
     refine pD (fun W R z9 => ?_) ?_
     ·rw [eS (l := [(5, _)]) ⟨z9 5 rfl, ⟨⟩⟩]
      refine qk (qo (.bool (decide ((af.getD k 0 : Int) > 0))) rfl ?_)
      exact ⟨rfl, rfl, rfl⟩
     refine pD (fun W R z9 => ?_) ?_
     ·rw [eS (l := [(6, _)]) ⟨z9 6 rfl, ⟨⟩⟩]
      refine jm (t := 19) rfl (vT h2) (qo (ii ((k : Int))) rfl ?_)
      exact ⟨rfl, rfl, rfl⟩
     refine pD (fun W R z9 => ?_) ?_
     ·rw [eS (l := [(6, _)]) ⟨z9 6 rfl, ⟨⟩⟩]
      refine jm (t := 19) rfl (vT h2) (qj (1) qt rfl qs (by decide) rfl rfl ?_)
      exact ⟨rfl, rfl, rfl⟩
     refine pD (fun W R z9 => ?_) ?_
     ·rw [eS (l := [(6, _), (8, _)]) ⟨z9 6 rfl, z9 8 rfl, ⟨⟩⟩]
      refine jm (t := 19) rfl (vT h2) (qh qF rfl (Rd.own [] rfl rfl) ?_)
      exact ⟨rfl, rfl, rfl⟩
     refine pD (fun W R z9 => ?_) ?_
     ·rw [eS (l := [(6, _), (9, _)]) ⟨z9 6 rfl, z9 9 rfl, ⟨⟩⟩]
      refine jm (t := 19) rfl (vT h2) (qB qf rfl hbf.slv ?_)
      exact ⟨rfl, rfl, rfl⟩
     refine pD (fun W R z9 => ?_) ?_
     ·rw [eS (l := [(6, _), (7, _), (10, _)]) ⟨z9 6 rfl, z9 7 rfl, z9 10 rfl, ⟨⟩⟩]
      refine jm (t := 19) rfl (vT h2) (XOp.geq rfl rfl ?_)
      exact ⟨rfl, rfl, rfl⟩
     refine pD (fun W R z9 => ?_) ?_
     ·rw [eS (l := [(6, _), (11, _)]) ⟨z9 6 rfl, z9 11 rfl, ⟨⟩⟩]
      refine jm (t := 19) rfl (vT h2) (qo (.bool (decide ((k : Int) ≥ (bf.length : Int)))) rfl ?_)
      exact ⟨rfl, rfl, rfl⟩
     refine pD (fun W R z9 => ?_) ?_
     ·rw [eS (l := [(12, _)]) ⟨z9 12 rfl, ⟨⟩⟩]
      exact jD (t := 25) rfl (vT h3) ⟨rfl, rfl, rfl⟩
     refine pD (fun W R z9 => ?_) ?_
     ·rw [eS (l := [(12, _), (13, undef)]) ⟨z9 12 rfl, z9 13 rfl, ⟨⟩⟩]
      exact jD (t := 25) rfl (vT h3) ⟨rfl, rfl, rfl⟩
     refine pD (fun W R z9 => ?_) ?_
     ·rw [eS (l := [(12, _)]) ⟨z9 12 rfl, ⟨⟩⟩]
      exact jD (t := 25) rfl (vT h3) ⟨rfl, rfl, rfl⟩
     refine pD (fun W R z9 => ?_) ?_
     ·rw [eS (l := [(12, _), (14, undef), (15, undef)]) ⟨z9 12 rfl, z9 14 rfl, z9 15 rfl, ⟨⟩⟩]
      exact jD (t := 25) rfl (vT h3) ⟨rfl, rfl, rfl⟩
     refine pD (fun W R z9 => ?_) ?_
     ·rw [eS (l := [(12, _), (16, undef)]) ⟨z9 12 rfl, z9 16 rfl, ⟨⟩⟩]
      exact jD (t := 25) rfl (vT h3) ⟨rfl, rfl, rfl⟩
     refine pD (fun W R z9 => ?_) ?_
     ·rw [eS (l := [(12, _)]) ⟨z9 12 rfl, ⟨⟩⟩]
      exact jD (t := 25) rfl (vT h3) ⟨rfl, rfl, rfl⟩
     refine pD (fun W R z9 => ?_) ?_
     ·rw [eS (l := [(12, _), (18, undef)]) ⟨z9 12 rfl, z9 18 rfl, ⟨⟩⟩]
      exact jD (t := 25) rfl (vT h3) ⟨rfl, rfl, rfl⟩
     refine pD (fun W R z9 => ?_) ?_
     ·rw [eS (l := [(12, _)]) ⟨z9 12 rfl, ⟨⟩⟩]
      exact jD (t := 25) rfl (vT h3) ⟨rfl, rfl, rfl⟩
     refine pD (fun W R z9 => ?_) ?_
     ·rw [eS (l := [(12, _), (19, undef), (20, undef)]) ⟨z9 12 rfl, z9 19 rfl, z9 20 rfl, ⟨⟩⟩]
      exact jD (t := 25) rfl (vT h3) ⟨rfl, rfl, rfl⟩
     refine pD (fun W R z9 => ?_) ?_
     ·rw [eS (l := [(12, _), (21, undef)]) ⟨z9 12 rfl, z9 21 rfl, ⟨⟩⟩]
      exact jD (t := 25) rfl (vT h3) ⟨rfl, rfl, rfl⟩
     exact stepsP.nil
    intro W hphi
    rw [eS (l := [(6, _), (12, _), (17, undef), (22, undef)]) ⟨(hphi 6 (by decide)), (hphi 12 (by decide)), (hphi 17 (by decide)), (hphi 22 (by decide)), ⟨⟩⟩]
    show XL _ _ _ _ _ _ _ (cellsH b2 [ii (bc), bfv] 128 :: cellsH b1 [ii (ac), afv] 128 :: L)
    refine qm (t := 25) rfl (vT h3) (qn (t := 19) rfl (vT h2) (qT (.bool (true)) (vT h3) rfl (cX (qT (.bool (true)) (vT h2) rfl (qb (jv rfl (qc (qa (qd (.bool (false)) rfl (qb (qp (qA (qi (qi (qA (qi (ql (L' := L) [.bool (false)] (.bool (false)) (.tmp rfl .nil) rfl rF rF (sD (sD sR)) ?_)))))))))))))))))
    exact ⟨(vB (mostP_bad (i := k) (by dsimp only; omega) (by dsimp only; omega))), rfl, rfl⟩
   refine jB [cellsH b2 [ii (bc), bfv] 128, cellsH b1 [ii (ac), afv] 128] L 23 [] [[], [0], [], [1, 2], [3], [4], [5], [6], [6], [6, 8], [6, 9], [6, 7, 10], [6, 11], [12], [12, 13], [12], [12, 14, 15], [12, 16], [12], [12, 18], [12], [12, 19, 20], [12, 21]] (phiL [qe (ptr b1 1), qe afv, qe (ii ((k : Int)) : Value), qe (.pointer (some (elemA afv (k)))), qe (ii (af.getD k 0)), qe (.bool (decide ((af.getD k 0 : Int) > 0)) : Value), qe (.bool (decide ((af.getD k 0 : Int) > 0)) : Value), qe (ii ((k : Int)) : Value), qe (ptr b2 1), qe bfv, qe (ii ((bf.length : Int)) : Value), qe (.bool (decide ((k : Int) ≥ (bf.length : Int))) : Value), qe (.bool (decide ((k : Int) ≥ (bf.length : Int))) : Value), qe (ptr b1 1), qe afv, qe (ii ((k : Int)) : Value), qe (.pointer (some (elemA afv (k)))), qe (ii (af.getD k 0)), qe (ptr b2 1), qe bfv, qe (ii ((k : Int)) : Value), qe (.pointer (some (elemA bfv (k)))), qe (ii (bf.getD k 0))]) (ownL []) mixed rfl rfl (by kernel_rfl) ?_ ?_
   ·refine pD (fun W R z9 => ?_) ?_
    ·refine qk (qj (1) qt rfl qs (by decide) rfl rfl ?_)
     exact ⟨rfl, rfl, rfl⟩
    refine pD (fun W R z9 => ?_) ?_
    ·rw [eS (l := [(0, _)]) ⟨z9 0 rfl, ⟨⟩⟩]
     refine qk (qh qF rfl (Rd.own [_] rfl rfl) ?_)
     exact ⟨rfl, rfl, rfl⟩
    refine pD (fun W R z9 => ?_) ?_
    ·refine qk (qo (ii ((k : Int))) rfl ?_)
     exact ⟨rfl, rfl, rfl⟩
    refine pD (fun W R z9 => ?_) ?_
    ·rw [eS (l := [(1, _), (2, _)]) ⟨z9 1 rfl, z9 2 rfl, ⟨⟩⟩]
     refine qk (qv k qf qy rfl rfl rfl haf.slv (by omega) (Nat.mul_one _) ?_)
     exact ⟨rfl, rfl, rfl⟩
    refine pD (fun W R z9 => ?_) ?_
    ·rw [eS (l := [(3, _)]) ⟨z9 3 rfl, ⟨⟩⟩]
     refine qk (qh qQ rfl (haf.rd (by omega)) ?_)
     exact ⟨rfl, rfl, rfl⟩
    refine pD (fun W R z9 => ?_) ?_
    ·rw [eS (l := [(4, _)]) ⟨z9 4 rfl, ⟨⟩⟩]
     refine qk (jn rfl rfl ?_)
     exact ⟨rfl, rfl, rfl⟩
    refine pD (fun W R z9 => ?_) ?_
    ·rw [eS (l := [(5, _)]) ⟨z9 5 rfl, ⟨⟩⟩]
     refine qk (qo (.bool (decide ((af.getD k 0 : Int) > 0))) rfl ?_)
     exact ⟨rfl, rfl, rfl⟩
    refine pD (fun W R z9 => ?_) ?_
    ·rw [eS (l := [(6, _)]) ⟨z9 6 rfl, ⟨⟩⟩]
     refine jm (t := 19) rfl (vT h2) (qo (ii ((k : Int))) rfl ?_)
     exact ⟨rfl, rfl, rfl⟩
    refine pD (fun W R z9 => ?_) ?_
    ·rw [eS (l := [(6, _)]) ⟨z9 6 rfl, ⟨⟩⟩]
     refine jm (t := 19) rfl (vT h2) (qj (1) qt rfl qs (by decide) rfl rfl ?_)
     exact ⟨rfl, rfl, rfl⟩
    refine pD (fun W R z9 => ?_) ?_
    ·rw [eS (l := [(6, _), (8, _)]) ⟨z9 6 rfl, z9 8 rfl, ⟨⟩⟩]
     refine jm (t := 19) rfl (vT h2) (qh qF rfl (Rd.own [] rfl rfl) ?_)
     exact ⟨rfl, rfl, rfl⟩
    refine pD (fun W R z9 => ?_) ?_
    ·rw [eS (l := [(6, _), (9, _)]) ⟨z9 6 rfl, z9 9 rfl, ⟨⟩⟩]
     refine jm (t := 19) rfl (vT h2) (qB qf rfl hbf.slv ?_)
     exact ⟨rfl, rfl, rfl⟩
    refine pD (fun W R z9 => ?_) ?_
    ·rw [eS (l := [(6, _), (7, _), (10, _)]) ⟨z9 6 rfl, z9 7 rfl, z9 10 rfl, ⟨⟩⟩]
     refine jm (t := 19) rfl (vT h2) (XOp.geq rfl rfl ?_)
     exact ⟨rfl, rfl, rfl⟩
    refine pD (fun W R z9 => ?_) ?_
    ·rw [eS (l := [(6, _), (11, _)]) ⟨z9 6 rfl, z9 11 rfl, ⟨⟩⟩]
     refine jm (t := 19) rfl (vT h2) (qo (.bool (decide ((k : Int) ≥ (bf.length : Int)))) rfl ?_)
     exact ⟨rfl, rfl, rfl⟩
    refine pD (fun W R z9 => ?_) ?_
    ·rw [eS (l := [(12, _)]) ⟨z9 12 rfl, ⟨⟩⟩]
     refine jm (t := 25) rfl (vF h3) (qj (1) qt rfl qs (by decide) rfl rfl ?_)
     exact ⟨rfl, rfl, rfl⟩
    refine pD (fun W R z9 => ?_) ?_
    ·rw [eS (l := [(12, _), (13, _)]) ⟨z9 12 rfl, z9 13 rfl, ⟨⟩⟩]
     refine jm (t := 25) rfl (vF h3) (qh qF rfl (Rd.own [_] rfl rfl) ?_)
     exact ⟨rfl, rfl, rfl⟩
    refine pD (fun W R z9 => ?_) ?_
    ·rw [eS (l := [(12, _)]) ⟨z9 12 rfl, ⟨⟩⟩]
     refine jm (t := 25) rfl (vF h3) (qo (ii ((k : Int))) rfl ?_)
     exact ⟨rfl, rfl, rfl⟩
    refine pD (fun W R z9 => ?_) ?_
    ·rw [eS (l := [(12, _), (14, _), (15, _)]) ⟨z9 12 rfl, z9 14 rfl, z9 15 rfl, ⟨⟩⟩]
     refine jm (t := 25) rfl (vF h3) (qv k qf qy rfl rfl rfl haf.slv (by omega) (Nat.mul_one _) ?_)
     exact ⟨rfl, rfl, rfl⟩
    refine pD (fun W R z9 => ?_) ?_
    ·rw [eS (l := [(12, _), (16, _)]) ⟨z9 12 rfl, z9 16 rfl, ⟨⟩⟩]
     refine jm (t := 25) rfl (vF h3) (qh qQ rfl (haf.rd (by omega)) ?_)
     exact ⟨rfl, rfl, rfl⟩
    refine pD (fun W R z9 => ?_) ?_
    ·rw [eS (l := [(12, _)]) ⟨z9 12 rfl, ⟨⟩⟩]
     refine jm (t := 25) rfl (vF h3) (qj (1) qt rfl qs (by decide) rfl rfl ?_)
     exact ⟨rfl, rfl, rfl⟩
    refine pD (fun W R z9 => ?_) ?_
    ·rw [eS (l := [(12, _), (18, _)]) ⟨z9 12 rfl, z9 18 rfl, ⟨⟩⟩]
     refine jm (t := 25) rfl (vF h3) (qh qF rfl (Rd.own [] rfl rfl) ?_)
     exact ⟨rfl, rfl, rfl⟩
    refine pD (fun W R z9 => ?_) ?_
    ·rw [eS (l := [(12, _)]) ⟨z9 12 rfl, ⟨⟩⟩]
     refine jm (t := 25) rfl (vF h3) (qo (ii ((k : Int))) rfl ?_)
     exact ⟨rfl, rfl, rfl⟩
    refine pD (fun W R z9 => ?_) ?_
    ·rw [eS (l := [(12, _), (19, _), (20, _)]) ⟨z9 12 rfl, z9 19 rfl, z9 20 rfl, ⟨⟩⟩]
     refine jm (t := 25) rfl (vF h3) (qv k qf qy rfl rfl rfl hbf.slv (by omega) (Nat.mul_one _) ?_)
     exact ⟨rfl, rfl, rfl⟩
    refine pD (fun W R z9 => ?_) ?_
    ·rw [eS (l := [(12, _), (21, _)]) ⟨z9 12 rfl, z9 21 rfl, ⟨⟩⟩]
     refine jm (t := 25) rfl (vF h3) (qh qQ rfl (hbf.rd (by omega)) ?_)
     exact ⟨rfl, rfl, rfl⟩
    exact stepsP.nil
   intro W hphi
   rw [eS (l := [(6, _), (12, _), (17, _), (22, _)]) ⟨(hphi 6 (by decide)), (hphi 12 (by decide)), (hphi 17 (by decide)), (hphi 22 (by decide)), ⟨⟩⟩]
   show XL _ _ _ _ _ _ _ (cellsH b2 [ii (bc), bfv] 128 :: cellsH b1 [ii (ac), afv] 128 :: L)
   refine qn (t := 25) rfl (vF h3) (jn rfl rfl (qn (t := 19) rfl (vT h2) (qP (.bool (decide ((af.getD k 0 : Int) > bf.getD k 0))) (vF h3) rfl (cX (qT (.bool (decide ((af.getD k 0 : Int) > bf.getD k 0))) (vT h2) rfl (qb ?_))))))
   refine qw (p := (af.getD k 0 : Int) > bf.getD k 0) rfl (fun h4 => ?_) (fun h4 => ?_)
   ·refine qc (qa (qd (.bool (false)) rfl (qb (qp (qA (qi (qi (qA (qi (ql (L' := L) [.bool (false)] (.bool (false)) (.tmp rfl .nil) rfl rF rF (sD (sD sR)) ?_))))))))))
    exact ⟨(vB (mostP_bad (i := k) (by dsimp only; omega) (by dsimp only; omega))), rfl, rfl⟩
   refine qx (qa (qg (ii ((k : Int))) rfl (cX (qN (((k + 1 : Nat) : Int)) rfl rfl (by omega) (by omega) (qd (ii (((k + 1 : Nat) : Int))) rfl (qb ?_))))))
   exact ⟨k + 1, _, FLe.refl _, rF, ⟨rfl, rfl, rfl, ⟨⟩⟩, (sC (sC sR)), ⟨rfl, (by (try dsimp only) <;> omega), (fun i hi => (Nat.lt_or_ge i k).elim (fun h => hall i h) (fun h => by obtain rfl : i = k := (by omega); omega))⟩, (by omega)⟩
  refine jB [cellsH b2 [ii (bc), bfv] 128, cellsH b1 [ii (ac), afv] 128] L 23 [] [[], [0], [], [1, 2], [3], [4], [5], [6], [6], [6, 8], [6, 9], [6, 7, 10], [6, 11], [12], [12, 13], [12], [12, 14, 15], [12, 16], [12], [12, 18], [12], [12, 19, 20], [12, 21]] (phiL [qe (ptr b1 1), qe afv, qe (ii ((k : Int)) : Value), qe (.pointer (some (elemA afv (k)))), qe (ii (af.getD k 0)), qe (.bool (decide ((af.getD k 0 : Int) > 0)) : Value), qe (.bool (decide ((af.getD k 0 : Int) > 0)) : Value), qe undef, qe undef, qe undef, qe undef, qe undef, qe undef, qe undef, qe undef, qe undef, qe undef, qe undef, qe undef, qe undef, qe undef, qe undef, qe undef]) (ownL []) mixed rfl rfl (by kernel_rfl) ?_ ?_
  ·refine pD (fun W R z9 => ?_) ?_
   ·refine qk (qj (1) qt rfl qs (by decide) rfl rfl ?_)
    exact ⟨rfl, rfl, rfl⟩
   refine pD (fun W R z9 => ?_) ?_
   ·rw [eS (l := [(0, _)]) ⟨z9 0 rfl, ⟨⟩⟩]
    refine qk (qh qF rfl (Rd.own [_] rfl rfl) ?_)
    exact ⟨rfl, rfl, rfl⟩
   refine pD (fun W R z9 => ?_) ?_
   ·refine qk (qo (ii ((k : Int))) rfl ?_)
    exact ⟨rfl, rfl, rfl⟩
   refine pD (fun W R z9 => ?_) ?_
   ·rw [eS (l := [(1, _), (2, _)]) ⟨z9 1 rfl, z9 2 rfl, ⟨⟩⟩]
    refine qk (qv k qf qy rfl rfl rfl haf.slv (by omega) (Nat.mul_one _) ?_)
    exact ⟨rfl, rfl, rfl⟩
   refine pD (fun W R z9 => ?_) ?_
   ·rw [eS (l := [(3, _)]) ⟨z9 3 rfl, ⟨⟩⟩]
    refine qk (qh qQ rfl (haf.rd (by omega)) ?_)
    exact ⟨rfl, rfl, rfl⟩
   refine pD (fun W R z9 => ?_) ?_
   ·rw [eS (l := [(4, _)]) ⟨z9 4 rfl, ⟨⟩⟩]
    refine qk (jn rfl rfl ?_)
    exact ⟨rfl, rfl, rfl⟩
   refine pD (fun W R z9 => ?_) ?_
   ·rw [eS (l := [(5, _)]) ⟨z9 5 rfl, ⟨⟩⟩]
    refine qk (qo (.bool (decide ((af.getD k 0 : Int) > 0))) rfl ?_)
    exact ⟨rfl, rfl, rfl⟩
   refine pD (fun W R z9 => ?_) ?_
   ·rw [eS (l := [(6, _)]) ⟨z9 6 rfl, ⟨⟩⟩]
    exact jD (t := 19) rfl (vF h2) ⟨rfl, rfl, rfl⟩
   refine pD (fun W R z9 => ?_) ?_
   ·rw [eS (l := [(6, _)]) ⟨z9 6 rfl, ⟨⟩⟩]
    exact jD (t := 19) rfl (vF h2) ⟨rfl, rfl, rfl⟩
   refine pD (fun W R z9 => ?_) ?_
   ·rw [eS (l := [(6, _), (8, undef)]) ⟨z9 6 rfl, z9 8 rfl, ⟨⟩⟩]
    exact jD (t := 19) rfl (vF h2) ⟨rfl, rfl, rfl⟩
   refine pD (fun W R z9 => ?_) ?_
   ·rw [eS (l := [(6, _), (9, undef)]) ⟨z9 6 rfl, z9 9 rfl, ⟨⟩⟩]
    exact jD (t := 19) rfl (vF h2) ⟨rfl, rfl, rfl⟩
   refine pD (fun W R z9 => ?_) ?_
   ·rw [eS (l := [(6, _), (7, undef), (10, undef)]) ⟨z9 6 rfl, z9 7 rfl, z9 10 rfl, ⟨⟩⟩]
    exact jD (t := 19) rfl (vF h2) ⟨rfl, rfl, rfl⟩
   refine pD (fun W R z9 => ?_) ?_
   ·rw [eS (l := [(6, _), (11, undef)]) ⟨z9 6 rfl, z9 11 rfl, ⟨⟩⟩]
    exact jD (t := 19) rfl (vF h2) ⟨rfl, rfl, rfl⟩
   refine pD (fun W R z9 => ?_) ?_
   ·rw [eS (l := [(12, undef)]) ⟨z9 12 rfl, ⟨⟩⟩]
    exact XG.noU (t := 25) rfl rfl ⟨rfl, rfl, rfl⟩
   refine pD (fun W R z9 => ?_) ?_
   ·rw [eS (l := [(12, undef), (13, undef)]) ⟨z9 12 rfl, z9 13 rfl, ⟨⟩⟩]
    exact XG.noU (t := 25) rfl rfl ⟨rfl, rfl, rfl⟩
   refine pD (fun W R z9 => ?_) ?_
   ·rw [eS (l := [(12, undef)]) ⟨z9 12 rfl, ⟨⟩⟩]
    exact XG.noU (t := 25) rfl rfl ⟨rfl, rfl, rfl⟩
   refine pD (fun W R z9 => ?_) ?_
   ·rw [eS (l := [(12, undef), (14, undef), (15, undef)]) ⟨z9 12 rfl, z9 14 rfl, z9 15 rfl, ⟨⟩⟩]
    exact XG.noU (t := 25) rfl rfl ⟨rfl, rfl, rfl⟩
   refine pD (fun W R z9 => ?_) ?_
   ·rw [eS (l := [(12, undef), (16, undef)]) ⟨z9 12 rfl, z9 16 rfl, ⟨⟩⟩]
    exact XG.noU (t := 25) rfl rfl ⟨rfl, rfl, rfl⟩
   refine pD (fun W R z9 => ?_) ?_
   ·rw [eS (l := [(12, undef)]) ⟨z9 12 rfl, ⟨⟩⟩]
    exact XG.noU (t := 25) rfl rfl ⟨rfl, rfl, rfl⟩
   refine pD (fun W R z9 => ?_) ?_
   ·rw [eS (l := [(12, undef), (18, undef)]) ⟨z9 12 rfl, z9 18 rfl, ⟨⟩⟩]
    exact XG.noU (t := 25) rfl rfl ⟨rfl, rfl, rfl⟩
   refine pD (fun W R z9 => ?_) ?_
   ·rw [eS (l := [(12, undef)]) ⟨z9 12 rfl, ⟨⟩⟩]
    exact XG.noU (t := 25) rfl rfl ⟨rfl, rfl, rfl⟩
   refine pD (fun W R z9 => ?_) ?_
   ·rw [eS (l := [(12, undef), (19, undef), (20, undef)]) ⟨z9 12 rfl, z9 19 rfl, z9 20 rfl, ⟨⟩⟩]
    exact XG.noU (t := 25) rfl rfl ⟨rfl, rfl, rfl⟩
   refine pD (fun W R z9 => ?_) ?_
   ·rw [eS (l := [(12, undef), (21, undef)]) ⟨z9 12 rfl, z9 21 rfl, ⟨⟩⟩]
    exact XG.noU (t := 25) rfl rfl ⟨rfl, rfl, rfl⟩
   exact stepsP.nil
  intro W hphi
  rw [eS (l := [(6, _), (12, undef), (17, undef), (22, undef)]) ⟨(hphi 6 (by decide)), (hphi 12 (by decide)), (hphi 17 (by decide)), (hphi 22 (by decide)), ⟨⟩⟩]
  show XL _ _ _ _ _ _ _ (cellsH b2 [ii (bc), bfv] 128 :: cellsH b1 [ii (ac), afv] 128 :: L)
  refine XL.noU (t := 25) rfl rfl (qm (t := 19) rfl (vF h2) (cX (qP (.bool (false)) (vF h2) rfl (qb (X.condF rfl (qx (qa (qg (ii ((k : Int))) rfl (cX (qN (((k + 1 : Nat) : Int)) rfl rfl (by omega) (by omega) (qd (ii (((k + 1 : Nat) : Int))) rfl (qb ?_))))))))))))
  exact ⟨k + 1, _, FLe.refl _, rF, ⟨rfl, rfl, rfl, ⟨⟩⟩, (sC (sC sR)), ⟨rfl, (by (try dsimp only) <;> omega), (fun i hi => (Nat.lt_or_ge i k).elim (fun h => hall i h) (fun h => by obtain rfl : i = k := (by omega); omega))⟩, (by omega)⟩
 refine jb (qu (qu (qJ (qc (qa (qd (.bool (true)) rfl (qb (qp (ql (L' := L) [.bool (true)] (.bool (true)) (.tmp rfl .nil) rfl rF rF (sD (sD sR)) ?_)))))))))
 exact ⟨(vB (mostP_z (fun i => (hA.2.2 i).1) (fun i => (hB.2.2 i).1) (fun i hi => hall i (by dsimp only at hi; omega)))), rfl, rfl⟩

/- spec.PolyLess -/
set_option maxRecDepth 20000 in
theorem sPolyLess_spec {F : FH} {L : List HP} {arv : Value} {ar : List Int} (har : IntsF F arv ar) {psv : Value} {ps : List PolyT} (hps : PolysF F psv ps) {sv : Value} {s : List Int} (hs : IntsF F sv s) {tv : Value} {t : List Int} (ht : IntsF F tv t) (hlp : ps.length ≤ 4000000) (hpb : ∀ i, i < ps.length → (ps.getD i (0, [])).2.length ≤ 4000000) (hla : ar.length ≤ 4000000) (hls : s.length ≤ 4000000) (hlt : t.length ≤ 4000000) :
    Does prog 271 [.agg #[arv], psv, sv, tv] F (L) (fun v F' L' => (.bool (lessF ar ps s t) : Value) = v ∧ L = L') := by
 refine qC func271 rfl rfl rfl (qc (qa (cX (qI [arv] rfl rfl ?_))))
 intro b1
 refine qd (.bool (false)) rfl (qb (qc (qa (cX (qr [arv] qZ qH rfl rfl (Rd.ownN [] rfl rfl) (qg (psv) rfl (qg (sv) rfl (cX (qq (args := [.agg #[arv], psv, sv]) call272 rfl (sFormOf_spec har hps hs (hlp := (by first | assumption | rfl | omega | simp)) (hpb := (by first | assumption | rfl | omega | simp)) (hla := (by first | assumption | rfl | omega | simp)) (hlt := (by first | assumption | rfl | omega | simp))) ?_)))))))))
 rintro _ F1 _ le1 ⟨x1, rfl, hr1, rfl⟩
 replace har := har.mono le1
 replace hps := hps.mono le1
 replace ht := ht.mono le1
 refine qg (.tuple #[.agg #[ii (((formO ar ps s).getD (0, [])).1), x1], .bool ((formO ar ps s).isSome)]) rfl (cX (qO (.agg #[ii (((formO ar ps s).getD (0, [])).1), x1]) rfl rfl (cX (qO (.bool ((formO ar ps s).isSome)) rfl rfl (cX (qY [ii (0), sN] qX rfl ?_))))))
 intro b2
 refine cX (qL [] _ [ii (((formO ar ps s).getD (0, [])).1), x1] qE rfl rfl rfl (qz rfl (qz (qW (qM hr1)) qS)) rfl rfl rfl (qd (.bool ((formO ar ps s).isSome)) rfl (qb (qc (qa (cX (qr [arv] qZ qH rfl rfl (Rd.ownN [_] rfl rfl) (qg (psv) rfl (qg (tv) rfl (cX (qq (args := [.agg #[arv], psv, tv]) call272 rfl (sFormOf_spec har hps ht (hlp := (by first | assumption | rfl | omega | simp)) (hpb := (by first | assumption | rfl | omega | simp)) (hla := (by first | assumption | rfl | omega | simp)) (hlt := (by first | assumption | rfl | omega | simp))) ?_)))))))))))
 rintro _ F2 _ le2 ⟨x2, rfl, hr2, rfl⟩
 replace hr1 := hr1.mono le2
 refine qg (.tuple #[.agg #[ii (((formO ar ps t).getD (0, [])).1), x2], .bool ((formO ar ps t).isSome)]) rfl (cX (qO (.agg #[ii (((formO ar ps t).getD (0, [])).1), x2]) rfl rfl (cX (qO (.bool ((formO ar ps t).isSome)) rfl rfl (cX (qY [ii (0), sN] qX rfl ?_))))))
 intro b3
 refine cX (qL [] _ [ii (((formO ar ps t).getD (0, [])).1), x2] qE rfl rfl rfl (qz rfl (qz (qW (qM hr2)) qS)) rfl rfl rfl (qd (.bool ((formO ar ps t).isSome)) rfl (qb (qc (qa (qg (.bool ((formO ar ps s).isSome)) rfl (qg (.bool ((formO ar ps s).isSome)) rfl ?_)))))))
 by_cases h1 : ((formO ar ps s).isSome) = true
 ·refine qn (t := 28) rfl (vB h1) (qo (.bool ((formO ar ps t).isSome)) rfl (cX (qT (.bool ((formO ar ps t).isSome)) (vB h1) rfl (qg (.bool ((formO ar ps t).isSome)) rfl ?_))))
  by_cases h2 : ((formO ar ps t).isSome) = true
  ·refine qn (t := 31) rfl (vB h2) (qj (0) qt rfl qy (by decide) rfl rfl (qn (t := 31) rfl (vB h2) (qh qQ rfl (Rd.own [_] rfl rfl) (qn (t := 31) rfl (vB h2) (qj (0) qt rfl qy (by decide) rfl rfl (qn (t := 31) rfl (vB h2) (qh qQ rfl (Rd.own [] rfl rfl) (qn (t := 31) rfl (vB h2) (qK rfl rfl (cX (qT (.bool (decide ((((formO ar ps s).getD (0, [])).1 : Int) < ((formO ar ps t).getD (0, [])).1))) (vB h2) rfl (qg (.bool (decide ((((formO ar ps s).getD (0, [])).1 : Int) < ((formO ar ps t).getD (0, [])).1))) rfl ?_))))))))))))
   by_cases h3 : (((formO ar ps s).getD (0, [])).1 : Int) < ((formO ar ps t).getD (0, [])).1
   ·refine qn (t := 38) rfl (vT h3) (qr [ii (((formO ar ps s).getD (0, [])).1), x1] je qE rfl rfl (Rd.ownN [_] rfl rfl) (qn (t := 38) rfl (vT h3) (qr [ii (((formO ar ps t).getD (0, [])).1), x2] je qE rfl rfl (Rd.ownN [] rfl rfl) (qn (t := 38) rfl (vT h3) (qq (args := [.agg #[ii (((formO ar ps s).getD (0, [])).1), x1], .agg #[ii (((formO ar ps t).getD (0, [])).1), x2]]) call340 rfl (sl15Most_spec hr1 hr2 (hA := (formO_inD)) (hB := (formO_inD))) ?_)))))
    rintro _ _ _ _ ⟨rfl, rfl, rfl⟩
    refine cX (qT (.bool (mostP ((((formO ar ps s).getD (0, [])).1), (((formO ar ps s).getD (0, [])).2)) ((((formO ar ps t).getD (0, [])).1), (((formO ar ps t).getD (0, [])).2)))) (vT h3) rfl (qd (.bool (mostP ((((formO ar ps s).getD (0, [])).1), (((formO ar ps s).getD (0, [])).2)) ((((formO ar ps t).getD (0, [])).1), (((formO ar ps t).getD (0, [])).2)))) rfl (qb (qp (ql (L' := L) [.bool (mostP ((((formO ar ps s).getD (0, [])).1), (((formO ar ps s).getD (0, [])).2)) ((((formO ar ps t).getD (0, [])).1), (((formO ar ps t).getD (0, [])).2)))] (.bool (mostP ((((formO ar ps s).getD (0, [])).1), (((formO ar ps s).getD (0, [])).2)) ((((formO ar ps t).getD (0, [])).1), (((formO ar ps t).getD (0, [])).2)))) (.tmp rfl .nil) rfl (qD le1 le2) rF (sD (sD (sD sR))) ?_)))))
    exact ⟨congrArg Value.bool (by unfold lessF; rw [lessO_of]; first | (rw [h1, h2, decide_eq_true h3]; simp; done) | (rw [h1, h2, decide_eq_false h3]; simp; done) | (rw [h1, h2]; simp; done) | (rw [h1]; simp; done)), rfl⟩
   refine qm (t := 38) rfl (vF h3) (qm (t := 38) rfl (vF h3) (qm (t := 38) rfl (vF h3) (cX (qP (.bool (false)) (vF h3) rfl (qd (.bool (false)) rfl (qb (qp (ql (L' := L) [.bool (false)] (.bool (false)) (.tmp rfl .nil) rfl (qD le1 le2) rF (sD (sD (sD sR))) ?_))))))))
   exact ⟨congrArg Value.bool (by unfold lessF; rw [lessO_of]; first | (rw [h1, h2, decide_eq_true h3]; simp; done) | (rw [h1, h2, decide_eq_false h3]; simp; done) | (rw [h1, h2]; simp; done) | (rw [h1]; simp; done)), rfl⟩
  rw [Bool.not_eq_true] at h2
  refine qm (t := 31) rfl (vB h2) (qm (t := 31) rfl (vB h2) (qm (t := 31) rfl (vB h2) (qm (t := 31) rfl (vB h2) (qm (t := 31) rfl (vB h2) (cX (qP (.bool (false)) (vB h2) rfl (qg (.bool (false)) rfl (qm (t := 38) rfl rfl (qm (t := 38) rfl rfl (qm (t := 38) rfl rfl ?_))))))))))
  refine cX (qP (.bool (false)) rfl rfl (qd (.bool (false)) rfl (qb (qp (ql (L' := L) [.bool (false)] (.bool (false)) (.tmp rfl .nil) rfl (qD le1 le2) rF (sD (sD (sD sR))) ?_)))))
  exact ⟨congrArg Value.bool (by unfold lessF; rw [lessO_of]; first | (rw [h1, h2, decide_eq_true h3]; simp; done) | (rw [h1, h2, decide_eq_false h3]; simp; done) | (rw [h1, h2]; simp; done) | (rw [h1]; simp; done)), rfl⟩
 rw [Bool.not_eq_true] at h1
 refine qm (t := 28) rfl (vB h1) (cX (qP (.bool (false)) (vB h1) rfl (qg (.bool (false)) rfl (qm (t := 31) rfl rfl (qm (t := 31) rfl rfl (qm (t := 31) rfl rfl (qm (t := 31) rfl rfl (qm (t := 31) rfl rfl (cX (qP (.bool (false)) rfl rfl (qg (.bool (false)) rfl ?_)))))))))))
 refine qm (t := 38) rfl rfl (qm (t := 38) rfl rfl (qm (t := 38) rfl rfl (cX (qP (.bool (false)) rfl rfl (qd (.bool (false)) rfl (qb (qp (ql (L' := L) [.bool (false)] (.bool (false)) (.tmp rfl .nil) rfl (qD le1 le2) rF (sD (sD (sD sR))) ?_))))))))
 exact ⟨congrArg Value.bool (by unfold lessF; rw [lessO_of]; first | (rw [h1, h2, decide_eq_true h3]; simp; done) | (rw [h1, h2, decide_eq_false h3]; simp; done) | (rw [h1, h2]; simp; done) | (rw [h1]; simp; done)), rfl⟩

/- spec.StrictIn -/
theorem sStrictIn_spec {F : FH} {L : List HP} {arv : Value} {ar : List Int} (har : IntsF F arv ar) {psv : Value} {ps : List PolyT} (hps : PolysF F psv ps) (hlp : ps.length ≤ 4000000) (hpb : ∀ i, i < ps.length → (ps.getD i (0, [])).2.length ≤ 4000000) (hla : ar.length ≤ 4000000) :
    Does prog 270 [.agg #[arv], psv] F (L) (fun v F' L' => (.bool (strictL ar ps) : Value) = v ∧ F = F' ∧ L = L') := by
 refine qC func270 rfl rfl rfl (qc (qa (cX (qI [arv] rfl rfl ?_))))
 intro b1
 refine qd (.bool (false)) rfl (qb (qc (qc (qa (cX (qr [arv] qZ qH rfl rfl (Rd.ownN [] rfl rfl) (qg (psv) rfl (cX (qq (args := [.agg #[arv], psv]) call339 rfl (sPolysOk_spec har hps (hlp := (by first | assumption | rfl | omega | simp)) (hpb := (by first | assumption | rfl | omega | simp)) (hla := (by first | assumption | rfl | omega | simp))) ?_)))))))))
 rintro _ _ _ _ ⟨rfl, rfl, rfl⟩
 refine cX (jg rfl (qb ?_))
 refine jF (t := !(polysOk ar ps)) rfl (fun h1 => ?_) (fun h1 => ?_)
 ·have hpk : polysOk ar ps = false := Bool.not_inj (y := false) h1
  refine qc (qa (qd (.bool (false)) rfl (qb (qp (qi (ql (L' := L) [.bool (false)] (.bool (false)) (.tmp rfl .nil) rfl rF rF (sD sR) ?_))))))
  exact ⟨(vB (strict_no hpk)), rfl, rfl⟩
 have hpk : polysOk ar ps = true := Bool.not_inj (y := true) h1
 refine qx (qc (qc (qa (qd (ii (0)) rfl (qb (qG (jd (α := Nat) (fun k => [(1, psv), (5, ii ((k : Int)))]) (fun k => cellsH b1 [arv] 36 :: L) (fun k F' => F = F' ∧ (k ≤ ps.length) ∧ (∀ i, i < k → ∀ j, j < (ps.getD i (0, [])).2.length → 1 ≤ (ps.getD i (0, [])).2.getD j 0)) (fun k => ps.length - k) 0 ⟨rfl, rfl, ⟨⟩⟩ (sC sR) ⟨rfl, (by (try dsimp only) <;> omega), (fun i hi => absurd hi (by omega))⟩ ?_)))))))
 rintro k rE _ _ ⟨rfl, hk, hall⟩
 show X _ _ _ _ (envs [(1, psv), (5, ii ((k : Int)))] rE) _ (cellsH b1 [arv] 36 :: L)
 have hpbk := hpb k
 refine qc (qc (qa (qg (ii ((k : Int))) rfl (qg (psv) rfl (cX (qB jh rfl hps.slv (cX (qK rfl rfl (qb ?_)))))))))
 refine qw (p := (k : Int) < (ps.length : Int)) rfl (fun h2 => ?_) (fun h2 => ?_)
 ·refine qx (qc (qG (qc (qa (qd (ii (0)) rfl (qb (qG (jd (α := Nat) (fun j => [(1, psv), (5, ii ((k : Int))), (6, ii ((j : Int)))]) (fun j => cellsH b1 [arv] 36 :: L) (fun j F' => F = F' ∧ (j ≤ (ps.getD k (0, [])).2.length) ∧ (∀ i, i < j → 1 ≤ (ps.getD k (0, [])).2.getD i 0)) (fun j => (ps.getD k (0, [])).2.length - j) 0 ⟨rfl, rfl, rfl, ⟨⟩⟩ (sC sR) ⟨rfl, (by (try dsimp only) <;> omega), (fun i hi => absurd hi (by omega))⟩ ?_))))))))
  rintro j rE _ _ ⟨rfl, hj, hcf⟩
  show X _ _ _ _ (envs [(1, psv), (5, ii ((k : Int))), (6, ii ((j : Int)))] rE) _ (cellsH b1 [arv] 36 :: L)
  have hpb9 := hpbk (by omega)
  refine qc (qc (qa (qg (ii ((j : Int))) rfl (qg (psv) rfl (qg (ii ((k : Int))) rfl (cX (qv k jh qE rfl rfl rfl hps.slv (by omega) rfl (cX (XOp.fieldE (k * 2 + 1) qt rfl qs (by decide) rfl rfl ?_)))))))))
  obtain ⟨a1, ha1, hrg1, hq1⟩ := hps.rd (i := k) (by omega)
  refine cX (qh qF rfl (hrg1 _ 1 _ rfl) (cX (qB qf rfl ha1.slv (cX (qK rfl rfl (qb ?_))))))
  refine qw (p := (j : Int) < ((((ps.getD k (0, [])).2).length : Nat) : Int)) rfl (fun h3 => ?_) (fun h3 => ?_)
  ·refine qx (qc (qG (qc (qa (qg (psv) rfl (qg (ii ((k : Int))) rfl (cX (qv k jh qE rfl rfl rfl hps.slv (by omega) rfl (cX (XOp.fieldE (k * 2 + 1) qt rfl qs (by decide) rfl rfl (cX (qh qF rfl (hrg1 _ 1 _ rfl) (qg (ii ((j : Int))) rfl (cX (qv j qf qy rfl rfl rfl ha1.slv (by omega) (Nat.mul_one _) (cX (qh qQ rfl (ha1.rd (by omega)) (cX (qK rfl rfl ?_)))))))))))))))))))
   refine qb ?_
   refine qw (p := (((ps.getD k (0, [])).2).getD j 0 : Int) < 1) rfl (fun h4 => ?_) (fun h4 => ?_)
   ·refine qc (qa (qd (.bool (false)) rfl (qb (qp (qA (qi (qi (qA (qA (qi (qi (qA (qi (ql (L' := L) [.bool (false)] (.bool (false)) (.tmp rfl .nil) rfl rF rF (sD sR) ?_))))))))))))))
    exact ⟨(vB (strictL_no (i := k) (j := j) (by omega) (by omega) hpk (by omega))), rfl, rfl⟩
   refine qx (qa (qg (ii ((j : Int))) rfl (cX (qN (((j + 1 : Nat) : Int)) rfl rfl (by omega) (by omega) (qd (ii (((j + 1 : Nat) : Int))) rfl (qb ?_))))))
   exact ⟨j + 1, _, FLe.refl _, rF, ⟨rfl, rfl, rfl, ⟨⟩⟩, (sC sR), ⟨rfl, (by (try dsimp only) <;> omega), (fun i hi => (Nat.lt_or_ge i j).elim (fun h => hcf i h) (fun h => by obtain rfl : i = j := (by omega); omega))⟩, (by omega)⟩
  refine jb (qu (qu (qJ (qa (qg (ii ((k : Int))) rfl (cX (qN (((k + 1 : Nat) : Int)) rfl rfl (by omega) (by omega) (qd (ii (((k + 1 : Nat) : Int))) rfl (qb ?_)))))))))
  exact ⟨k + 1, _, FLe.refl _, rF, ⟨rfl, rfl, ⟨⟩⟩, (sC sR), ⟨rfl, (by (try dsimp only) <;> omega), (fun i hi => (Nat.lt_or_ge i k).elim (fun h => hall i h) (fun h => by obtain rfl : i = k := (by omega); exact fun j2 hj2 => hcf j2 (by omega)))⟩, (by omega)⟩
 refine jb (qu (qu (qJ (qc (qa (qd (.bool (true)) rfl (qb (qp (ql (L' := L) [.bool (true)] (.bool (true)) (.tmp rfl .nil) rfl rF rF (sD sR) ?_)))))))))
 exact ⟨(vB (strictL_yes hpk (fun i hi => hall i (by omega)))), rfl, rfl⟩

/- spec.PolyOrients -/
set_option maxRecDepth 20000 in
theorem sPolyOrients_spec {F : FH} {L : List HP} {arv : Value} {ar : List Int} (har : IntsF F arv ar) {rsv : Value} {rs : List (List Int × List Int)} (hrs : PairsF F rsv rs) {psv : Value} {ps : List PolyT} (hps : PolysF F psv ps) (hlp : ps.length ≤ 4000000) (hpb : ∀ i, i < ps.length → (ps.getD i (0, [])).2.length ≤ 4000000) (hla : ar.length ≤ 4000000) (hlr : rs.length ≤ 4000000) (hrb : ∀ i, i < rs.length → (rs.getD i ([], [])).1.length ≤ 4000000 ∧ (rs.getD i ([], [])).2.length ≤ 4000000) :
    Does prog 168 [.agg #[arv, rsv], psv] F (L) (fun v F' L' => (.bool (orientsL ar rs ps) : Value) = v ∧ L = L') := by
 refine qC func168 rfl rfl rfl (qc (qa (cX (qI [arv, rsv] rfl rfl ?_))))
 intro b1
 refine qd (.bool (false)) rfl (qb (qc (qc (qa (cX (qr [arv, rsv] jG jz rfl rfl (Rd.ownN [] rfl rfl) (cX (qq (args := [.agg #[arv, rsv]]) call82 rfl (sSystemOk_spec har hrs (hla := (by first | assumption | rfl | omega | simp)) (hlr := (by first | assumption | rfl | omega | simp)) (hrb := (by first | assumption | rfl | omega | simp))) ?_))))))))
 rintro _ _ _ _ ⟨rfl, rfl, rfl⟩
 refine cX (jg rfl (qg (.bool (!(sysOk ar rs))) rfl ?_))
 by_cases h1 : (!(sysOk ar rs)) = true
 ·have hsys : sysOk ar rs = false := Bool.not_inj (y := false) h1
  refine qm (t := 9) rfl (vB h1) (qm (t := 9) rfl (vB h1) (qm (t := 9) rfl (vB h1) (qm (t := 9) rfl (vB h1) (qm (t := 9) rfl (vB h1) (cX (qT (.bool (true)) (vB h1) rfl (qb (jv rfl (qc (qa (qd (.bool (false)) rfl ?_)))))))))))
  refine qb (qp (qi (ql (L' := L) [.bool (false)] (.bool (false)) (.tmp rfl .nil) rfl rF rF (sD sR) ?_)))
  have e9 : orientsL ar rs ps = false := by unfold orientsL; first | (rw [hsys]; simp; done) | (rw [hst]; simp; done)
  rw [e9]
  exact ⟨rfl, rfl⟩
 rw [Bool.not_eq_true] at h1
 have hsys : sysOk ar rs = true := Bool.not_inj (y := true) h1
 refine qn (t := 9) rfl (vB h1) (qj (0) qU rfl qH (by decide) rfl rfl (qn (t := 9) rfl (vB h1) (qr [arv] qZ qH rfl rfl (Rd.ownN [] rfl rfl) (qn (t := 9) rfl (vB h1) (qo (psv) rfl (qn (t := 9) rfl (vB h1) (qq (args := [.agg #[arv], psv]) call270 rfl (sStrictIn_spec har hps (hlp := (by first | assumption | rfl | omega | simp)) (hpb := (by first | assumption | rfl | omega | simp)) (hla := (by first | assumption | rfl | omega | simp))) ?_)))))))
 rintro _ _ _ _ ⟨rfl, rfl, rfl⟩
 refine qn (t := 9) rfl (vB h1) (jg rfl (cX (qP (.bool (!(strictL ar ps))) (vB h1) rfl (qb ?_))))
 refine jF (t := !(strictL ar ps)) rfl (fun h2 => ?_) (fun h2 => ?_)
 ·have hst : strictL ar ps = false := Bool.not_inj (y := false) h2
  refine qc (qa (qd (.bool (false)) rfl (qb (qp (qi (ql (L' := L) [.bool (false)] (.bool (false)) (.tmp rfl .nil) rfl rF rF (sD sR) ?_))))))
  have e9 : orientsL ar rs ps = false := by unfold orientsL; first | (rw [hsys]; simp; done) | (rw [hst]; simp; done)
  rw [e9]
  exact ⟨rfl, rfl⟩
 have hst : strictL ar ps = true := Bool.not_inj (y := true) h2
 have hpk := strict_polys hst
 refine qx (qc (qc (qa (qd (ii (0)) rfl (qb (qG (jd (α := Nat × FH) (fun xQ => [(1, psv), (2, ptr b1 0), (5, ii (((xQ.1 : Nat) : Int)))]) (fun xQ => cellsH b1 [arv, rsv] 39 :: L) (fun xQ F' => xQ.2 = F' ∧ F ≤ xQ.2 ∧ (xQ.1 ≤ rs.length) ∧ (∀ i, i < xQ.1 → ruleDown ar ps (rs.getD i ([], [])) = true)) (fun xQ => rs.length - xQ.1) (0, F) ⟨rfl, rfl, rfl, ⟨⟩⟩ (sC sR) ⟨rfl, FLe.refl _, (by (try dsimp only) <;> omega), (fun i hi => absurd hi (by omega))⟩ ?_)))))))
 rintro ⟨k, G1⟩ rE _ _ ⟨rfl, leG, hk, hall⟩
 show X _ _ _ _ (envs [(1, psv), (2, ptr b1 0), (5, ii ((k : Int)))] rE) _ (cellsH b1 [arv, rsv] 39 :: L)
 replace leG : F ≤ G1 := leG
 dsimp only at hk hall
 have hrbk := hrb k
 have leG1 := leG
 replace har := har.mono leG1
 replace hrs := hrs.mono leG1
 replace hps := hps.mono leG1
 refine qc (qc (qa (qg (ii ((k : Int))) rfl (cX (qj (1) qU rfl jJ (by decide) rfl rfl (cX (qh isAgg37 rfl (Rd.own [] rfl rfl) (cX (qB ji rfl hrs.slv (cX (qK rfl rfl (qb ?_))))))))))))
 refine qw (p := (k : Int) < (rs.length : Int)) rfl (fun h3 => ?_) (fun h3 => ?_)
 ·refine qx (qc (qG (qc ?_)))
  obtain ⟨a1, a2, ha1, ha2, hr1, hr2⟩ := hrs.rd (i := k) (by omega)
  refine jB [cellsH b1 [arv, rsv] 39] L 15 [] [[], [0], [], [], [3], [], [4, 5], [6], [7], [], [9], [], [10, 11], [12], [13]] (phiL [qe (ptr b1 0), qe (.agg #[arv]), qe psv, qe (ptr b1 1), qe rsv, qe (ii ((k : Int)) : Value), qe (.pointer (some (elemA rsv (k * 2)))), qe (.pointer (some (elemA rsv (k * 2 + 1)))), qe a2, qe (ptr b1 1), qe rsv, qe (ii ((k : Int)) : Value), qe (.pointer (some (elemA rsv (k * 2)))), qe (.pointer (some (elemA rsv (k * 2)))), qe a1]) (ownL []) mixed rfl rfl (by kernel_rfl) ?_ ?_
  ·refine pD (fun W R z9 => ?_) ?_
   ·refine qk (qj (0) qU rfl qH (by decide) rfl rfl ?_)
    exact ⟨rfl, rfl, rfl⟩
   refine pD (fun W R z9 => ?_) ?_
   ·rw [eS (l := [(0, _)]) ⟨z9 0 rfl, ⟨⟩⟩]
    refine qk (qr [arv] qZ qH rfl rfl (Rd.ownN [] rfl rfl) ?_)
    exact ⟨rfl, rfl, rfl⟩
   refine pD (fun W R z9 => ?_) ?_
   ·refine qk (qo (psv) rfl ?_)
    exact ⟨rfl, rfl, rfl⟩
   refine pD (fun W R z9 => ?_) ?_
   ·refine qk (qj (1) qU rfl jJ (by decide) rfl rfl ?_)
    exact ⟨rfl, rfl, rfl⟩
   refine pD (fun W R z9 => ?_) ?_
   ·rw [eS (l := [(3, _)]) ⟨z9 3 rfl, ⟨⟩⟩]
    refine qk (qh isAgg37 rfl (Rd.own [] rfl rfl) ?_)
    exact ⟨rfl, rfl, rfl⟩
   refine pD (fun W R z9 => ?_) ?_
   ·refine qk (qo (ii ((k : Int))) rfl ?_)
    exact ⟨rfl, rfl, rfl⟩
   refine pD (fun W R z9 => ?_) ?_
   ·rw [eS (l := [(4, _), (5, _)]) ⟨z9 4 rfl, z9 5 rfl, ⟨⟩⟩]
    refine qk (qv k ji jy rfl rfl rfl hrs.slv (by omega) rfl ?_)
    exact ⟨rfl, rfl, rfl⟩
   refine pD (fun W R z9 => ?_) ?_
   ·rw [eS (l := [(6, _)]) ⟨z9 6 rfl, ⟨⟩⟩]
    refine qk (XOp.fieldE (k * 2 + 1) jc rfl qs (by decide) rfl rfl ?_)
    exact ⟨rfl, rfl, rfl⟩
   refine pD (fun W R z9 => ?_) ?_
   ·rw [eS (l := [(7, _)]) ⟨z9 7 rfl, ⟨⟩⟩]
    refine qk (qh qF rfl (hr2 _) ?_)
    exact ⟨rfl, rfl, rfl⟩
   refine pD (fun W R z9 => ?_) ?_
   ·refine qk (qj (1) qU rfl jJ (by decide) rfl rfl ?_)
    exact ⟨rfl, rfl, rfl⟩
   refine pD (fun W R z9 => ?_) ?_
   ·rw [eS (l := [(9, _)]) ⟨z9 9 rfl, ⟨⟩⟩]
    refine qk (qh isAgg37 rfl (Rd.own [] rfl rfl) ?_)
    exact ⟨rfl, rfl, rfl⟩
   refine pD (fun W R z9 => ?_) ?_
   ·refine qk (qo (ii ((k : Int))) rfl ?_)
    exact ⟨rfl, rfl, rfl⟩
   refine pD (fun W R z9 => ?_) ?_
   ·rw [eS (l := [(10, _), (11, _)]) ⟨z9 10 rfl, z9 11 rfl, ⟨⟩⟩]
    refine qk (qv k ji jy rfl rfl rfl hrs.slv (by omega) rfl ?_)
    exact ⟨rfl, rfl, rfl⟩
   refine pD (fun W R z9 => ?_) ?_
   ·rw [eS (l := [(12, _)]) ⟨z9 12 rfl, ⟨⟩⟩]
    refine qk (XOp.fieldE (k * 2) jc rfl qs (by decide) rfl rfl ?_)
    exact ⟨rfl, rfl, rfl⟩
   refine pD (fun W R z9 => ?_) ?_
   ·rw [eS (l := [(13, _)]) ⟨z9 13 rfl, ⟨⟩⟩]
    refine qk (qh qF rfl (hr1 _) ?_)
    exact ⟨rfl, rfl, rfl⟩
   exact stepsP.nil
  intro W hphi
  rw [eS (l := [(1, _), (2, _), (8, _), (14, _)]) ⟨(hphi 1 (by decide)), (hphi 2 (by decide)), (hphi 8 (by decide)), (hphi 14 (by decide)), ⟨⟩⟩]
  show XL _ _ _ _ _ _ _ (cellsH b1 [arv, rsv] 39 :: L)
  refine cX (qq (args := [.agg #[arv], psv, a2, a1]) call271 rfl (sPolyLess_spec har hps ha2 ha1 (hlp := (by first | assumption | rfl | omega | simp)) (hpb := (by first | assumption | rfl | omega | simp)) (hla := (by first | assumption | rfl | omega | simp)) (hls := ((hrbk (by omega)).2)) (hlt := ((hrbk (by omega)).1))) ?_)
  rintro _ F1 _ le1 ⟨rfl, rfl⟩
  refine cX (jg rfl (qb ?_))
  refine jF (t := !(lessF ar ps ((rs.getD k ([], [])).2) ((rs.getD k ([], [])).1))) rfl (fun h4 => ?_) (fun h4 => ?_)
  ·have hrk9 := ruleOk_iff.1 ((sysOk_iff.1 hsys).2.2 k (by omega))
   have hlo : ruleDown ar ps (rs.getD k ([], [])) = false := by rw [← lessF_rule hpk hrk9.left hrk9.right]; exact Bool.not_inj (y := false) h4
   refine qc (qa (qd (.bool (false)) rfl (qb (qp (qA (qi (qi (qA (qi (ql (L' := L) [.bool (false)] (.bool (false)) (.tmp rfl .nil) rfl (qD leG1 le1) rF (sD sR) ?_))))))))))
   have e9 : orientsL ar rs ps = false := by unfold orientsL; rw [all_fail (([], []) : List Int × List Int) (k := k) (by omega) hlo, Bool.and_false]
   rw [e9]
   exact ⟨rfl, rfl⟩
  have hrk9 := ruleOk_iff.1 ((sysOk_iff.1 hsys).2.2 k (by omega))
  have hlo : ruleDown ar ps (rs.getD k ([], [])) = true := by rw [← lessF_rule hpk hrk9.left hrk9.right]; exact Bool.not_inj (y := true) h4
  refine qx (qa (qg (ii ((k : Int))) rfl (cX (qN (((k + 1 : Nat) : Int)) rfl rfl (by omega) (by omega) (qd (ii (((k + 1 : Nat) : Int))) rfl (qb ?_))))))
  exact ⟨(k + 1, F1), _, (qD leG1 le1), rF, ⟨rfl, rfl, rfl, ⟨⟩⟩, (sC sR), ⟨rfl, (qD leG1 le1), (by (try dsimp only) <;> omega), (fun i hi => (Nat.lt_or_ge i k).elim (fun h => hall i h) (fun h => by obtain rfl : i = k := (by omega); exact hlo))⟩, (by omega)⟩
 refine jb (qu (qu (qJ (qc (qa (qd (.bool (true)) rfl (qb (qp (ql (L' := L) [.bool (true)] (.bool (true)) (.tmp rfl .nil) rfl leG1 rF (sD sR) ?_)))))))))
 have e9 : orientsL ar rs ps = true := by unfold orientsL; rw [hsys, hst, (all_getD_iff (([], []) : List Int × List Int)).2 (fun i hi => hall i (by omega))]; rfl
 rw [e9]
 exact ⟨rfl, rfl⟩

/- spec.BoundBy -/
set_option maxRecDepth 20000 in
theorem sBoundBy_spec {F : FH} {L : List HP} {arv : Value} {ar : List Int} (har : IntsF F arv ar) {rsv : Value} {rs : List (List Int × List Int)} (hrs : PairsF F rsv rs) {psv : Value} {ps : List PolyT} (hps : PolysF F psv ps) {tv : Value} {t : List Int} (ht : IntsF F tv t) (hlp : ps.length ≤ 4000000) (hpb : ∀ i, i < ps.length → (ps.getD i (0, [])).2.length ≤ 4000000) (hla : ar.length ≤ 4000000) (hlr : rs.length ≤ 4000000) (hrb : ∀ i, i < rs.length → (rs.getD i ([], [])).1.length ≤ 4000000 ∧ (rs.getD i ([], [])).2.length ≤ 4000000) (hlt : t.length ≤ 4000000) :
    Does prog 68 [.agg #[arv, rsv], psv, tv] F (L) (fun v F' L' => (.tuple #[ii ((boundV ar rs ps t).getD 0), .bool ((boundV ar rs ps t).isSome)] : Value) = v ∧ L = L') := by
 refine qC func68 rfl rfl rfl (qc (qa (cX (qI [arv, rsv] rfl rfl ?_))))
 intro b1
 refine qd (ii (0)) rfl (qd (.bool (false)) rfl (qb (qc (qc (qa (cX (qr [arv, rsv] jG jz rfl rfl (Rd.ownN [] rfl rfl) (qg (psv) rfl (cX (qq (args := [.agg #[arv, rsv], psv]) call168 rfl (sPolyOrients_spec har hrs hps (hlp := (by first | assumption | rfl | omega | simp)) (hpb := (by first | assumption | rfl | omega | simp)) (hla := (by first | assumption | rfl | omega | simp)) (hlr := (by first | assumption | rfl | omega | simp)) (hrb := (by first | assumption | rfl | omega | simp))) ?_))))))))))
 rintro _ F1 _ le1 ⟨rfl, rfl⟩
 replace har := har.mono le1
 replace hps := hps.mono le1
 replace ht := ht.mono le1
 refine cX (jg rfl (qb ?_))
 refine jF (t := !(orientsL ar rs ps)) rfl (fun h1 => ?_) (fun h1 => ?_)
 ·have hor : orientsL ar rs ps = false := Bool.not_inj (y := false) h1
  refine qc (qa (qd (ii (0)) rfl (qd (.bool (false)) rfl (qb (qp (qi (ql (L' := L) [ii (0), .bool (false)] (.tuple #[ii (0), .bool (false)]) (.tmp rfl (.tmp rfl .nil)) rfl le1 rF (sD sR) ?_)))))))
  unfold boundV; rw [if_neg (by rw [hor]; simp)]
  exact ⟨rfl, rfl⟩
 have hor : orientsL ar rs ps = true := Bool.not_inj (y := true) h1
 refine qx (qc (qa (cX (qj (0) qU rfl qH (by decide) rfl rfl (cX (qr [arv] qZ qH rfl rfl (Rd.ownN [] rfl rfl) (qg (psv) rfl (qg (tv) rfl (cX (ja (s := 1) [] [ii (0)] [] qf qy jr rfl (by decide) rfl CellsAre.nil rfl ?_))))))))))
 intro v1 hv1
 show XL _ _ _ _ _ _ _ (intsH 2 v1 ([] : List Int) :: cellsH b1 [arv, rsv] 39 :: L)
 refine XL.freezeF [] _ _ rfl (fun F2 le2 hz1 => ?_)
 replace har := har.mono le2
 replace hps := hps.mono le2
 replace ht := ht.mono le2
 have hf1 : IntsF F2 v1 ([]) := intsH.fz (xs := []) hz1.fz
 refine cX (qq (args := [.agg #[arv], psv, tv, v1]) call169 rfl (sValueAt_spec har hps ht hf1 (hlp := (by first | assumption | rfl | omega | simp)) (hpb := (by first | assumption | rfl | omega | simp)) (hla := (by first | assumption | rfl | omega | simp)) (hlt := (by first | assumption | rfl | omega | simp)) (hv0 := (rfl))) ?_)
 rintro _ F3 _ le3 ⟨rfl, rfl⟩
 refine cX (qO (ii ((valueL ar ps t).getD 0)) rfl rfl (cX (qO (.bool ((valueL ar ps t).isSome)) rfl rfl (qd (ii ((valueL ar ps t).getD 0)) rfl (qd (.bool ((valueL ar ps t).isSome)) rfl (qb (qp (ql (L' := L) [ii ((valueL ar ps t).getD 0), .bool ((valueL ar ps t).isSome)] (.tuple #[ii ((valueL ar ps t).getD 0), .bool ((valueL ar ps t).isSome)]) (.tmp rfl (.tmp rfl .nil)) rfl (qD (qD le1 le2) le3) rF (sD sR) ?_))))))))
 unfold boundV; rw [if_pos hor]
 exact ⟨rfl, rfl⟩

/- impl.BoundedWalk -/
set_option maxRecDepth 20000 in
theorem BoundedWalk_spec {F : FH} {L : List HP} {arv : Value} {ar : List Int} (har : IntsF F arv ar) {rsv : Value} {rs : List (List Int × List Int)} (hrs : PairsF F rsv rs) {psv : Value} {ps : List PolyT} (hps : PolysF F psv ps) {fv : Value} {f : List Int} (hf : IntsF F fv f) {ssv : Value} {ss : List StepT} (hss : StepsF F ssv ss) (hlp : ps.length ≤ 4000000) (hpb : ∀ i, i < ps.length → (ps.getD i (0, [])).2.length ≤ 4000000) (hla : ar.length ≤ 4000000) (hlf : f.length ≤ 4000000) (hlss : ss.length ≤ 4000000) (hsb : ∀ i, i < ss.length → (ss.getD i (0, 0, [])).2.2.length ≤ 4000000) :
    Does prog 16 [.agg #[arv, rsv], psv, .agg #[fv, ssv]] F (L) (fun v F' L' => (.bool (bwF ar rs ps f ss) : Value) = v ∧ L = L') := by
 refine qC func16 rfl rfl rfl (qc (qa (cX (qI [arv, rsv] rfl rfl ?_))))
 intro b1
 refine cX (qI [fv, ssv] rfl rfl ?_)
 intro b2
 refine qd (.bool (false)) rfl (qb (qc (qc (qa (cX (qr [arv, rsv] jG jz rfl rfl (Rd.ownN [_] rfl rfl) (cX (qr [fv, ssv] isAgg45 sizeOf45 rfl rfl (Rd.ownN [] rfl rfl) (cX (qq (args := [.agg #[arv, rsv], .agg #[fv, ssv]]) call74 rfl (WalkOk_spec har hrs hf hss (hlf := (by first | assumption | rfl | omega | simp)) (hsb := (by first | assumption | rfl | omega | simp))) ?_))))))))))
 rintro _ _ _ _ ⟨rfl, rfl, rfl⟩
 refine cX (jg rfl (qb ?_))
 refine jF (t := !(walkOkL ar rs f ss)) rfl (fun h1 => ?_) (fun h1 => ?_)
 ·have hwk : walkOkL ar rs f ss = false := Bool.not_inj (y := false) h1
  refine qc (qa (qd (.bool (false)) rfl (qb (qp (qi (ql (L' := L) [.bool (false)] (.bool (false)) (.tmp rfl .nil) rfl rF rF (sD (sD sR)) ?_))))))
  rw [bwF_no hwk]
  exact ⟨rfl, rfl⟩
 have hwk : walkOkL ar rs f ss = true := Bool.not_inj (y := true) h1
 refine qx (qc (qa (cX (qr [arv, rsv] jG jz rfl rfl (Rd.ownN [_] rfl rfl) (qg (psv) rfl (cX (qj (0) jj rfl qs (by decide) rfl rfl (cX (qh qF rfl (Rd.own [] rfl rfl) (cX (qq (args := [.agg #[arv, rsv], psv, fv]) call75 rfl (BoundBy_spec har hrs hps hf (hlp := (by first | assumption | rfl | omega | simp)) (hpb := (by first | assumption | rfl | omega | simp)) (hla := (by first | assumption | rfl | omega | simp)) (hlt := (by first | assumption | rfl | omega | simp))) ?_)))))))))))
 rintro _ F1 _ le1 ⟨rfl, rfl⟩
 replace hss := hss.mono le1
 refine qg (.tuple #[ii ((boundV ar rs ps f).getD 0), .bool ((boundV ar rs ps f).isSome)]) rfl (cX (qO (ii ((boundV ar rs ps f).getD 0)) rfl rfl (cX (qO (.bool ((boundV ar rs ps f).isSome)) rfl rfl (qd (ii ((boundV ar rs ps f).getD 0)) rfl (qd (.bool ((boundV ar rs ps f).isSome)) rfl (qb (qc (qa (qg (.bool ((boundV ar rs ps f).isSome)) rfl (qg (.bool ((boundV ar rs ps f).isSome)) rfl ?_)))))))))))
 by_cases h2 : ((boundV ar rs ps f).isSome) = true
 ·refine qn (t := 22) rfl (vB h2) (qj (1) jj rfl sizeOf43 (by decide) rfl rfl (qn (t := 22) rfl (vB h2) (qh isAgg43 rfl (Rd.own [] rfl rfl) (qn (t := 22) rfl (vB h2) (qB jp rfl hss.slv (qn (t := 22) rfl (vB h2) (qo (ii ((boundV ar rs ps f).getD 0)) rfl (qn (t := 22) rfl (vB h2) (XOp.leq rfl rfl (cX (qT (.bool (decide (((ss.length : Int) : Int) ≤ (boundV ar rs ps f).getD 0))) (vB h2) rfl (qd (.bool (decide (((ss.length : Int) : Int) ≤ (boundV ar rs ps f).getD 0))) rfl (qb (qp (ql (L' := L) [.bool (decide (((ss.length : Int) : Int) ≤ (boundV ar rs ps f).getD 0))] (.bool (decide (((ss.length : Int) : Int) ≤ (boundV ar rs ps f).getD 0))) (.tmp rfl .nil) rfl le1 rF (sD (sD sR)) ?_)))))))))))))))
  rw [bwF_yes hwk]
  exact ⟨by rw [h2]; rfl, rfl⟩
 rw [Bool.not_eq_true] at h2
 refine qm (t := 22) rfl (vB h2) (qm (t := 22) rfl (vB h2) (qm (t := 22) rfl (vB h2) (qm (t := 22) rfl (vB h2) (qm (t := 22) rfl (vB h2) (cX (qP (.bool (false)) (vB h2) rfl (qd (.bool (false)) rfl (qb (qp (ql (L' := L) [.bool (false)] (.bool (false)) (.tmp rfl .nil) rfl le1 rF (sD (sD sR)) ?_))))))))))
 rw [bwF_yes hwk]
 exact ⟨by rw [h2]; rfl, rfl⟩

/- spec.BoundedWalk -/
set_option maxRecDepth 20000 in
theorem sBoundedWalk_spec {F : FH} {L : List HP} {arv : Value} {ar : List Int} (har : IntsF F arv ar) {rsv : Value} {rs : List (List Int × List Int)} (hrs : PairsF F rsv rs) {psv : Value} {ps : List PolyT} (hps : PolysF F psv ps) {fv : Value} {f : List Int} (hf : IntsF F fv f) {ssv : Value} {ss : List StepT} (hss : StepsF F ssv ss) (hlp : ps.length ≤ 4000000) (hpb : ∀ i, i < ps.length → (ps.getD i (0, [])).2.length ≤ 4000000) (hla : ar.length ≤ 4000000) (hlr : rs.length ≤ 4000000) (hrb : ∀ i, i < rs.length → (rs.getD i ([], [])).1.length ≤ 4000000 ∧ (rs.getD i ([], [])).2.length ≤ 4000000) (hlf : f.length ≤ 4000000) (hlss : ss.length ≤ 4000000) (hsb : ∀ i, i < ss.length → (ss.getD i (0, 0, [])).2.2.length ≤ 4000000) :
    Does prog 12 [.agg #[arv, rsv], psv, .agg #[fv, ssv]] F (L) (fun v F' L' => (.bool (bwF ar rs ps f ss) : Value) = v ∧ L = L') := by
 refine qC func12 rfl rfl rfl (qc (qa (cX (qI [arv, rsv] rfl rfl ?_))))
 intro b1
 refine cX (qI [fv, ssv] rfl rfl ?_)
 intro b2
 refine qd (.bool (false)) rfl (qb (qc (qc (qa (cX (qr [arv, rsv] jG jz rfl rfl (Rd.ownN [_] rfl rfl) (cX (qr [fv, ssv] isAgg45 sizeOf45 rfl rfl (Rd.ownN [] rfl rfl) (cX (qq (args := [.agg #[arv, rsv], .agg #[fv, ssv]]) call67 rfl (sWalkOk_spec har hrs hf hss (hla := (by first | assumption | rfl | omega | simp)) (hlr := (by first | assumption | rfl | omega | simp)) (hrb := (by first | assumption | rfl | omega | simp)) (hlf := (by first | assumption | rfl | omega | simp)) (hlss := (by first | assumption | rfl | omega | simp)) (hsb := (by first | assumption | rfl | omega | simp))) ?_))))))))))
 rintro _ _ _ _ ⟨rfl, rfl, rfl⟩
 refine cX (jg rfl (qb ?_))
 refine jF (t := !(walkOkL ar rs f ss)) rfl (fun h1 => ?_) (fun h1 => ?_)
 ·have hwk : walkOkL ar rs f ss = false := Bool.not_inj (y := false) h1
  refine qc (qa (qd (.bool (false)) rfl (qb (qp (qi (ql (L' := L) [.bool (false)] (.bool (false)) (.tmp rfl .nil) rfl rF rF (sD (sD sR)) ?_))))))
  rw [bwF_no hwk]
  exact ⟨rfl, rfl⟩
 have hwk : walkOkL ar rs f ss = true := Bool.not_inj (y := true) h1
 refine qx (qc (qa (cX (qr [arv, rsv] jG jz rfl rfl (Rd.ownN [_] rfl rfl) (qg (psv) rfl (cX (qj (0) jj rfl qs (by decide) rfl rfl (cX (qh qF rfl (Rd.own [] rfl rfl) (cX (qq (args := [.agg #[arv, rsv], psv, fv]) call68 rfl (sBoundBy_spec har hrs hps hf (hlp := (by first | assumption | rfl | omega | simp)) (hpb := (by first | assumption | rfl | omega | simp)) (hla := (by first | assumption | rfl | omega | simp)) (hlr := (by first | assumption | rfl | omega | simp)) (hrb := (by first | assumption | rfl | omega | simp)) (hlt := (by first | assumption | rfl | omega | simp))) ?_)))))))))))
 rintro _ F1 _ le1 ⟨rfl, rfl⟩
 replace hss := hss.mono le1
 refine qg (.tuple #[ii ((boundV ar rs ps f).getD 0), .bool ((boundV ar rs ps f).isSome)]) rfl (cX (qO (ii ((boundV ar rs ps f).getD 0)) rfl rfl (cX (qO (.bool ((boundV ar rs ps f).isSome)) rfl rfl (qd (ii ((boundV ar rs ps f).getD 0)) rfl (qd (.bool ((boundV ar rs ps f).isSome)) rfl (qb (qc (qa (qg (.bool ((boundV ar rs ps f).isSome)) rfl (qg (.bool ((boundV ar rs ps f).isSome)) rfl ?_)))))))))))
 by_cases h2 : ((boundV ar rs ps f).isSome) = true
 ·refine qn (t := 22) rfl (vB h2) (qj (1) jj rfl sizeOf43 (by decide) rfl rfl (qn (t := 22) rfl (vB h2) (qh isAgg43 rfl (Rd.own [] rfl rfl) (qn (t := 22) rfl (vB h2) (qB jp rfl hss.slv (qn (t := 22) rfl (vB h2) (qo (ii ((boundV ar rs ps f).getD 0)) rfl (qn (t := 22) rfl (vB h2) (XOp.leq rfl rfl (cX (qT (.bool (decide (((ss.length : Int) : Int) ≤ (boundV ar rs ps f).getD 0))) (vB h2) rfl (qd (.bool (decide (((ss.length : Int) : Int) ≤ (boundV ar rs ps f).getD 0))) rfl (qb (qp (ql (L' := L) [.bool (decide (((ss.length : Int) : Int) ≤ (boundV ar rs ps f).getD 0))] (.bool (decide (((ss.length : Int) : Int) ≤ (boundV ar rs ps f).getD 0))) (.tmp rfl .nil) rfl le1 rF (sD (sD sR)) ?_)))))))))))))))
  rw [bwF_yes hwk]
  exact ⟨by rw [h2]; rfl, rfl⟩
 rw [Bool.not_eq_true] at h2
 refine qm (t := 22) rfl (vB h2) (qm (t := 22) rfl (vB h2) (qm (t := 22) rfl (vB h2) (qm (t := 22) rfl (vB h2) (qm (t := 22) rfl (vB h2) (cX (qP (.bool (false)) (vB h2) rfl (qd (.bool (false)) rfl (qb (qp (ql (L' := L) [.bool (false)] (.bool (false)) (.tmp rfl .nil) rfl le1 rF (sD (sD sR)) ?_))))))))))
 rw [bwF_yes hwk]
 exact ⟨by rw [h2]; rfl, rfl⟩

/- laws.szPoly -/
theorem szPoly_spec {F : FH} {L : List HP} {pc : Int} {pfv : Value} {pf : List Int} (hpf : IntsF F pfv pf) {z : Int} (hz : 0 ≤ z ∧ z ≤ 4000000) (hll : pf.length ≤ 9223372036854775807) :
    Does prog 64 [.agg #[ii (pc), pfv], ii (z)] F (L) (fun v F' L' => (ii (dec z pf.length) : Value) = v ∧ F = F' ∧ L = L') := by
 refine qC func64 rfl rfl rfl ?_
 have hdr := dec_range z pf.length
 refine qc (qa (cX (qI [ii (pc), pfv] rfl rfl ?_)))
 intro b1
 refine qd (ii (0)) rfl (qb (qc (qa (cX (qj (1) runUnderlying120 rfl qs (by decide) rfl rfl (cX (qh qF rfl (Rd.own [] rfl rfl) (qg (ii (z)) rfl (cX (qq (args := [pfv, ii (z)]) call65 rfl (szInt64S_spec (z := z) hpf (hz := (by first | assumption | rfl | omega | simp)) (hlx := (by first | assumption | rfl | omega | simp))) ?_))))))))))
 rintro _ _ _ _ ⟨rfl, rfl, rfl⟩
 refine qd (ii (dec z pf.length)) rfl (qb (qc (qc (qa (qg (ii (dec z pf.length)) rfl (cX (qK rfl rfl (qb ?_))))))))
 refine qw (p := (dec z pf.length : Int) < 0) rfl (fun h1 => ?_) (fun h1 => ?_)
 ·refine qc (qa (qd (ii (-1)) rfl (qb (qp (qi (ql (L' := L) [ii (-1)] (ii (-1)) (.tmp rfl .nil) rfl rF rF (sD sR) ?_))))))
  exact ⟨(vI (by omega)), rfl, rfl⟩
 refine qx (qc (qa (qg (ii (dec z pf.length)) rfl (qd (ii (dec z pf.length)) rfl (qb (qp (ql (L' := L) [ii (dec z pf.length)] (ii (dec z pf.length)) (.tmp rfl .nil) rfl rF rF (sD sR) ?_)))))))
 exact ⟨rfl, rfl, rfl⟩

/- laws.szPolyS -/
theorem szPolyS_spec {F : FH} {L : List HP} {rsv : Value} {rs : List PolyT} (hrs : PolysF F rsv rs) {z : Int} (hz : 0 ≤ z ∧ z ≤ 4000000) (hrl : rs.length ≤ 9223372036854775807) (hrb : ∀ i, i < rs.length → (rs.getD i (0, [])).2.length ≤ 9223372036854775807) :
    Does prog 10 [rsv, ii (z)] F (L) (fun v F' L' => (ii (dec z (szG lenPl rs)) : Value) = v ∧ F = F' ∧ L = L') := by
 refine qC func10 rfl rfl rfl (qc (qa (qd (ii (0)) rfl (qb (qc (qa (qg (ii (z)) rfl (qg (rsv) rfl (cX (qB runUnderlying28 rfl hrs.slv (cX (jo (z - ((rs.length : Int))) rfl rfl (by omega) (by omega) (qd (ii (z - ((rs.length : Int)))) rfl (qb (qc (qc (qa ?_)))))))))))))))))
 refine qg (ii (z - ((rs.length : Int)))) rfl (cX (qK rfl rfl (qb ?_)))
 refine qw (p := (z - ((rs.length : Int)) : Int) < 0) rfl (fun h1 => ?_) (fun h1 => ?_)
 ·refine qc (qa (qd (ii (-1)) rfl (qb (qp (qi (ql (L' := L) [ii (-1)] (ii (-1)) (.tmp rfl .nil) rfl rF rF sR ?_))))))
  exact ⟨(vI (dec_mono (n := rs.length) (by rw [dec_neg (by omega)]; omega) (by unfold szG; omega))), rfl, rfl⟩
 refine qx (qc (qc (qa (qd (ii (0)) rfl (qb (qG (jd (α := Nat) (fun k => [(0, rsv), (1, ii (dec z (rs.length + gTo lenPl rs k))), (5, ii ((k : Int)))]) (fun k => L) (fun k F' => F = F' ∧ (k ≤ rs.length) ∧ (0 ≤ dec z (rs.length + gTo lenPl rs k))) (fun k => rs.length - k) 0 ⟨rfl, (vI (by show z - rs.length = dec z (rs.length + 0); rw [Nat.add_zero, dec_pos (by omega)])), rfl, ⟨⟩⟩ sR ⟨rfl, (by (try dsimp only) <;> omega), (by show 0 ≤ dec z (rs.length + 0); rw [Nat.add_zero, dec_pos (by omega)]; omega)⟩ ?_)))))))
 rintro k rE _ _ ⟨rfl, hk, hnn⟩
 show X _ _ _ _ (envs [(0, rsv), (1, ii (dec z (rs.length + gTo lenPl rs k))), (5, ii ((k : Int)))] rE) _ (L)
 have hdr := dec_range z (rs.length + gTo lenPl rs k)
 have hrk := hrb k
 have hgk : lenPl (rs.getD k (0, [])) = (rs.getD k (0, [])).2.length := rfl
 refine qc (qc (qa (qg (ii ((k : Int))) rfl (qg (rsv) rfl (cX (qB runUnderlying28 rfl hrs.slv (cX (qK rfl rfl (qb ?_)))))))))
 refine qw (p := (k : Int) < (rs.length : Int)) rfl (fun h2 => ?_) (fun h2 => ?_)
 ·refine qx (qc (qG (qc (qa (qg (rsv) rfl (qg (ii ((k : Int))) rfl (cX (qv k runUnderlying28 sizeOf120 rfl rfl rfl hrs.slv (by omega) rfl ?_))))))))
  obtain ⟨a1, ha1, hrg1, hq1⟩ := hrs.rd (i := k) (by omega)
  refine cX (qr [ii ((rs.getD k (0, [])).1), a1] isAgg120 sizeOf120 rfl rfl (Rd.all (hrg1 _)) (qg (ii (dec z (rs.length + gTo lenPl rs k))) rfl (cX (qq (args := [.agg #[ii ((rs.getD k (0, [])).1), a1], ii (dec z (rs.length + gTo lenPl rs k))]) call64 rfl (szPoly_spec (z := dec z (rs.length + gTo lenPl rs k)) ha1 (hz := (by first | assumption | rfl | omega | simp)) (hll := (by first | assumption | rfl | omega | simp))) ?_))))
  rintro _ _ _ _ ⟨rfl, rfl, rfl⟩
  refine qd (ii (dec (dec z (rs.length + gTo lenPl rs k)) ((rs.getD k (0, [])).2).length)) rfl (qb (qc (qa (qg (ii (dec (dec z (rs.length + gTo lenPl rs k)) ((rs.getD k (0, [])).2).length)) rfl (cX (qK rfl rfl (qb ?_)))))))
  refine qw (p := (dec (dec z (rs.length + gTo lenPl rs k)) ((rs.getD k (0, [])).2).length : Int) < 0) rfl (fun h3 => ?_) (fun h3 => ?_)
  ·refine qc (qa (qd (ii (-1)) rfl (qb (qp (qA (qi (qi (qA (qi (ql (L' := L) [ii (-1)] (ii (-1)) (.tmp rfl .nil) rfl rF rF sR ?_))))))))))
   exact ⟨(vI (by have h9 := gTo_le (f := lenPl) (l := rs) ((0 : Int), ([] : List Int)) (k + 1) rs.length (by omega) (Nat.le_refl _); refine dec_mono (n := rs.length + gTo lenPl rs (k + 1)) ?_ (by unfold szG; omega); rw [← gTo_succ ((0 : Int), ([] : List Int)) (by omega), ← Nat.add_assoc, ← dec_dec (by omega)]; assumption)), rfl, rfl⟩
  refine qx (qa (qg (ii ((k : Int))) rfl (cX (qN (((k + 1 : Nat) : Int)) rfl rfl (by omega) (by omega) (qd (ii (((k + 1 : Nat) : Int))) rfl (qb ?_))))))
  exact ⟨k + 1, _, FLe.refl _, rF, ⟨rfl, (vI (by rw [dec_dec (by omega), Nat.add_assoc, ← gTo_succ ((0 : Int), ([] : List Int)) (by omega)]; rfl)), rfl, ⟨⟩⟩, sR, ⟨rfl, (by (try dsimp only) <;> omega), (by (try dsimp only); rw [← gTo_succ ((0 : Int), ([] : List Int)) (by omega), ← Nat.add_assoc, ← dec_dec (by omega)]; exact Int.not_lt.1 (by assumption))⟩, (by omega)⟩
 refine jb (qu (qu (qJ (qc (qa (qg (ii (dec z (rs.length + gTo lenPl rs k))) rfl (qd (ii (dec z (rs.length + gTo lenPl rs k))) rfl (qb (qp (ql (L' := L) [ii (dec z (rs.length + gTo lenPl rs k))] (ii (dec z (rs.length + gTo lenPl rs k))) (.tmp rfl .nil) rfl rF rF sR ?_))))))))))
 exact ⟨(vI (by rw [szG, show k = rs.length from by omega])), rfl, rfl⟩

/- laws.eqPoly -/
theorem eqPoly_spec {F : FH} {L : List HP} {ac : Int} {afv : Value} {af : List Int} (haf : IntsF F afv af) {bc : Int} {bfv : Value} {bf : List Int} (hbf : IntsF F bfv bf) (hbd : af.length ≤ 9223372036854775807) :
    Does prog 78 [.agg #[ii (ac), afv], .agg #[ii (bc), bfv]] F (L) (fun v F' L' => (.bool (decide ((ac, af) = (bc, bf))) : Value) = v ∧ F = F' ∧ L = L') := by
 refine qC func78 rfl rfl rfl (qc (qa (cX (qI [ii (ac), afv] rfl rfl ?_))))
 intro b1
 refine cX (qI [ii (bc), bfv] rfl rfl ?_)
 intro b2
 refine qd (.bool (false)) rfl (qb (qc (qc (qa (cX (qj (0) qt rfl qy (by decide) rfl rfl (cX (qh qQ rfl (Rd.own [_] rfl rfl) (cX (qj (0) qt rfl qy (by decide) rfl rfl (cX (qh qQ rfl (Rd.own [] rfl rfl) (cX (XOp.neq rfl rfl (qb ?_)))))))))))))))
 refine qw (p := (ac : Int) ≠ bc) rfl (fun h1 => ?_) (fun h1 => ?_)
 ·refine qc (qa (qd (.bool (false)) rfl (qb (qp (qi (ql (L' := L) [.bool (false)] (.bool (false)) (.tmp rfl .nil) rfl rF rF (sD (sD sR)) ?_))))))
  exact ⟨(vB (decide_eq_false (by intro e; simp_all))), rfl, rfl⟩
 refine qx (qc (qc (qa (cX (qj (1) qt rfl qs (by decide) rfl rfl (cX (qh qF rfl (Rd.own [_] rfl rfl) (cX (qj (1) qt rfl qs (by decide) rfl rfl (cX (qh qF rfl (Rd.own [] rfl rfl) (cX (qq (args := [afv, bfv]) call79 rfl (eqInt64S_spec haf hbf (hbd := (.inl hbd))) ?_)))))))))))))
 rintro _ _ _ _ ⟨rfl, rfl, rfl⟩
 refine cX (jx rfl (qb ?_))
 refine qw (p := ¬(af = bf)) rfl (fun h2 => ?_) (fun h2 => ?_)
 ·refine qc (qa (qd (.bool (false)) rfl (qb (qp (qi (ql (L' := L) [.bool (false)] (.bool (false)) (.tmp rfl .nil) rfl rF rF (sD (sD sR)) ?_))))))
  exact ⟨(vB (decide_eq_false (by intro e; simp_all))), rfl, rfl⟩
 refine qx (qc (qa (qd (.bool (true)) rfl (qb (qp (ql (L' := L) [.bool (true)] (.bool (true)) (.tmp rfl .nil) rfl rF rF (sD (sD sR)) ?_))))))
 exact ⟨(vB (decide_eq_true (by simp_all))), rfl, rfl⟩

/- laws.eqPolyS -/
theorem eqPolyS_spec {F : FH} {L : List HP} {av : Value} {a : List PolyT} (ha : PolysF F av a) {bv : Value} {b : List PolyT} (hb : PolysF F bv b) (hal : a.length ≤ 9223372036854775807) (hbd : ∀ i, i < a.length → (a.getD i (0, [])).2.length ≤ 9223372036854775807) :
    Does prog 18 [av, bv] F (L) (fun v F' L' => (.bool (decide (a = b)) : Value) = v ∧ F = F' ∧ L = L') := by
 refine qC func18 rfl rfl rfl (qc (qa (qd (.bool (false)) rfl (qb (qc (qc (qa (qg (av) rfl (cX (qB jh rfl ha.slv (qg (bv) rfl (cX (qB jh rfl hb.slv (cX (XOp.neq rfl rfl (qb ?_))))))))))))))))
 refine qw (p := ((a.length : Int) : Int) ≠ (b.length : Int)) rfl (fun h1 => ?_) (fun h1 => ?_)
 ·refine qc (qa (qd (.bool (false)) rfl (qb (qp (qi (ql (L' := L) [.bool (false)] (.bool (false)) (.tmp rfl .nil) rfl rF rF sR ?_))))))
  exact ⟨(vB (decide_eq_false (fun e => by rw [e] at h1; omega))), rfl, rfl⟩
 refine qx (qc (qc (qa (qd (ii (0)) rfl (qb (qG (jd (α := Nat) (fun k => [(0, av), (1, bv), (5, ii ((k : Int)))]) (fun k => L) (fun k F' => F = F' ∧ (k ≤ a.length) ∧ (∀ i, i < k → a.getD i (0, []) = b.getD i (0, []))) (fun k => a.length - k) 0 ⟨rfl, rfl, rfl, ⟨⟩⟩ sR ⟨rfl, (by (try dsimp only) <;> omega), (fun i hi => absurd hi (by omega))⟩ ?_)))))))
 rintro k rE _ _ ⟨rfl, hk, hall⟩
 show X _ _ _ _ (envs [(0, av), (1, bv), (5, ii ((k : Int)))] rE) _ (L)
 have hbk := hbd k
 refine qc (qc (qa (qg (ii ((k : Int))) rfl (qg (av) rfl (cX (qB jh rfl ha.slv (cX (qK rfl rfl (qb ?_)))))))))
 refine qw (p := (k : Int) < (a.length : Int)) rfl (fun h2 => ?_) (fun h2 => ?_)
 ·refine qx (qc (qG (qc ?_)))
  obtain ⟨a1, ha1, hrg1, hq1⟩ := ha.rd (i := k) (by omega)
  obtain ⟨a2, ha2, hrg2, hq2⟩ := hb.rd (i := k) (by omega)
  refine jB [] L 8 [] [[], [], [0, 1], [2], [], [], [4, 5], [6]] (phiL [qe av, qe (ii ((k : Int)) : Value), qe (.pointer (some (elemA av (k * 2)))), qe (.agg #[ii ((a.getD k (0, [])).1), a1]), qe bv, qe (ii ((k : Int)) : Value), qe (.pointer (some (elemA bv (k * 2)))), qe (.agg #[ii ((b.getD k (0, [])).1), a2])]) (ownL []) mixed rfl rfl (by kernel_rfl) ?_ ?_
  ·refine pD (fun W R z9 => ?_) ?_
   ·refine qk (qo (av) rfl ?_)
    exact ⟨rfl, rfl, rfl⟩
   refine pD (fun W R z9 => ?_) ?_
   ·refine qk (qo (ii ((k : Int))) rfl ?_)
    exact ⟨rfl, rfl, rfl⟩
   refine pD (fun W R z9 => ?_) ?_
   ·rw [eS (l := [(0, _), (1, _)]) ⟨z9 0 rfl, z9 1 rfl, ⟨⟩⟩]
    refine qk (qv k jh qE rfl rfl rfl ha.slv (by omega) rfl ?_)
    exact ⟨rfl, rfl, rfl⟩
   refine pD (fun W R z9 => ?_) ?_
   ·rw [eS (l := [(2, _)]) ⟨z9 2 rfl, ⟨⟩⟩]
    refine qk (qr [ii ((a.getD k (0, [])).1), a1] je qE rfl rfl (Rd.all (hrg1 _)) ?_)
    exact ⟨rfl, rfl, rfl⟩
   refine pD (fun W R z9 => ?_) ?_
   ·refine qk (qo (bv) rfl ?_)
    exact ⟨rfl, rfl, rfl⟩
   refine pD (fun W R z9 => ?_) ?_
   ·refine qk (qo (ii ((k : Int))) rfl ?_)
    exact ⟨rfl, rfl, rfl⟩
   refine pD (fun W R z9 => ?_) ?_
   ·rw [eS (l := [(4, _), (5, _)]) ⟨z9 4 rfl, z9 5 rfl, ⟨⟩⟩]
    refine qk (qv k jh qE rfl rfl rfl hb.slv (by omega) rfl ?_)
    exact ⟨rfl, rfl, rfl⟩
   refine pD (fun W R z9 => ?_) ?_
   ·rw [eS (l := [(6, _)]) ⟨z9 6 rfl, ⟨⟩⟩]
    refine qk (qr [ii ((b.getD k (0, [])).1), a2] je qE rfl rfl (Rd.all (hrg2 _)) ?_)
    exact ⟨rfl, rfl, rfl⟩
   exact stepsP.nil
  intro W hphi
  rw [eS (l := [(3, _), (7, _)]) ⟨(hphi 3 (by decide)), (hphi 7 (by decide)), ⟨⟩⟩]
  show XL _ _ _ _ _ _ _ (L)
  refine cX (qq (args := [.agg #[ii ((a.getD k (0, [])).1), a1], .agg #[ii ((b.getD k (0, [])).1), a2]]) call78 rfl (eqPoly_spec ha1 ha2 (hbd := (hbk (by omega)))) ?_)
  rintro _ _ _ _ ⟨rfl, rfl, rfl⟩
  refine cX (jx rfl (qb ?_))
  refine qw (p := ¬((((a.getD k (0, [])).1), ((a.getD k (0, [])).2)) = (((b.getD k (0, [])).1), ((b.getD k (0, [])).2)))) rfl (fun h3 => ?_) (fun h3 => ?_)
  ·refine qc (qa (qd (.bool (false)) rfl (qb (qp (qA (qi (qi (qA (qi (ql (L' := L) [.bool (false)] (.bool (false)) (.tmp rfl .nil) rfl rF rF sR ?_))))))))))
   exact ⟨(vB (decide_eq_false (fun e => by subst e; simp at *))), rfl, rfl⟩
  refine qx (qa (qg (ii ((k : Int))) rfl (cX (qN (((k + 1 : Nat) : Int)) rfl rfl (by omega) (by omega) (qd (ii (((k + 1 : Nat) : Int))) rfl (qb ?_))))))
  exact ⟨k + 1, _, FLe.refl _, rF, ⟨rfl, rfl, rfl, ⟨⟩⟩, sR, ⟨rfl, (by (try dsimp only) <;> omega), (fun i hi => (Nat.lt_or_ge i k).elim (fun h => hall i h) (fun h => by obtain rfl : i = k := (by omega); first | assumption | exact Classical.not_not.1 (by assumption)))⟩, (by omega)⟩
 refine jb (qu (qu (qJ (qc (qa (qd (.bool (true)) rfl (qb (qp (ql (L' := L) [.bool (true)] (.bool (true)) (.tmp rfl .nil) rfl rF rF sR ?_)))))))))
 exact ⟨(vB (decide_eq_true (ext_any ((0 : Int), ([] : List Int)) (by omega) (fun i hi => hall i (by omega))))), rfl, rfl⟩

/- laws.toPoly -/
set_option maxRecDepth 20000 in
theorem toPoly_spec {F : FH} {L : List HP} {pc : Int} {pfv : Value} {pf : List Int} (hpf : IntsF F pfv pf) (hll : pf.length ≤ 4000000) :
    Does prog 71 [.agg #[ii (pc), pfv]] F (L) (fun v F' L' => ∃ (a : Value), (.agg #[ii (pc), a] : Value) = v ∧ (IntsF F' a pf) ∧ L = L') := by
 refine qC func71 rfl rfl rfl (qc (qa (cX (qI [ii (pc), pfv] rfl rfl ?_))))
 intro b1
 refine cX (qY [ii (0), sN] qX rfl ?_)
 intro b2
 refine qb (qc (qa (cX (qY [ii (0), sN] qX rfl ?_))))
 intro b3
 refine qb (qc (qa (cX (qj (0) runUnderlying120 rfl qy (by decide) rfl rfl (cX (qh qQ rfl (Rd.own [_, _] rfl rfl) (cX (qj (0) qt rfl qy (by decide) rfl rfl (cX (jt [] _ [ii (pc), sN] qy rfl rfl rfl rfl rfl rfl (qb (qc (qa (cX (qj (1) runUnderlying120 rfl qs (by decide) rfl rfl (cX (qh qF rfl (Rd.own [_, _] rfl rfl) (cX (XOp.frzF <| qq (args := [pfv]) call72 rfl (toInt64S_spec hpf (hlx := (by first | assumption | rfl | omega | simp))) ?_)))))))))))))))))))
 rintro v1 _ _ _ ⟨rfl, hs1, rfl⟩
 refine ⟨_, _, rfl, fun F1 le1 hz1 => ?_⟩
 have hf1 : IntsF F1 v1 ((pf)) := intsH.fz (xs := (pf)) hz1.fz
 refine cX (qj (1) qt rfl qs (by decide) rfl rfl (cX (jt [] _ [ii (pc), v1] qs rfl rfl (qW (qM hf1)) rfl rfl rfl (qb (qc (qa (cX (qr [ii (pc), v1] je qE rfl rfl (Rd.ownN [] rfl rfl) (cX (qL [_] _ [ii (pc), v1] qE rfl rfl rfl (qz rfl (qz (qW (qM hf1)) qS)) rfl rfl rfl (qb (qp (ql (L' := L) [.agg #[ii (pc), v1]] (.agg #[ii (pc), v1]) (.cell rfl (jq [ii (pc), v1] je qE rfl (Rd.ownN [_] rfl rfl)) .nil) rfl le1 rF (sD (sD (sD sR))) ?_)))))))))))))
 exact ⟨_, rfl, hf1, rfl⟩

/- laws.toPolyS -/
set_option maxRecDepth 20000 in
theorem toPolyS_spec {F : FH} {L : List HP} {xv : Value} {x : List PolyT} (hx : PolysF F xv x) (hlx : x.length ≤ 4000000) (hrb : ∀ i, i < x.length → (x.getD i (0, [])).2.length ≤ 4000000) :
    Does prog 14 [xv] F (L) (fun v F' L' => ∃ (a : Value), (a : Value) = v ∧ (PolysF F' a x) ∧ L = L') := by
 refine qC func14 rfl rfl rfl (qc (qa (qd (sN) rfl (qb (qc (qa (qg (xv) rfl (cX (qB runUnderlying28 rfl hx.slv (cX (XOp.makeSlice (n := (x).length) (bytes := 32) [ii (0), sN] jh qE typeInfo128 rfl qX rfl rfl rfl rfl (by omega) (by omega) ?_)))))))))))
 intro v1 hv1
 obtain ⟨cs1, hq1, hc1⟩ : ∃ cs, ((List.range (((x).length) * 2)).map fun i => [Value.int .i64 0, sN].toArray[i % [Value.int .i64 0, sN].toArray.size]!) = cs ∧ PolysC F cs (List.replicate ((x).length) (0, []) : List PolyT) := ⟨_, rfl, by obtain ⟨_, h1, h2⟩ := deepNilsPl 2 ((x).length); exact DeepL.polysNil h1 h2⟩
 rw [hq1]
 refine qd (v1) rfl (qb (qc (qc (qa (qd (ii (0)) rfl (qb (qG (jd (α := Nat × List PolyT × List Value × FH) (fun xQ => [(0, xv), (3, v1), (4, ii (((xQ.1 : Nat) : Int)))]) (fun xQ => slH 128 2 v1 x.length xQ.2.2.1 :: L) (fun xQ F' => xQ.2.2.2 = F' ∧ F ≤ xQ.2.2.2 ∧ (PolysC xQ.2.2.2 xQ.2.2.1 xQ.2.1) ∧ (xQ.1 ≤ x.length) ∧ (xQ.2.1.length = x.length) ∧ (xQ.2.1.take xQ.1 = x.take xQ.1)) (fun xQ => x.length - xQ.1) (0, (List.replicate ((x).length) (0, []) : List PolyT), cs1, F) ⟨rfl, rfl, rfl, ⟨⟩⟩ (sC sR) ⟨rfl, FLe.refl _, (hc1), (by (try dsimp only) <;> omega), (by simp), (rfl)⟩ ?_))))))))
 rintro ⟨k, os, cs, G1⟩ rE _ _ ⟨rfl, leG, hC, hk, hol, hos⟩
 show X _ _ _ _ (envs [(0, xv), (3, v1), (4, ii ((k : Int)))] rE) _ (slH 128 2 v1 x.length cs :: L)
 replace leG : F ≤ G1 := leG
 dsimp only at hC hk hol hos
 have hrk := hrb k
 have leG1 := leG
 replace hx := hx.mono leG1
 refine qc (qc (qa (qg (ii ((k : Int))) rfl (qg (xv) rfl (cX (qB runUnderlying28 rfl hx.slv (cX (qK rfl rfl (qb ?_)))))))))
 refine qw (p := (k : Int) < (x.length : Int)) rfl (fun h1 => ?_) (fun h1 => ?_)
 ·refine qx (qc (qG (qa (qg (v1) rfl (qg (ii ((k : Int))) rfl (qg (xv) rfl (qg (ii ((k : Int))) rfl (cX (qv k runUnderlying28 sizeOf120 rfl rfl rfl hx.slv (by omega) rfl ?_)))))))))
  obtain ⟨a1, ha1, hrg1, hq2⟩ := hx.rd (i := k) (by omega)
  refine cX (qr [ii ((x.getD k (0, [])).1), a1] isAgg120 sizeOf120 rfl rfl (Rd.all (hrg1 _)) (cX (qq (args := [.agg #[ii ((x.getD k (0, [])).1), a1]]) call71 rfl (toPoly_spec ha1 (hll := (hrk (by omega)))) ?_)))
  rintro _ F1 _ le1 ⟨x1, rfl, hr1, rfl⟩
  replace hC := hC.mono le1
  refine cX (qv k jh qE rfl rfl rfl (SlV.own [] rfl) (by omega) rfl (cX (XOp.storeSN (i := k * 2) (m := 2) (vs := [ii (((x.getD k (0, [])).1)), x1]) (cs := cs) [] _ qE rfl rfl rfl (qz rfl (qz (qW (qM hr1)) qS)) rfl (show k * 2 + 2 ≤ _ from by have h9 := CO.len hC; (try simp only [List.length_set, List.length_replicate] at h9); omega) (Nat.succ_pos _) ?_)))
  have hc2 := hC.set (j := k) (n := ((x.getD k (0, [])).1)) (by (try simp only [List.length_set, List.length_replicate]); omega) hr1
  refine qb (qa (qg (ii ((k : Int))) rfl (cX (qN (((k + 1 : Nat) : Int)) rfl rfl (by omega) (by omega) (qd (ii (((k + 1 : Nat) : Int))) rfl (qb ?_))))))
  exact ⟨(k + 1, (os.set k (((x.getD k (0, [])).1), ((x.getD k (0, [])).2))), (cs.take (k * 2) ++ [ii (((x.getD k (0, [])).1)), x1] ++ cs.drop (k * 2 + 2)), F1), _, (qD leG1 le1), rF, ⟨rfl, rfl, rfl, ⟨⟩⟩, (sC sR), ⟨rfl, (qD leG1 le1), (hc2), (by (try dsimp only) <;> omega), (by (try dsimp only); rw [List.length_set]; exact hol), (by (try dsimp only); rw [take_set_any (by omega), hos, take_succ_getD ((0 : Int), ([] : List Int)) (by omega)])⟩, (by omega)⟩
 refine jb (qu (qu (qJ (qc (qa (qg (v1) rfl (qd (v1) rfl (qb (ju [] _ _ rfl (fun F2 le2 hz1 => ?_))))))))))
 replace hC := hC.mono le2
 have hf1 : PolysF F2 v1 os := CO.fz hC (by first | rfl | omega | (rw [List.length_set]; omega) | (simp; done)) hz1.fz
 refine qp (ql (L' := L) [v1] (v1) (.tmp rfl .nil) rfl (qD leG1 le2) rF sR ?_)
 have e : os = x := by rw [← List.take_of_length_le (l := x) (i := k) (by omega), ← hos, List.take_of_length_le (by omega)]
 subst e
 exact ⟨_, rfl, hf1, rfl⟩

/- laws.FnExactBoundedWalk -/
set_option maxRecDepth 20000 in
theorem FnExactBoundedWalk_does {F : FH} {L : List HP} {arv : Value} {ar : List Int} (har : IntsF F arv ar) {rsv : Value} {rs : List (List Int × List Int)} (hrs : PairsF F rsv rs) {psv : Value} {ps : List PolyT} (hps : PolysF F psv ps) {fv : Value} {f : List Int} (hf : IntsF F fv f) {xsv : Value} {xs : List StepT} (hxs : StepsF F xsv xs) (hlar : ar.length ≤ 9223372036854775807) (hlrs : rs.length ≤ 9223372036854775807) (hbrs : ∀ i, i < rs.length → (rs.getD i ([], [])).1.length ≤ 9223372036854775807 ∧ (rs.getD i ([], [])).2.length ≤ 9223372036854775807) (hlps : ps.length ≤ 9223372036854775807) (hbps : ∀ i, i < ps.length → (ps.getD i (0, [])).2.length ≤ 9223372036854775807) (hlf : f.length ≤ 9223372036854775807) (hlxs : xs.length ≤ 9223372036854775807) (hbxs : ∀ i, i < xs.length → (xs.getD i (0, 0, [])).2.2.length ≤ 9223372036854775807) :
    Does prog 3 [.agg #[arv, rsv], psv, .agg #[fv, xsv]] F (L) (fun v F' L' => (.bool (true) : Value) = v ∧ F = F' ∧ L = L') := by
 refine qC func3 rfl rfl rfl (qc (qa (cX (qI [arv, rsv] rfl rfl ?_))))
 intro b1
 refine cX (qI [fv, xsv] rfl rfl ?_)
 intro b2
 refine qd (.bool (false)) rfl (qb (qc (qa (qd (ii (1048576)) rfl (qb (qc (qa (cX (qr [arv, rsv] isAgg27 sizeOf27 rfl rfl (Rd.ownN [_] rfl rfl) (qg (ii (1048576)) rfl (cX (qq (args := [.agg #[arv, rsv], ii (1048576)]) call9 rfl (szSystem_spec (z := 1048576) har hrs (hz := (by first | assumption | rfl | omega | simp)) (hal := (by first | assumption | rfl | omega | simp)) (hrl := (by first | assumption | rfl | omega | simp)) (hrb := (by first | assumption | rfl | omega | simp))) ?_))))))))))))
 rintro _ _ _ _ ⟨rfl, rfl, rfl⟩
 refine qd (ii (dec 1048576 (ar.length + szR rs))) rfl (qb (qc (qc (qa (qg (ii (dec 1048576 (ar.length + szR rs))) rfl (cX (qK rfl rfl (qb ?_))))))))
 refine qw (p := (dec 1048576 (ar.length + szR rs) : Int) < 0) rfl (fun h1 => ?_) (fun h1 => ?_)
 ·refine qc (qa (qd (.bool (true)) rfl (qb (qp (qi (ql (L' := L) [.bool (true)] (.bool (true)) (.tmp rfl .nil) rfl rF rF (sD (sD sR)) ?_))))))
  exact ⟨rfl, rfl, rfl⟩
 have hd1 := dec_le2 h1 (by omega)
 have hzrs := szR_le (rs := rs)
 have hirs := hzrs.2
 have hcrs : ∀ i, i < rs.length → (rs.getD i ([], [])).1.length ≤ 4000000 ∧ (rs.getD i ([], [])).2.length ≤ 4000000 := fun i hi => by have := hirs i hi; omega
 have hfrs := flatPair_len rs
 refine qx (qc (qa (qg (psv) rfl (qg (ii (dec 1048576 (ar.length + szR rs))) rfl (cX (qq (args := [psv, ii (dec 1048576 (ar.length + szR rs))]) call10 rfl (szPolyS_spec (z := dec 1048576 (ar.length + szR rs)) hps (hz := (by first | assumption | rfl | omega | simp)) (hrl := (by first | assumption | rfl | omega | simp)) (hrb := (by first | assumption | rfl | omega | simp))) ?_))))))
 rintro _ _ _ _ ⟨rfl, rfl, rfl⟩
 refine qd (ii (dec (dec 1048576 (ar.length + szR rs)) (szG lenPl ps))) rfl (qb (qc (qc (qa (qg (ii (dec (dec 1048576 (ar.length + szR rs)) (szG lenPl ps))) rfl (cX (qK rfl rfl (qb ?_))))))))
 refine qw (p := (dec (dec 1048576 (ar.length + szR rs)) (szG lenPl ps) : Int) < 0) rfl (fun h2 => ?_) (fun h2 => ?_)
 ·refine qc (qa (qd (.bool (true)) rfl (qb (qp (qi (ql (L' := L) [.bool (true)] (.bool (true)) (.tmp rfl .nil) rfl rF rF (sD (sD sR)) ?_))))))
  exact ⟨rfl, rfl, rfl⟩
 have hd2 := dec_le2 h2 (by omega)
 have hzps := szG_le (f := lenPl) (l := ps) ((0 : Int), ([] : List Int))
 have hips := hzps.2
 have hcps : ∀ i, i < ps.length → (ps.getD i (0, [])).2.length ≤ 4000000 := fun i hi => by have h9 := hips i hi; have h8 : lenPl (ps.getD i (0, [])) = (ps.getD i (0, [])).2.length := rfl; omega
 have hq9ps : szG lenPl ps = ps.length + gTo lenPl ps ps.length := rfl
 refine qx (qc (qa (cX (qr [fv, xsv] isAgg31 sizeOf31 rfl rfl (Rd.ownN [] rfl rfl) (qg (ii (dec (dec 1048576 (ar.length + szR rs)) (szG lenPl ps))) rfl (cX (qq (args := [.agg #[fv, xsv], ii (dec (dec 1048576 (ar.length + szR rs)) (szG lenPl ps))]) call11 rfl (szWalk_spec (z := dec (dec 1048576 (ar.length + szR rs)) (szG lenPl ps)) hf hxs (hz := (by first | assumption | rfl | omega | simp)) (hal := (by first | assumption | rfl | omega | simp)) (hrl := (by first | assumption | rfl | omega | simp)) (hrb := (by first | assumption | rfl | omega | simp))) ?_)))))))
 rintro _ _ _ _ ⟨rfl, rfl, rfl⟩
 refine qd (ii (dec (dec (dec 1048576 (ar.length + szR rs)) (szG lenPl ps)) (f.length + szG lenS xs))) rfl (qb (qc (qc (qa (qg (ii (dec (dec (dec 1048576 (ar.length + szR rs)) (szG lenPl ps)) (f.length + szG lenS xs))) rfl (cX (qK rfl rfl (qb ?_))))))))
 refine qw (p := (dec (dec (dec 1048576 (ar.length + szR rs)) (szG lenPl ps)) (f.length + szG lenS xs) : Int) < 0) rfl (fun h3 => ?_) (fun h3 => ?_)
 ·refine qc (qa (qd (.bool (true)) rfl (qb (qp (qi (ql (L' := L) [.bool (true)] (.bool (true)) (.tmp rfl .nil) rfl rF rF (sD (sD sR)) ?_))))))
  exact ⟨rfl, rfl, rfl⟩
 have hd3 := dec_le2 h3 (by omega)
 have hzxs := szG_le (f := lenS) (l := xs) ((0 : Int), (0 : Int), ([] : List Int))
 have hixs := hzxs.2
 have hcxs : ∀ i, i < xs.length → (xs.getD i (0, 0, [])).2.2.length ≤ 4000000 := fun i hi => by have h9 := hixs i hi; have h8 : lenS (xs.getD i (0, 0, [])) = (xs.getD i (0, 0, [])).2.2.length := rfl; omega
 have hfxs := flatStep_len xs
 have hq9xs : szG lenS xs = xs.length + gTo lenS xs xs.length := rfl
 refine qx (qc ?_)
 refine X.drawG [cellsH b2 [fv, xsv] 31, cellsH b1 [arv, rsv] 27] L 5 [] [[], [0], [], [2]] [] (phiG [pe (.agg #[arv, rsv]), fun FF us v => (.agg #[((aggAt v 0)), ((aggAt v 1))] : Value) = v ∧ (IntsF FF ((aggAt v 0)) ar) ∧ (PairsF FF ((aggAt v 1)) rs), pe psv, fun FF us v => ((v) : Value) = v ∧ (PolysF FF (v) ps), pe (.agg #[fv, xsv])]) (ownL []) mixed rfl rfl (by kernel_rfl) (by kernel_rfl) (MonoG.get (m1 (mC (fun le h => ⟨h.1, h.2.1.mono le, h.2.2.mono le⟩) (m1 (mC (fun le h => ⟨h.1, h.2.mono le⟩) (m1 MonoG.nil)))))) ?_ ?_
 ·refine gD (fun W Fs R lF z9 => ?_) ?_
  ·replace har := har.mono lF
   replace hrs := hrs.mono lF
   replace hps := hps.mono lF
   replace hf := hf.mono lF
   replace hxs := hxs.mono lF
   refine qk (qr [arv, rsv] isAgg27 sizeOf27 rfl rfl (Rd.ownN [_] rfl rfl) ?_)
   exact ⟨rfl, rfl⟩
  refine gD (fun W Fs R lF z9 => ?_) ?_
  ·replace har := har.mono lF
   replace hrs := hrs.mono lF
   replace hps := hps.mono lF
   replace hf := hf.mono lF
   replace hxs := hxs.mono lF
   rw [eS (l := [(0, _)]) ⟨z9 0 rfl, ⟨⟩⟩]
   refine qk (qq (args := [.agg #[arv, rsv]]) call13 rfl (toSystem_spec har hrs (hla := (by first | assumption | rfl | omega | simp)) (hrl := (by first | assumption | rfl | omega | simp)) (hrb := (by first | assumption | rfl | omega | simp))) ?_)
   rintro _ F3 _ le3 ⟨x4, x5, rfl, hr5, hr6, hr7, rfl⟩
   replace har := har.mono le3
   replace hrs := hrs.mono le3
   replace hps := hps.mono le3
   replace hf := hf.mono le3
   replace hxs := hxs.mono le3
   exact ⟨⟨rfl, hr5, hr6⟩, rfl⟩
  refine gD (fun W Fs R lF z9 => ?_) ?_
  ·refine qk (qo (psv) rfl ?_)
   exact ⟨rfl, rfl⟩
  refine gD (fun W Fs R lF z9 => ?_) ?_
  ·replace har := har.mono lF
   replace hrs := hrs.mono lF
   replace hps := hps.mono lF
   replace hf := hf.mono lF
   replace hxs := hxs.mono lF
   rw [eS (l := [(2, _)]) ⟨z9 2 rfl, ⟨⟩⟩]
   refine qk (qq (args := [psv]) call14 rfl (toPolyS_spec hps (hlx := (by first | assumption | rfl | omega | simp)) (hrb := (by first | assumption | rfl | omega | simp))) ?_)
   rintro _ F4 _ le4 ⟨x6, rfl, hr8, rfl⟩
   replace har := har.mono le4
   replace hrs := hrs.mono le4
   replace hps := hps.mono le4
   replace hf := hf.mono le4
   replace hxs := hxs.mono le4
   exact ⟨⟨rfl, hr8⟩, rfl⟩
  refine gD (fun W Fs R lF z9 => ?_) ?_
  ·replace har := har.mono lF
   replace hrs := hrs.mono lF
   replace hps := hps.mono lF
   replace hf := hf.mono lF
   replace hxs := hxs.mono lF
   refine qk (qr [fv, xsv] isAgg31 sizeOf31 rfl rfl (Rd.ownN [] rfl rfl) ?_)
   exact ⟨rfl, rfl⟩
  exact stepsG.nil
 intro W F5 le5 hphi
 obtain ⟨e1, f1_1hr1, f1_1hr2⟩ := hphi 1 (by decide)
 obtain ⟨e3, f3_1hr⟩ := hphi 3 (by decide)
 generalize hu1 : ((aggAt (W 1) 0)) = u1 at e1 f1_1hr1 f1_1hr2 e3 f3_1hr
 generalize hu2 : ((aggAt (W 1) 1)) = u2 at e1 f1_1hr1 f1_1hr2 e3 f3_1hr
 generalize hu3 : ((W 3)) = u3 at e1 f1_1hr1 f1_1hr2 e3 f3_1hr
 rw [eS (l := [(1, (.agg #[u1, u2])), (3, u3), (4, _)]) ⟨(e1).symm, hu3, (hphi 4 (by decide)), ⟨⟩⟩]
 replace har := har.mono le5
 replace hrs := hrs.mono le5
 replace hps := hps.mono le5
 replace hf := hf.mono le5
 replace hxs := hxs.mono le5
 show XL _ _ _ _ _ _ _ (cellsH b2 [fv, xsv] 31 :: cellsH b1 [arv, rsv] 27 :: L)
 refine cX (XOp.thawL (id (qq (args := [.agg #[fv, xsv]]) call15 rfl (toWalk_spec hf hxs (hfl := (by first | assumption | rfl | omega | simp)) (hsl := (by first | assumption | rfl | omega | simp)) (hsb := (by first | assumption | rfl | omega | simp))) ?_)))
 rintro _ F6 _ le6 ⟨x7, x8, rfl, hr9, hr10, hr11, rfl⟩
 refine ⟨[intsH 2 x7 f, stepsD 2 192 x8 xs], hr11, ?_⟩
 show XL _ _ _ _ _ _ _ (intsH 2 x7 f :: stepsD 2 192 x8 xs :: cellsH b2 [fv, xsv] 31 :: cellsH b1 [arv, rsv] 27 :: L)
 refine XL.freezeF [] _ _ rfl (fun F7 le7 hz1 => ?_)
 replace har := har.mono le7
 replace hrs := hrs.mono le7
 replace hps := hps.mono le7
 replace hf := hf.mono le7
 replace hxs := hxs.mono le7
 replace f1_1hr1 := f1_1hr1.mono le7
 replace f1_1hr2 := f1_1hr2.mono le7
 replace f3_1hr := f3_1hr.mono le7
 have hf1 : IntsF F7 x7 f := intsH.fz (xs := f) hz1.fz
 refine XL.freezeF [] _ _ rfl (fun F8 le8 hz2 => ?_)
 replace har := har.mono le8
 replace hrs := hrs.mono le8
 replace hps := hps.mono le8
 replace hf := hf.mono le8
 replace hxs := hxs.mono le8
 replace f1_1hr1 := f1_1hr1.mono le8
 replace f1_1hr2 := f1_1hr2.mono le8
 replace f3_1hr := f3_1hr.mono le8
 replace hf1 := hf1.mono le8
 have hf2 : StepsF F8 x8 xs := stepsD.fz hz2.fz
 refine cX (qq (args := [.agg #[u1, u2], u3, .agg #[x7, x8]]) call12 rfl (sBoundedWalk_spec f1_1hr1 f1_1hr2 f3_1hr hf1 hf2 (hlp := (by first | assumption | rfl | omega | simp)) (hpb := (by first | assumption | rfl | omega | simp)) (hla := (by first | assumption | rfl | omega | simp)) (hlr := (by first | assumption | rfl | omega | simp)) (hrb := (by first | assumption | rfl | omega | simp)) (hlf := (by first | assumption | rfl | omega | simp)) (hlss := (by first | assumption | rfl | omega | simp)) (hsb := (by first | assumption | rfl | omega | simp))) ?_)
 rintro _ F9 _ le9 ⟨rfl, rfl⟩
 replace har := har.mono le9
 replace hrs := hrs.mono le9
 replace hps := hps.mono le9
 replace hf := hf.mono le9
 replace hxs := hxs.mono le9
 refine qd (.bool (bwF ar rs ps f xs)) rfl (qb (qc (qa (cX (qr [arv, rsv] isAgg27 sizeOf27 rfl rfl (Rd.ownN [_] rfl rfl) (cX (XOp.thawL (id (qq (args := [.agg #[arv, rsv]]) call13 rfl (toSystem_spec har hrs (hla := (by first | assumption | rfl | omega | simp)) (hrl := (by first | assumption | rfl | omega | simp)) (hrb := (by first | assumption | rfl | omega | simp))) ?_)))))))))
 rintro _ F10 _ le10 ⟨x9, x10, rfl, hr12, hr13, hr14, rfl⟩
 refine ⟨[intsH 2 x9 ar, pairsD 2 76 x10 rs], hr14, ?_⟩
 show XL _ _ _ _ _ _ _ (intsH 2 x9 ar :: pairsD 2 76 x10 rs :: cellsH b2 [fv, xsv] 31 :: cellsH b1 [arv, rsv] 27 :: L)
 refine cX (qY [sN, sN] zeroValue39 rfl ?_)
 intro b3
 refine cX (qL [] _ [x9, x10] jz rfl rfl rfl (qz (qW (qM hr12)) (qz (qW (PairsF.isSl hr13)) qS)) rfl rfl rfl (qb (qc (qa (qg (psv) rfl (cX (qq (args := [psv]) call14 rfl (toPolyS_spec hps (hlx := (by first | assumption | rfl | omega | simp)) (hrb := (by first | assumption | rfl | omega | simp))) ?_)))))))
 rintro _ F11 _ le11 ⟨x11, rfl, hr15, rfl⟩
 replace har := har.mono le11
 replace hrs := hrs.mono le11
 replace hps := hps.mono le11
 replace hf := hf.mono le11
 replace hxs := hxs.mono le11
 refine qd (x11) rfl (qb (qc (qa (cX (qr [fv, xsv] isAgg31 sizeOf31 rfl rfl (Rd.ownN [_, _, _] rfl rfl) (cX (XOp.thawL (id (qq (args := [.agg #[fv, xsv]]) call15 rfl (toWalk_spec hf hxs (hfl := (by first | assumption | rfl | omega | simp)) (hsl := (by first | assumption | rfl | omega | simp)) (hsb := (by first | assumption | rfl | omega | simp))) ?_)))))))))
 rintro _ F12 _ le12 ⟨x12, x13, rfl, hr16, hr17, hr18, rfl⟩
 refine ⟨[intsH 2 x12 f, stepsD 2 192 x13 xs], hr18, ?_⟩
 show XL _ _ _ _ _ _ _ (intsH 2 x12 f :: stepsD 2 192 x13 xs :: cellsH b3 [x9, x10] 39 :: intsH 2 x9 ar :: pairsD 2 76 x10 rs :: cellsH b2 [fv, xsv] 31 :: cellsH b1 [arv, rsv] 27 :: L)
 refine cX (qY [sN, sN] zeroValue45 rfl ?_)
 intro b4
 refine cX (qL [] _ [x12, x13] sizeOf45 rfl rfl rfl (qz (qW (qM hr16)) (qz (qW (StepsF.isSl hr17)) qS)) rfl rfl rfl (qb (qc (qa (cX (qr [x9, x10] jG jz rfl rfl (Rd.ownN [_, _, _] rfl rfl) (qg (x11) rfl (cX (qr [x12, x13] isAgg45 sizeOf45 rfl rfl (Rd.ownN [] rfl rfl) (XL.freezeF [_, _, _, _] _ _ rfl (fun F13 le13 hz3 => ?_)))))))))))
 replace har := har.mono le13
 replace hrs := hrs.mono le13
 replace hps := hps.mono le13
 replace hf := hf.mono le13
 replace hxs := hxs.mono le13
 replace hr15 := hr15.mono le13
 have hf3 : IntsF F13 x9 ar := intsH.fz (xs := ar) hz3.fz
 refine XL.freezeF [_, _, _, _] _ _ rfl (fun F14 le14 hz4 => ?_)
 replace har := har.mono le14
 replace hrs := hrs.mono le14
 replace hps := hps.mono le14
 replace hf := hf.mono le14
 replace hxs := hxs.mono le14
 replace hr15 := hr15.mono le14
 replace hf3 := hf3.mono le14
 have hf4 : PairsF F14 x10 rs := pairsD.fz hz4.fz
 refine XL.freezeF [_] _ _ rfl (fun F15 le15 hz5 => ?_)
 replace har := har.mono le15
 replace hrs := hrs.mono le15
 replace hps := hps.mono le15
 replace hf := hf.mono le15
 replace hxs := hxs.mono le15
 replace hr15 := hr15.mono le15
 replace hf3 := hf3.mono le15
 replace hf4 := hf4.mono le15
 have hf5 : IntsF F15 x12 f := intsH.fz (xs := f) hz5.fz
 refine XL.freezeF [_] _ _ rfl (fun F16 le16 hz6 => ?_)
 replace har := har.mono le16
 replace hrs := hrs.mono le16
 replace hps := hps.mono le16
 replace hf := hf.mono le16
 replace hxs := hxs.mono le16
 replace hr15 := hr15.mono le16
 replace hf3 := hf3.mono le16
 replace hf4 := hf4.mono le16
 replace hf5 := hf5.mono le16
 have hf6 : StepsF F16 x13 xs := stepsD.fz hz6.fz
 refine cX (qq (args := [.agg #[x9, x10], x11, .agg #[x12, x13]]) call16 rfl (BoundedWalk_spec hf3 hf4 hr15 hf5 hf6 (hlp := (by first | assumption | rfl | omega | simp)) (hpb := (by first | assumption | rfl | omega | simp)) (hla := (by first | assumption | rfl | omega | simp)) (hlf := (by first | assumption | rfl | omega | simp)) (hlss := (by first | assumption | rfl | omega | simp)) (hsb := (by first | assumption | rfl | omega | simp))) ?_)
 rintro _ F17 _ le17 ⟨rfl, rfl⟩
 replace har := har.mono le17
 replace hrs := hrs.mono le17
 replace hps := hps.mono le17
 replace hf := hf.mono le17
 replace hxs := hxs.mono le17
 replace hr15 := hr15.mono le17
 replace hf3 := hf3.mono le17
 replace hf4 := hf4.mono le17
 replace hf5 := hf5.mono le17
 replace hf6 := hf6.mono le17
 refine qd (.bool (bwF ar rs ps f xs)) rfl (qb (qc (qc (qa (qg (.bool (bwF ar rs ps f xs)) rfl (qg (.bool (bwF ar rs ps f xs)) rfl (cX (XOp.neB (a := bwF ar rs ps f xs) (b := bwF ar rs ps f xs) runUnderlying4 rfl rfl (qb ?_)))))))))
 refine qw (p := (bwF ar rs ps f xs) ≠ (bwF ar rs ps f xs)) rfl (fun h4 => ?_) (fun h4 => ?_)
 ·exact absurd rfl h4
 refine qx (qc (qc ?_))
 refine X.drawG [cellsH b4 [x12, x13] 45, cellsH b3 [x9, x10] 39, cellsH b2 [fv, xsv] 31, cellsH b1 [arv, rsv] 27] L 3 [] [[], [], [1]] [] (phiG [pe (.agg #[x9, x10]), pe (.agg #[arv, rsv]), fun FF us v => (.agg #[((aggAt v 0)), ((aggAt v 1))] : Value) = v ∧ (IntsF FF ((aggAt v 0)) ar) ∧ (PairsF FF ((aggAt v 1)) rs)]) (ownL []) mixed rfl rfl (by kernel_rfl) (by kernel_rfl) (MonoG.get (m1 (m1 (mC (fun le h => ⟨h.1, h.2.1.mono le, h.2.2.mono le⟩) MonoG.nil)))) ?_ ?_
 ·refine gD (fun W Fs R lF z9 => ?_) ?_
  ·replace har := har.mono lF
   replace hrs := hrs.mono lF
   replace hps := hps.mono lF
   replace hf := hf.mono lF
   replace hxs := hxs.mono lF
   replace hr15 := hr15.mono lF
   replace hf3 := hf3.mono lF
   replace hf4 := hf4.mono lF
   replace hf5 := hf5.mono lF
   replace hf6 := hf6.mono lF
   refine qk (qr [x9, x10] jG jz rfl rfl (Rd.ownN [_] rfl rfl) ?_)
   exact ⟨rfl, rfl⟩
  refine gD (fun W Fs R lF z9 => ?_) ?_
  ·replace har := har.mono lF
   replace hrs := hrs.mono lF
   replace hps := hps.mono lF
   replace hf := hf.mono lF
   replace hxs := hxs.mono lF
   replace hr15 := hr15.mono lF
   replace hf3 := hf3.mono lF
   replace hf4 := hf4.mono lF
   replace hf5 := hf5.mono lF
   replace hf6 := hf6.mono lF
   refine qk (qr [arv, rsv] isAgg27 sizeOf27 rfl rfl (Rd.ownN [_, _, _] rfl rfl) ?_)
   exact ⟨rfl, rfl⟩
  refine gD (fun W Fs R lF z9 => ?_) ?_
  ·replace har := har.mono lF
   replace hrs := hrs.mono lF
   replace hps := hps.mono lF
   replace hf := hf.mono lF
   replace hxs := hxs.mono lF
   replace hr15 := hr15.mono lF
   replace hf3 := hf3.mono lF
   replace hf4 := hf4.mono lF
   replace hf5 := hf5.mono lF
   replace hf6 := hf6.mono lF
   rw [eS (l := [(1, _)]) ⟨z9 1 rfl, ⟨⟩⟩]
   refine qk (qq (args := [.agg #[arv, rsv]]) call13 rfl (toSystem_spec har hrs (hla := (by first | assumption | rfl | omega | simp)) (hrl := (by first | assumption | rfl | omega | simp)) (hrb := (by first | assumption | rfl | omega | simp))) ?_)
   rintro _ F19 _ le19 ⟨x16, x17, rfl, hr22, hr23, hr24, rfl⟩
   replace har := har.mono le19
   replace hps := hps.mono le19
   replace hf := hf.mono le19
   replace hxs := hxs.mono le19
   replace hr15 := hr15.mono le19
   replace hf3 := hf3.mono le19
   replace hf4 := hf4.mono le19
   replace hf5 := hf5.mono le19
   replace hf6 := hf6.mono le19
   exact ⟨⟨rfl, hr22, hr23⟩, rfl⟩
  exact stepsG.nil
 intro W F20 le20 hphi
 obtain ⟨e2, f2_2hr1, f2_2hr2⟩ := hphi 2 (by decide)
 generalize hu4 : ((aggAt (W 2) 0)) = u4 at e2 f2_2hr1 f2_2hr2
 generalize hu5 : ((aggAt (W 2) 1)) = u5 at e2 f2_2hr1 f2_2hr2
 rw [eS (l := [(0, _), (2, (.agg #[u4, u5]))]) ⟨(hphi 0 (by decide)), (e2).symm, ⟨⟩⟩]
 replace har := har.mono le20
 replace hps := hps.mono le20
 replace hf := hf.mono le20
 replace hxs := hxs.mono le20
 replace hr15 := hr15.mono le20
 replace hf3 := hf3.mono le20
 replace hf4 := hf4.mono le20
 replace hf5 := hf5.mono le20
 replace hf6 := hf6.mono le20
 show XL _ _ _ _ _ _ _ (cellsH b4 [x12, x13] 45 :: cellsH b3 [x9, x10] 39 :: cellsH b2 [fv, xsv] 31 :: cellsH b1 [arv, rsv] 27 :: L)
 refine cX (qq (args := [.agg #[x9, x10], .agg #[u4, u5]]) call17 rfl (eqSystem_spec hf3 hf4 f2_2hr1 f2_2hr2 (hcl := (by first | assumption | rfl | omega | simp)) (hal := (by first | assumption | rfl | omega | simp)) (hbd := (by first | assumption | rfl | omega | simp))) ?_)
 rintro _ _ _ _ ⟨rfl, rfl, rfl⟩
 refine cX (jx rfl (qb ?_))
 refine qw (p := ¬(ar = ar ∧ rs = rs)) rfl (fun h5 => ?_) (fun h5 => ?_)
 ·exact absurd (by first | rfl | exact ⟨rfl, rfl⟩ | exact ⟨⟨rfl, rfl⟩, rfl, rfl⟩ | simp) h5
 refine qx (qc (qc (qa (qg (x11) rfl (qg (psv) rfl (cX (qq (args := [psv]) call14 rfl (toPolyS_spec hps (hlx := (by first | assumption | rfl | omega | simp)) (hrb := (by first | assumption | rfl | omega | simp))) ?_)))))))
 rintro _ F21 _ le21 ⟨x18, rfl, hr25, rfl⟩
 replace har := har.mono le21
 replace hf := hf.mono le21
 replace hxs := hxs.mono le21
 replace hr15 := hr15.mono le21
 replace hf5 := hf5.mono le21
 replace hf6 := hf6.mono le21
 refine cX (qq (args := [x11, x18]) call18 rfl (eqPolyS_spec hr15 hr25 (hal := (by first | assumption | rfl | omega | simp)) (hbd := (by first | assumption | rfl | omega | simp))) ?_)
 rintro _ _ _ _ ⟨rfl, rfl, rfl⟩
 refine cX (jx rfl (qb ?_))
 refine qw (p := ¬(ps = ps)) rfl (fun h6 => ?_) (fun h6 => ?_)
 ·exact absurd (by first | rfl | exact ⟨rfl, rfl⟩ | exact ⟨⟨rfl, rfl⟩, rfl, rfl⟩ | simp) h6
 refine qx (qc (qc ?_))
 refine X.drawG [cellsH b4 [x12, x13] 45, cellsH b3 [x9, x10] 39, cellsH b2 [fv, xsv] 31, cellsH b1 [arv, rsv] 27] L 3 [] [[], [], [1]] [] (phiG [pe (.agg #[x12, x13]), pe (.agg #[fv, xsv]), fun FF us v => (.agg #[((aggAt v 0)), ((aggAt v 1))] : Value) = v ∧ (IntsF FF ((aggAt v 0)) f) ∧ (StepsF FF ((aggAt v 1)) xs)]) (ownL []) mixed rfl rfl (by kernel_rfl) (by kernel_rfl) (MonoG.get (m1 (m1 (mC (fun le h => ⟨h.1, h.2.1.mono le, h.2.2.mono le⟩) MonoG.nil)))) ?_ ?_
 ·refine gD (fun W Fs R lF z9 => ?_) ?_
  ·replace har := har.mono lF
   replace hf := hf.mono lF
   replace hxs := hxs.mono lF
   replace hf5 := hf5.mono lF
   replace hf6 := hf6.mono lF
   refine qk (qr [x12, x13] isAgg45 sizeOf45 rfl rfl (Rd.ownN [] rfl rfl) ?_)
   exact ⟨rfl, rfl⟩
  refine gD (fun W Fs R lF z9 => ?_) ?_
  ·replace har := har.mono lF
   replace hf := hf.mono lF
   replace hxs := hxs.mono lF
   replace hf5 := hf5.mono lF
   replace hf6 := hf6.mono lF
   refine qk (qr [fv, xsv] isAgg31 sizeOf31 rfl rfl (Rd.ownN [_, _] rfl rfl) ?_)
   exact ⟨rfl, rfl⟩
  refine gD (fun W Fs R lF z9 => ?_) ?_
  ·replace har := har.mono lF
   replace hf := hf.mono lF
   replace hxs := hxs.mono lF
   replace hf5 := hf5.mono lF
   replace hf6 := hf6.mono lF
   rw [eS (l := [(1, _)]) ⟨z9 1 rfl, ⟨⟩⟩]
   refine qk (qq (args := [.agg #[fv, xsv]]) call15 rfl (toWalk_spec hf hxs (hfl := (by first | assumption | rfl | omega | simp)) (hsl := (by first | assumption | rfl | omega | simp)) (hsb := (by first | assumption | rfl | omega | simp))) ?_)
   rintro _ F23 _ le23 ⟨x21, x22, rfl, hr29, hr30, hr31, rfl⟩
   replace hf5 := hf5.mono le23
   replace hf6 := hf6.mono le23
   exact ⟨⟨rfl, hr29, hr30⟩, rfl⟩
  exact stepsG.nil
 intro W F24 le24 hphi
 obtain ⟨e2, f2_3hr1, f2_3hr2⟩ := hphi 2 (by decide)
 generalize hu6 : ((aggAt (W 2) 0)) = u6 at e2 f2_3hr1 f2_3hr2
 generalize hu7 : ((aggAt (W 2) 1)) = u7 at e2 f2_3hr1 f2_3hr2
 rw [eS (l := [(0, _), (2, (.agg #[u6, u7]))]) ⟨(hphi 0 (by decide)), (e2).symm, ⟨⟩⟩]
 replace hf5 := hf5.mono le24
 replace hf6 := hf6.mono le24
 show XL _ _ _ _ _ _ _ (cellsH b4 [x12, x13] 45 :: cellsH b3 [x9, x10] 39 :: cellsH b2 [fv, xsv] 31 :: cellsH b1 [arv, rsv] 27 :: L)
 refine cX (qq (args := [.agg #[x12, x13], .agg #[u6, u7]]) call19 rfl (eqWalk_spec hf5 hf6 f2_3hr1 f2_3hr2 (hfl := (by first | assumption | rfl | omega | simp)) (hal := (by first | assumption | rfl | omega | simp)) (hbd := (by first | assumption | rfl | omega | simp))) ?_)
 rintro _ _ _ _ ⟨rfl, rfl, rfl⟩
 refine cX (jx rfl (qb ?_))
 refine qw (p := ¬(f = f ∧ xs = xs)) rfl (fun h7 => ?_) (fun h7 => ?_)
 ·exact absurd (by first | rfl | exact ⟨rfl, rfl⟩ | exact ⟨⟨rfl, rfl⟩, rfl, rfl⟩ | simp) h7
 refine qx (qc (qa (qd (.bool (true)) rfl (qb (qp (ql (L' := L) [.bool (true)] (.bool (true)) (.tmp rfl .nil) rfl rF (qD (qD (qD (qD (qD (qD (qD (qD (qD (qD (qD (qD le5 le7) le8) le9) le11) le13) le14) le15) le16) le17) le20) le21) le24) (sD (sD (sD (sD sR)))) ?_))))))
 exact ⟨rfl, rfl, rfl⟩
end Go.Proofs.YtjpfankibmeaaaaGreat
