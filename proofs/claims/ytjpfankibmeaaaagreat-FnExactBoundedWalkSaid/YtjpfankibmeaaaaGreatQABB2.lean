/-
  Walks, one after the other (part 3).
-/
import Derived.Test.YtjpfankibmeaaaaGreatQABL1
import Derived.Test.YtjpfankibmeaaaaGreatQABB1
set_option linter.unusedSimpArgs false
set_option linter.unusedVariables false
namespace Go.Proofs.YtjpfankibmeaaaaGreat
open Go X M Tryz

/- impl.markedForm -/
set_option maxHeartbeats 2000000 in
set_option maxRecDepth 20000 in
theorem markedForm_step {d : Nat} (ih : ∀ m : Nat, m < d → ∀ {F : FH} {L : List HP}  {arv : Value} {ar : List Int} (har : IntsF F arv ar) {psv : Value} {ps : List PolyT} (hps : PolysF F psv ps) {tv : Value} {t : List Int} (ht : IntsF F tv t) {p : Nat} (hpk : polysOk ar ps = true) (ho : TermW ar t) (hp : p < t.length) (hd : m = t.length - p), Does prog 347 [.agg #[arv], psv, tv, ii ((p : Int))] F L (fun v F' L' => (∃ (a : Value), (.tuple #[.agg #[ii (((formL ar ps (sub ar t p)).getD (0, [])).1), a], .bool ((formL ar ps (sub ar t p)).isSome)] : Value) = v ∧ (IntsF F' a ((formL ar ps (sub ar t p)).getD (0, [])).2)) ∧ L = L')) {F : FH} {L : List HP}  {arv : Value} {ar : List Int} (har : IntsF F arv ar) {psv : Value} {ps : List PolyT} (hps : PolysF F psv ps)  {tv : Value} {t : List Int} (ht : IntsF F tv t) {p : Nat} (hpk : polysOk ar ps = true) (ho : TermW ar t) (hp : p < t.length) (hd : d = t.length - p) :
    Does prog 375 [.agg #[arv], psv, ii (0), tv, ii ((p : Int))] F (L) (fun v F' L' => (∃ (a : Value), (.tuple #[.agg #[ii (((formL ar ps (sub ar t p)).getD (0, [])).1), a], .bool ((formL ar ps (sub ar t p)).isSome)] : Value) = v ∧ (IntsF F' a ((formL ar ps (sub ar t p)).getD (0, [])).2)) ∧ L = L') := by
 refine qC func375 rfl rfl rfl ?_
 have hsl := sigOk_spec ho.sig
 have htl := ho.len
 have hpl := polysOk_len hpk
 have hlt0 := ho.lt hp
 have hge0 := ho.geD hp
 have hal := ho.args_le hp
 refine qc (qa (cX (qI [arv] rfl rfl ?_)))
 intro b1
 refine cX (qY [ii (0), sN] qX rfl ?_)
 intro b2
 refine qd (.bool (false)) rfl (qb (qc (qc (qa (qg (tv) rfl (qg (ii ((p : Int))) rfl (cX (qv p qf qy rfl rfl rfl ht.slv (by omega) (Nat.mul_one _) (cX (qh qQ rfl (ht.rd (by omega)) (cX (qK rfl rfl (qb ?_)))))))))))))
 refine qw (p := (t.getD p 0 : Int) < 0) rfl (fun h1 => ?_) (fun h1 => ?_)
 ·refine qc (qa (qg (tv) rfl (qg (ii ((p : Int))) rfl (cX (qv p qf qy rfl rfl rfl ht.slv (by omega) (Nat.mul_one _) (cX (qh qQ rfl (ht.rd (by omega)) (cX (qq (args := [ii (-1 - (((-1 - (t.getD p 0)).toNat : Nat) : Int))]) call387 (by rw [show -1 - (((-1 - (t.getD p 0)).toNat : Nat) : Int) = t.getD p 0 from by omega]; rfl) (varForm_spec (m := (-1 - (t.getD p 0)).toNat) (hm := (by first | assumption | rfl | omega | simp))) ?_)))))))))
  rintro _ F1 _ le1 ⟨x1, rfl, hr1, rfl⟩
  replace har := har.mono le1
  replace hps := hps.mono le1
  replace ht := ht.mono le1
  refine cX (qL [] _ [ii (0), x1] qE rfl rfl rfl (qz rfl (qz (qW (qM hr1)) qS)) rfl rfl rfl (qd (.bool (true)) rfl (qb (qp (qi (ql (L' := L) [.agg #[ii (0), x1], .bool (true)] (.tuple #[.agg #[ii (0), x1], .bool (true)]) (.cell rfl (jq [ii (0), x1] je qE rfl (Rd.ownN [] rfl rfl)) (.tmp rfl .nil)) rfl le1 rF (sD (sD sR)) ?_))))))
  have e8 : -1 - (((-1 - (t.getD p 0)).toNat : Nat) : Int) = t.getD p 0 := by omega
  have e9 : (formL ar ps (sub ar t p)) = some (varP (t.getD p 0)) := formL_subvar ho hp (by omega)
  rw [e9]
  exact ⟨⟨_, rfl, by have h9 := hr1; rw [e8] at h9; exact h9⟩, rfl⟩
 refine qx (qc (qa (qd (sN) rfl (qb (qc (qc (qa (cX (qr [arv] qZ qH rfl rfl (Rd.ownN [_] rfl rfl) (qg (tv) rfl (qg (ii ((p : Int))) rfl (cX (XOp.frzF <| qq (args := [.agg #[arv], tv, ii (p : Int)]) call336 rfl (argsAtW_spec (p := p) har ht (ho := (ho)) (hp := (hp))) ?_)))))))))))))
 rintro v1 _ _ _ ⟨rfl, hs1, rfl⟩
 refine ⟨_, _, rfl, fun F2 le2 hz1 => ?_⟩
 replace har := har.mono le2
 replace hps := hps.mono le2
 replace ht := ht.mono le2
 have hf1 : IntsF F2 v1 ((argsL ar t p)) := intsH.fz (xs := (argsL ar t p)) hz1.fz
 refine cX (qB runUnderlying359 rfl hf1.slv (qg (ii (0)) rfl (qb (qG (jd (α := Nat × Value × List PolyT × List Value × Nat × FH) (fun xQ => [(1, psv), (2, ii (0)), (3, tv), (4, ii ((p : Int))), (5, ptr b1 0), (10, ptr b2 0), (12, xQ.2.1), (30, v1), (31, ii (((((argsL ar t p)).length : Nat) : Int))), (32, ii (((xQ.1 : Nat) : Int)))]) (fun xQ => slH 128 2 xQ.2.1 xQ.2.2.2.2.1 xQ.2.2.2.1 :: cellsH b2 [ii (0), sN] 128 :: cellsH b1 [arv] 36 :: L) (fun xQ F' => xQ.2.2.2.2.2 = F' ∧ F2 ≤ xQ.2.2.2.2.2 ∧ (IsSl xQ.2.1) ∧ (PolysC xQ.2.2.2.2.2 xQ.2.2.2.1 xQ.2.2.1) ∧ (xQ.2.2.2.2.1 = xQ.2.2.1.length) ∧ (xQ.1 ≤ (argsL ar t p).length) ∧ (xQ.2.2.1 = (argVals ar ps t p).take xQ.1) ∧ (∀ i, i < xQ.1 → (formL ar ps (sub ar t ((argsL ar t p).getD i 0).toNat)).isSome = true)) (fun xQ => (argsL ar t p).length - xQ.1) (0, sN, [], [], 0, F2) ⟨rfl, rfl, rfl, rfl, rfl, rfl, rfl, rfl, rfl, rfl, ⟨⟩⟩ (Sub.trans (Sub.addNil 128 2 _ _) (sC (sC (sC sR)))) ⟨rfl, FLe.refl _, (⟨_, _, _, rfl⟩), (CO.nil), (rfl), (Nat.zero_le _), (by simp), (fun i hi => absurd hi (by omega))⟩ ?_)))))
 rintro ⟨k, av, asx, acs, an, G1⟩ rE _ _ ⟨rfl, leG, hav, hAC, han, hk, has, hall⟩
 show X _ _ _ _ (envs [(1, psv), (2, ii (0)), (3, tv), (4, ii ((p : Int))), (5, ptr b1 0), (10, ptr b2 0), (12, av), (30, v1), (31, ii (((((argsL ar t p)).length : Nat) : Int))), (32, ii ((k : Int)))] rE) _ (slH 128 2 av an acs :: cellsH b2 [ii (0), sN] 128 :: cellsH b1 [arv] 36 :: L)
 replace leG : F2 ≤ G1 := leG
 dsimp only at hav hAC han hk has hall
 have hai := fun h : k < (argsL ar t p).length => ho.args_in hp h
 have hasl : asx.length ≤ k := by rw [has, List.length_take]; omega
 have leG1 := leG
 replace har := har.mono leG1
 replace hps := hps.mono leG1
 replace ht := ht.mono leG1
 replace hf1 := hf1.mono leG1
 refine qc (qa (cX (qK rfl rfl (qb (qc ?_)))))
 refine qw (p := (k : Int) < ((((argsL ar t p)).length : Nat) : Int)) rfl (fun h2 => ?_) (fun h2 => ?_)
 ·refine qx (qc (qG (qc (qa (cX (qv k runUnderlying359 sizeOf3 rfl rfl rfl hf1.slv (by omega) (Nat.mul_one _) (cX (qh isAgg3 rfl (hf1.rd (by omega)) (qd (ii (((argsL ar t p)).getD k 0)) rfl (qb (qc (qa (cX (qr [arv] qZ qH rfl rfl (Rd.ownN [_, _] rfl rfl) (qg (psv) rfl (qg (tv) rfl (qg (ii (((argsL ar t p)).getD k 0)) rfl ?_)))))))))))))))))
  have hai9 := hai (by omega)
  have hee9 := ho.endN hp
  refine cX (qq (args := [.agg #[arv], psv, tv, ii (((((argsL ar t p)).getD k 0).toNat : Nat) : Int)]) call347 (by rw [show (((((argsL ar t p)).getD k 0).toNat : Nat) : Int) = ((argsL ar t p)).getD k 0 from by omega]; rfl) (ih (t.length - ((((argsL ar t p)).getD k 0).toNat)) (by omega) (p := (((argsL ar t p)).getD k 0).toNat) har hps ht (hpk := (hpk)) (ho := (ho)) (hp := (by omega)) (hd := (rfl))) ?_)
  rintro _ F3 _ le3 ⟨⟨x2, rfl, hr2⟩, rfl⟩
  replace hps := hps.mono le3
  replace ht := ht.mono le3
  replace hAC := hAC.mono le3
  show XL _ _ _ _ _ _ _ (slH 128 2 av an acs :: cellsH b2 [ii (0), sN] 128 :: cellsH b1 [arv] 36 :: L)
  refine qg (.tuple #[.agg #[ii (((formL ar ps (sub ar t ((((argsL ar t p)).getD k 0).toNat))).getD (0, [])).1), x2], .bool ((formL ar ps (sub ar t ((((argsL ar t p)).getD k 0).toNat))).isSome)]) rfl (cX (qO (.agg #[ii (((formL ar ps (sub ar t ((((argsL ar t p)).getD k 0).toNat))).getD (0, [])).1), x2]) rfl rfl (cX (qO (.bool ((formL ar ps (sub ar t ((((argsL ar t p)).getD k 0).toNat))).isSome)) rfl rfl (cX (qY [ii (0), sN] qX rfl ?_))))))
  intro b3
  refine cX (qL [] _ [ii (((formL ar ps (sub ar t ((((argsL ar t p)).getD k 0).toNat))).getD (0, [])).1), x2] qE rfl rfl rfl (qz rfl (qz (qW (qM hr2)) qS)) rfl rfl rfl (qd (.bool ((formL ar ps (sub ar t ((((argsL ar t p)).getD k 0).toNat))).isSome)) rfl (qb (qc (qc (qa (qg (.bool ((formL ar ps (sub ar t ((((argsL ar t p)).getD k 0).toNat))).isSome)) rfl (cX (jg rfl (qb ?_))))))))))
  refine jF (t := !((formL ar ps (sub ar t ((((argsL ar t p)).getD k 0).toNat))).isSome)) rfl (fun h3 => ?_) (fun h3 => ?_)
  ·have hs9 : (formL ar ps (sub ar t ((argsL ar t p).getD k 0).toNat)).isSome = false := Bool.not_inj (y := false) h3
   refine qc (qa (cX (jA [ii (0), sN] [ii (0), sN] [(0, 1), (1, 1)] [] qt qX rfl (.cons rfl qy (.cons rfl qs PlacesAre.nil)) rfl CellsAre.nil (cX (qL [_, _] _ [ii (0), sN] qE rfl rfl rfl (qz rfl (qz rfl qS)) rfl rfl rfl (qd (.bool (false)) rfl (qb (qp (qi (qA (qi (qi (qA (qi (ql (L' := L) [.agg #[ii (0), sN], .bool (false)] (.tuple #[.agg #[ii (0), sN], .bool (false)]) (.cell rfl (jq [ii (0), sN] je qE rfl (Rd.ownN [_, _] rfl rfl)) (.tmp rfl .nil)) rfl (qD (qD le2 leG1) le3) rF (sD (sD (sD (sD sR)))) ?_)))))))))))))))
   have hn9 : (formL ar ps (sub ar t ((argsL ar t p).getD k 0).toNat)) = none := by revert hs9; cases (formL ar ps (sub ar t ((argsL ar t p).getD k 0).toNat)) <;> simp
   have e9 : (formL ar ps (sub ar t p)) = none := by rw [formL_at ho hp (by omega)]; exact appO_none1 (j := k) (by rw [List.length_map]; omega) (by have h9 := argForms_get (ar := ar) (ps := ps) (t := t) (p := p) (i := k) (by omega); unfold argForms at h9; rw [h9]; exact hn9)
   rw [e9]
   exact ⟨⟨_, rfl, IntsF.nilV⟩, rfl⟩
  have hs9 : (formL ar ps (sub ar t ((argsL ar t p).getD k 0).toNat)).isSome = true := Bool.not_inj (y := true) h3
  refine qx (qa (qg (av) rfl (cX (qr [ii (((formL ar ps (sub ar t ((((argsL ar t p)).getD k 0).toNat))).getD (0, [])).1), x2] je qE rfl rfl (Rd.ownN [] rfl rfl) (cX (ja (s := 2) [ii (((formL ar ps (sub ar t ((((argsL ar t p)).getD k 0).toNat))).getD (0, [])).1), x2] [ii (0), sN] [(0, [ii (((formL ar ps (sub ar t ((((argsL ar t p)).getD k 0).toNat))).getD (0, [])).1), x2])] jh qE qX rfl (by decide) rfl (.cons rfl CellsAre.nil) rfl ?_))))))
  intro v2 hv1
  refine cX (XOp.append (m := 1) (bytes := 32) (cs := acs) [_, _] _ [ii (((formL ar ps (sub ar t ((((argsL ar t p)).getD k 0).toNat))).getD (0, [])).1), x2] jh typeInfo128 rfl rfl rfl rfl rfl rfl rfl (SlV.own [] rfl) rfl (Rd.lit [] rfl) (qz rfl (qz (qW (qM hr2)) qS)) (by (try simp only [List.length_append, List.length_nil, List.length_cons, List.length_singleton]); omega) (by (try simp only [List.length_append, List.length_nil, List.length_cons, List.length_singleton]); omega) ?_)
  intro v3 hs2 hn1 hm1
  have hc1 := PolysC.snoc hAC (y0 := ((formL ar ps (sub ar t ((((argsL ar t p)).getD k 0).toNat))).getD (0, [])).1) (y1 := ((formL ar ps (sub ar t ((((argsL ar t p)).getD k 0).toNat))).getD (0, [])).2) hr2
  refine qd (v3) rfl (qb (qa (cX (qN (((k + 1 : Nat) : Int)) rfl rfl (by omega) (by omega) (qg (ii (((k + 1 : Nat) : Int))) rfl (qb ?_))))))
  exact ⟨(k + 1, v3, asx ++ [(((formL ar ps (sub ar t ((((argsL ar t p)).getD k 0).toNat))).getD (0, [])).1, ((formL ar ps (sub ar t ((((argsL ar t p)).getD k 0).toNat))).getD (0, [])).2)], acs ++ [ii (((formL ar ps (sub ar t ((((argsL ar t p)).getD k 0).toNat))).getD (0, [])).1), x2], (an) + 1, F3), _, (qD leG1 le3), rF, ⟨rfl, rfl, rfl, rfl, rfl, rfl, rfl, rfl, rfl, rfl, ⟨⟩⟩, (sD (sD (sC (sC (sC sR))))), ⟨rfl, (qD leG1 le3), (hs2), (hc1), (by (try dsimp only); rw [List.length_append, List.length_singleton]; omega), (by (try dsimp only) <;> omega), (by (try dsimp only); rw [has, take_succ_getD (0, []) (by rw [argVals_len]; omega), argVals_get (by omega)]), (fun i hi => (Nat.lt_or_ge i k).elim (fun h => hall i h) (fun h => by obtain rfl : i = k := (by omega); exact hs9))⟩, (by omega)⟩
 refine jb (qu (qu (qJ (qc (qa ?_)))))
 have hasv : asx = argVals ar ps t p := by rw [has, List.take_of_length_le (by rw [argVals_len]; omega)]
 have hasl9 : asx.length = (argsL ar t p).length := by rw [hasv, argVals_len]
 have hpo9 := polysOk_at hpk (i := (t.getD p 0).toNat) (by omega)
 have har9 : (arity ar (t.getD p 0)).toNat = (argsL ar t p).length := by rw [argsL_len]
 have har8 : arity ar (t.getD p 0) = ar.getD (t.getD p 0).toNat 0 := by unfold arity; rw [if_neg (by omega)]
 refine qg (psv) rfl (qg (tv) rfl (qg (ii ((p : Int))) rfl (cX (qv p qf qy rfl rfl rfl ht.slv (by omega) (Nat.mul_one _) (cX (qh qQ rfl (ht.rd (by omega)) (qg (ii (0)) rfl (cX (qN (t.getD p 0) rfl rfl (by omega) (by omega) (cX (qv ((t.getD p 0).toNat) jh qE rfl rfl (by omega) hps.slv (by omega) rfl ?_)))))))))))
 obtain ⟨a1, ha1, hrg1, hq1⟩ := hps.rd (i := (t.getD p 0).toNat) (by omega)
 refine cX (qr [ii ((ps.getD ((t.getD p 0).toNat) (0, [])).1), a1] je qE rfl rfl (Rd.all (hrg1 _)) (qg (av) rfl (XL.freezeF [] _ _ rfl (fun F4 le4 hz2 => ?_))))
 replace hAC := hAC.mono le4
 replace ha1 := ha1.mono le4
 have hf2 : PolysF F4 av asx := CO.fz hAC (by first | rfl | omega | (rw [List.length_set]; omega) | (simp; done)) hz2.fz
 refine cX (qq (args := [.agg #[ii ((ps.getD ((t.getD p 0).toNat) (0, [])).1), a1], av]) call388 rfl (applied_spec ha1 hf2 (hC := (hpo9.1)) (hlf := (by omega)) (hl3 := (by omega)) (hF := (fun i => by rw [hasv]; exact argVals_in hpk ho hp i))) ?_)
 rintro _ F5 _ le5 ⟨x3, rfl, hr3, rfl⟩
 refine cX (qO (.agg #[ii (((appP (((ps.getD ((t.getD p 0).toNat) (0, [])).1), ((ps.getD ((t.getD p 0).toNat) (0, [])).2)) asx).getD (0, [])).1), x3]) rfl rfl (cX (qO (.bool ((appP (((ps.getD ((t.getD p 0).toNat) (0, [])).1), ((ps.getD ((t.getD p 0).toNat) (0, [])).2)) asx).isSome)) rfl rfl (cX (qL [] _ [ii (((appP (((ps.getD ((t.getD p 0).toNat) (0, [])).1), ((ps.getD ((t.getD p 0).toNat) (0, [])).2)) asx).getD (0, [])).1), x3] qE rfl rfl rfl (qz rfl (qz (qW (qM hr3)) qS)) rfl rfl rfl (qd (.bool ((appP (((ps.getD ((t.getD p 0).toNat) (0, [])).1), ((ps.getD ((t.getD p 0).toNat) (0, [])).2)) asx).isSome)) rfl (qb (qp (ql (L' := L) [.agg #[ii (((appP (((ps.getD ((t.getD p 0).toNat) (0, [])).1), ((ps.getD ((t.getD p 0).toNat) (0, [])).2)) asx).getD (0, [])).1), x3], .bool ((appP (((ps.getD ((t.getD p 0).toNat) (0, [])).1), ((ps.getD ((t.getD p 0).toNat) (0, [])).2)) asx).isSome)] (.tuple #[.agg #[ii (((appP (((ps.getD ((t.getD p 0).toNat) (0, [])).1), ((ps.getD ((t.getD p 0).toNat) (0, [])).2)) asx).getD (0, [])).1), x3], .bool ((appP (((ps.getD ((t.getD p 0).toNat) (0, [])).1), ((ps.getD ((t.getD p 0).toNat) (0, [])).2)) asx).isSome)]) (.cell rfl (jq [ii (((appP (((ps.getD ((t.getD p 0).toNat) (0, [])).1), ((ps.getD ((t.getD p 0).toNat) (0, [])).2)) asx).getD (0, [])).1), x3] je qE rfl (Rd.ownN [] rfl rfl)) (.tmp rfl .nil)) rfl (qD (qD (qD le2 leG1) le4) le5) rF (sD (sD sR)) ?_)))))))))
 have e9 : (formL ar ps (sub ar t p)) = appP (ps.getD (t.getD p 0).toNat (0, [])) asx := by rw [formL_at ho hp (by omega), hasv]; exact appO_all (fun i hi => by have h8 : i < (argsL ar t p).length := (by simpa using hi); have h9 := argForms_get (ar := ar) (ps := ps) (t := t) (p := p) h8; unfold argForms at h9; rw [h9]; exact hall i (by omega))
 rw [e9]
 exact ⟨⟨_, rfl, hr3⟩, rfl⟩

/- impl.formAt -/
set_option maxRecDepth 20000 in
theorem formAt_step {d : Nat} (ih : ∀ m : Nat, m < d → ∀ {F : FH} {L : List HP}  {arv : Value} {ar : List Int} (har : IntsF F arv ar) {psv : Value} {ps : List PolyT} (hps : PolysF F psv ps) {tv : Value} {t : List Int} (ht : IntsF F tv t) {p : Nat} (hpk : polysOk ar ps = true) (ho : TermW ar t) (hp : p < t.length) (hd : m = t.length - p), Does prog 347 [.agg #[arv], psv, tv, ii ((p : Int))] F L (fun v F' L' => (∃ (a : Value), (.tuple #[.agg #[ii (((formL ar ps (sub ar t p)).getD (0, [])).1), a], .bool ((formL ar ps (sub ar t p)).isSome)] : Value) = v ∧ (IntsF F' a ((formL ar ps (sub ar t p)).getD (0, [])).2)) ∧ L = L')) {F : FH} {L : List HP}  {arv : Value} {ar : List Int} (har : IntsF F arv ar) {psv : Value} {ps : List PolyT} (hps : PolysF F psv ps) {tv : Value} {t : List Int} (ht : IntsF F tv t) {p : Nat} (hpk : polysOk ar ps = true) (ho : TermW ar t) (hp : p < t.length) (hd : d = t.length - p) :
    Does prog 347 [.agg #[arv], psv, tv, ii ((p : Int))] F (L) (fun v F' L' => (∃ (a : Value), (.tuple #[.agg #[ii (((formL ar ps (sub ar t p)).getD (0, [])).1), a], .bool ((formL ar ps (sub ar t p)).isSome)] : Value) = v ∧ (IntsF F' a ((formL ar ps (sub ar t p)).getD (0, [])).2)) ∧ L = L') := by
 refine qC func347 rfl rfl rfl (qc (qa (cX (qI [arv] rfl rfl ?_))))
 intro b1
 refine cX (qY [ii (0), sN] qX rfl ?_)
 intro b2
 refine qd (.bool (false)) rfl (qb (qc (qa (cX (qr [arv] qZ qH rfl rfl (Rd.ownN [_] rfl rfl) (qg (psv) rfl (qg (tv) rfl (qg (ii ((p : Int))) rfl (cX (qq (args := [.agg #[arv], psv, ii (0), tv, ii (p : Int)]) call375 rfl (markedForm_step ih (p := p) har hps ht (hpk := (hpk)) (ho := (ho)) (hp := (hp)) (hd := (hd))) ?_))))))))))
 rintro _ F1 _ le1 ⟨⟨x1, rfl, hr1⟩, rfl⟩
 show XL _ _ _ _ _ _ _ (cellsH b2 [ii (0), sN] 128 :: cellsH b1 [arv] 36 :: L)
 refine cX (qO (.agg #[ii (((formL ar ps (sub ar t p)).getD (0, [])).1), x1]) rfl rfl (cX (qO (.bool ((formL ar ps (sub ar t p)).isSome)) rfl rfl (cX (qL [] _ [ii (((formL ar ps (sub ar t p)).getD (0, [])).1), x1] qE rfl rfl rfl (qz rfl (qz (qW (qM hr1)) qS)) rfl rfl rfl (qd (.bool ((formL ar ps (sub ar t p)).isSome)) rfl (qb (qp (ql (L' := L) [.agg #[ii (((formL ar ps (sub ar t p)).getD (0, [])).1), x1], .bool ((formL ar ps (sub ar t p)).isSome)] (.tuple #[.agg #[ii (((formL ar ps (sub ar t p)).getD (0, [])).1), x1], .bool ((formL ar ps (sub ar t p)).isSome)]) (.cell rfl (jq [ii (((formL ar ps (sub ar t p)).getD (0, [])).1), x1] je qE rfl (Rd.ownN [] rfl rfl)) (.tmp rfl .nil)) rfl le1 rF (sD (sD sR)) ?_)))))))))
 exact ⟨⟨_, rfl, hr1⟩, rfl⟩

theorem formAt (d : Nat) : ∀ {F : FH} {L : List HP}  {arv : Value} {ar : List Int} (har : IntsF F arv ar) {psv : Value} {ps : List PolyT} (hps : PolysF F psv ps) {tv : Value} {t : List Int} (ht : IntsF F tv t) {p : Nat} (hpk : polysOk ar ps = true) (ho : TermW ar t) (hp : p < t.length) (hd : d = t.length - p), Does prog 347 [.agg #[arv], psv, tv, ii ((p : Int))] F L (fun v F' L' => (∃ (a : Value), (.tuple #[.agg #[ii (((formL ar ps (sub ar t p)).getD (0, [])).1), a], .bool ((formL ar ps (sub ar t p)).isSome)] : Value) = v ∧ (IntsF F' a ((formL ar ps (sub ar t p)).getD (0, [])).2)) ∧ L = L') := by
  induction d using Nat.strongRecOn with
  | _ d ih =>
    intros
    exact formAt_step ih (by assumption) (by assumption) (by assumption) (by assumption) (by assumption) (by assumption) (by assumption)

/- impl.FormOf -/
set_option maxRecDepth 20000 in
theorem FormOf_spec {F : FH} {L : List HP} {arv : Value} {ar : List Int} (har : IntsF F arv ar) {psv : Value} {ps : List PolyT} (hps : PolysF F psv ps) {tv : Value} {t : List Int} (ht : IntsF F tv t) (hlp : ps.length ≤ 4000000) (hpb : ∀ i, i < ps.length → (ps.getD i (0, [])).2.length ≤ 4000000) (hla : ar.length ≤ 4000000) (hlt : t.length ≤ 4000000) :
    Does prog 276 [.agg #[arv], psv, tv] F (L) (fun v F' L' => ∃ (a : Value), (.tuple #[.agg #[ii (((formO ar ps t).getD (0, [])).1), a], .bool ((formO ar ps t).isSome)] : Value) = v ∧ (IntsF F' a ((formO ar ps t).getD (0, [])).2) ∧ L = L') := by
 refine qC func276 rfl rfl rfl (qc (qa (cX (qI [arv] rfl rfl ?_))))
 intro b1
 refine cX (qY [ii (0), sN] qX rfl ?_)
 intro b2
 refine qd (.bool (false)) rfl (qb (qc (qc (qa (cX (qr [arv] qZ qH rfl rfl (Rd.ownN [_] rfl rfl) (qg (psv) rfl (cX (qq (args := [.agg #[arv], psv]) call343 rfl (PolysOk_spec har hps (hlp := (by first | assumption | rfl | omega | simp)) (hpb := (by first | assumption | rfl | omega | simp)) (hla := (by first | assumption | rfl | omega | simp))) ?_)))))))))
 rintro _ _ _ _ ⟨rfl, rfl, rfl⟩
 refine cX (jg rfl (qg (.bool (!(polysOk ar ps))) rfl ?_))
 by_cases h1 : (!(polysOk ar ps)) = true
 ·have hpk : polysOk ar ps = false := Bool.not_inj (y := false) h1
  refine qm (t := 12) rfl (vB h1) (qm (t := 12) rfl (vB h1) (qm (t := 12) rfl (vB h1) (qm (t := 12) rfl (vB h1) (cX (qT (.bool (true)) (vB h1) rfl (qb (jv rfl (qc (qa (cX (jA [ii (0), sN] [ii (0), sN] [(0, 1), (1, 1)] [] qt qX rfl (.cons rfl qy (.cons rfl qs PlacesAre.nil)) rfl CellsAre.nil (cX (qL [] _ [ii (0), sN] qE rfl rfl rfl (qz rfl (qz rfl qS)) rfl rfl rfl ?_)))))))))))))
  refine qd (.bool (false)) rfl (qb (qp (qi (ql (L' := L) [.agg #[ii (0), sN], .bool (false)] (.tuple #[.agg #[ii (0), sN], .bool (false)]) (.cell rfl (jq [ii (0), sN] je qE rfl (Rd.ownN [] rfl rfl)) (.tmp rfl .nil)) rfl rF rF (sD (sD sR)) ?_))))
  rw [formO_no (fun h9 => by have h8 := h9.1; have h7 := h9.2; simp_all)]
  exact ⟨_, rfl, IntsF.nilV, rfl⟩
 rw [Bool.not_eq_true] at h1
 have hpk : polysOk ar ps = true := Bool.not_inj (y := true) h1
 refine qn (t := 12) rfl (vB h1) (qr [arv] qZ qH rfl rfl (Rd.ownN [_] rfl rfl) (qn (t := 12) rfl (vB h1) (qo (tv) rfl (qn (t := 12) rfl (vB h1) (qq (args := [.agg #[arv], tv]) call112 rfl (TermOk_spec har ht) ?_)))))
 rintro _ _ _ _ ⟨rfl, rfl, rfl⟩
 refine qn (t := 12) rfl (vB h1) (jg rfl (cX (qP (.bool (!(termOk ar t))) (vB h1) rfl (qb ?_))))
 refine jF (t := !(termOk ar t)) rfl (fun h2 => ?_) (fun h2 => ?_)
 ·have hot : termOk ar t = false := Bool.not_inj (y := false) h2
  refine qc (qa (cX (jA [ii (0), sN] [ii (0), sN] [(0, 1), (1, 1)] [] qt qX rfl (.cons rfl qy (.cons rfl qs PlacesAre.nil)) rfl CellsAre.nil (cX (qL [] _ [ii (0), sN] qE rfl rfl rfl (qz rfl (qz rfl qS)) rfl rfl rfl (qd (.bool (false)) rfl (qb (qp (qi (ql (L' := L) [.agg #[ii (0), sN], .bool (false)] (.tuple #[.agg #[ii (0), sN], .bool (false)]) (.cell rfl (jq [ii (0), sN] je qE rfl (Rd.ownN [] rfl rfl)) (.tmp rfl .nil)) rfl rF rF (sD (sD sR)) ?_))))))))))
  rw [formO_no (fun h9 => by have h8 := h9.1; have h7 := h9.2; simp_all)]
  exact ⟨_, rfl, IntsF.nilV, rfl⟩
 have hot : termOk ar t = true := Bool.not_inj (y := true) h2
 have htl := termOk_len hot
 have hsub : sub ar t 0 = t := sub_root hot
 refine qx (qc (qa (cX (qr [arv] qZ qH rfl rfl (Rd.ownN [_] rfl rfl) (qg (psv) rfl (qg (tv) rfl (cX (qq (args := [.agg #[arv], psv, tv, ii ((0 : Nat) : Int)]) call347 rfl (formAt (t.length - 0) (p := 0) har hps ht (hpk := (hpk)) (ho := (termW_of hot)) (hp := (by omega)) (hd := (rfl))) ?_))))))))
 rintro _ F1 _ le1 ⟨⟨x1, rfl, hr1⟩, rfl⟩
 show XL _ _ _ _ _ _ _ (cellsH b2 [ii (0), sN] 128 :: cellsH b1 [arv] 36 :: L)
 refine cX (qO (.agg #[ii (((formL ar ps (sub ar t 0)).getD (0, [])).1), x1]) rfl rfl (cX (qO (.bool ((formL ar ps (sub ar t 0)).isSome)) rfl rfl (cX (qL [] _ [ii (((formL ar ps (sub ar t 0)).getD (0, [])).1), x1] qE rfl rfl rfl (qz rfl (qz (qW (qM hr1)) qS)) rfl rfl rfl (qd (.bool ((formL ar ps (sub ar t 0)).isSome)) rfl (qb (qp (ql (L' := L) [.agg #[ii (((formL ar ps (sub ar t 0)).getD (0, [])).1), x1], .bool ((formL ar ps (sub ar t 0)).isSome)] (.tuple #[.agg #[ii (((formL ar ps (sub ar t 0)).getD (0, [])).1), x1], .bool ((formL ar ps (sub ar t 0)).isSome)]) (.cell rfl (jq [ii (((formL ar ps (sub ar t 0)).getD (0, [])).1), x1] je qE rfl (Rd.ownN [] rfl rfl)) (.tmp rfl .nil)) rfl le1 rF (sD (sD sR)) ?_)))))))))
 have e9 : formL ar ps (sub ar t 0) = formL ar ps t := by rw [hsub]
 rw [formO_yes hpk hot, ← e9]
 exact ⟨_, rfl, hr1, rfl⟩

/- impl.ValueAt -/
set_option maxRecDepth 20000 in
theorem ValueAt_spec {F : FH} {L : List HP} {arv : Value} {ar : List Int} (har : IntsF F arv ar) {psv : Value} {ps : List PolyT} (hps : PolysF F psv ps) {tv : Value} {t : List Int} (ht : IntsF F tv t)  (hlp : ps.length ≤ 4000000) (hpb : ∀ i, i < ps.length → (ps.getD i (0, [])).2.length ≤ 4000000) (hla : ar.length ≤ 4000000) (hlt : t.length ≤ 4000000) :
    Does prog 175 [.agg #[arv], psv, tv, sN] F (L) (fun v F' L' => (.tuple #[ii ((valueL ar ps t).getD 0), .bool ((valueL ar ps t).isSome)] : Value) = v ∧ L = L') := by
 refine qC func175 rfl rfl rfl (qc (qa (cX (qI [arv] rfl rfl ?_))))
 intro b1
 refine qd (ii (0)) rfl (qd (.bool (false)) rfl (qb (qc (qc (qa (qg (sN) rfl (cX (qB qf rfl SlV.nil (cX (jn rfl rfl (qb ?_)))))))))))
 refine qw (p := (((0 : Nat) : Int) : Int) > 24) rfl (fun h1 => ?_) (fun h1 => ?_)
 ·exact absurd h1 (by omega)
 refine qx (qc (qc (qa (qg (sN) rfl (cX (qB qf rfl SlV.nil (qg (ii (0)) rfl (qb (qG (jd (α := Unit) (fun xQ => [(1, psv), (2, tv), (3, sN), (4, ptr b1 0), (20, sN), (21, ii (((0 : Nat) : Int))), (22, ii (0))]) (fun xQ => cellsH b1 [arv] 36 :: L) (fun xQ F' => F = F' ∧ (True)) (fun xQ => 0) () ⟨rfl, rfl, rfl, rfl, rfl, rfl, rfl, ⟨⟩⟩ (sC sR) ⟨rfl, (trivial)⟩ ?_))))))))))
 rintro ⟨⟩ rE _ _ ⟨rfl, htr⟩
 show X _ _ _ _ (envs [(1, psv), (2, tv), (3, sN), (4, ptr b1 0), (20, sN), (21, ii (((0 : Nat) : Int))), (22, ii (0))] rE) _ (cellsH b1 [arv] 36 :: L)
 refine qc (qa (cX (qK rfl rfl (qb (qc ?_)))))
 refine qw (p := (0 : Int) < ((0 : Nat) : Int)) rfl (fun h2 => ?_) (fun h2 => ?_)
 ·exact absurd h2 (by omega)
 refine jb (qu (qu (qJ (qc (qa (cX (qr [arv] qZ qH rfl rfl (Rd.ownN [] rfl rfl) (qg (psv) rfl (qg (tv) rfl (cX (qq (args := [.agg #[arv], psv, tv]) call276 rfl (FormOf_spec har hps ht (hlp := (by first | assumption | rfl | omega | simp)) (hpb := (by first | assumption | rfl | omega | simp)) (hla := (by first | assumption | rfl | omega | simp)) (hlt := (by first | assumption | rfl | omega | simp))) ?_)))))))))))
 rintro _ F1 _ le1 ⟨x1, rfl, hr1, rfl⟩
 refine qg (.tuple #[.agg #[ii (((formO ar ps t).getD (0, [])).1), x1], .bool ((formO ar ps t).isSome)]) rfl (cX (qO (.agg #[ii (((formO ar ps t).getD (0, [])).1), x1]) rfl rfl (cX (qO (.bool ((formO ar ps t).isSome)) rfl rfl (cX (qY [ii (0), sN] qX rfl ?_))))))
 intro b2
 refine cX (qL [] _ [ii (((formO ar ps t).getD (0, [])).1), x1] qE rfl rfl rfl (qz rfl (qz (qW (qM hr1)) qS)) rfl rfl rfl (qd (.bool ((formO ar ps t).isSome)) rfl (qb (qc (qc (qa (qg (.bool ((formO ar ps t).isSome)) rfl (cX (jg rfl (qb ?_))))))))))
 refine jF (t := !((formO ar ps t).isSome)) rfl (fun h3 => ?_) (fun h3 => ?_)
 ·have hfo : (formO ar ps t).isSome = false := Bool.not_inj (y := false) h3
  have hfn : (formO ar ps t) = none := by revert hfo; cases (formO ar ps t) <;> simp
  refine qc (qa (qd (ii (0)) rfl (qd (.bool (false)) rfl (qb (qp (qi (ql (L' := L) [ii (0), .bool (false)] (.tuple #[ii (0), .bool (false)]) (.tmp rfl (.tmp rfl .nil)) rfl le1 rF (sD (sD sR)) ?_)))))))
  rw [valueL_eq, hfn]
  exact ⟨rfl, rfl⟩
 have hfo : (formO ar ps t).isSome = true := Bool.not_inj (y := true) h3
 obtain ⟨x9, hx9⟩ := Option.isSome_iff_exists.1 hfo
 have hin9 := formO_in hx9
 have hxc := hin9.1
 have hxe : ((formO ar ps t).getD (0, [])) = x9 := by rw [hx9]; rfl
 have hxe1 : ((formO ar ps t).getD (0, [])).1 = x9.1 := by rw [hxe]
 refine qx (qc (qa (cX (qj (0) qt rfl qy (by decide) rfl rfl (cX (qh qQ rfl (Rd.own [] rfl rfl) (qd (ii (((formO ar ps t).getD (0, [])).1)) rfl (qb (qc (qc (qa (qg (sN) rfl (cX (qB qf rfl SlV.nil (qg (ii (0)) rfl (qb (qG (jd (α := Unit) (fun xQ => [(12, ptr b2 0), (14, ii (((formO ar ps t).getD (0, [])).1)), (44, sN), (45, ii (((0 : Nat) : Int))), (46, ii (0))]) (fun xQ => cellsH b2 [ii (((formO ar ps t).getD (0, [])).1), x1] 128 :: cellsH b1 [arv] 36 :: L) (fun xQ F' => F1 = F' ∧ (True)) (fun xQ => 0) () ⟨rfl, rfl, rfl, rfl, rfl, ⟨⟩⟩ (sC (sC sR)) ⟨rfl, (trivial)⟩ ?_))))))))))))))))))
 rintro ⟨⟩ rE _ _ ⟨rfl, htr⟩
 show X _ _ _ _ (envs [(12, ptr b2 0), (14, ii (((formO ar ps t).getD (0, [])).1)), (44, sN), (45, ii (((0 : Nat) : Int))), (46, ii (0))] rE) _ (cellsH b2 [ii (((formO ar ps t).getD (0, [])).1), x1] 128 :: cellsH b1 [arv] 36 :: L)
 refine qc (qa (cX (qK rfl rfl (qb (qc (X.condF (vF h2) (jb (qu (qu (qJ (qc (qc (qa (qg (ii (((formO ar ps t).getD (0, [])).1)) rfl (cX (jn rfl rfl (qb ?_)))))))))))))))))
 refine qw (p := (((formO ar ps t).getD (0, [])).1 : Int) > 1000000000000) rfl (fun h4 => ?_) (fun h4 => ?_)
 ·exact absurd h4 (by omega)
 refine qx (qc (qa (qg (ii (((formO ar ps t).getD (0, [])).1)) rfl (qd (ii (((formO ar ps t).getD (0, [])).1)) rfl (qd (.bool (true)) rfl (qb (qp (ql (L' := L) [ii (((formO ar ps t).getD (0, [])).1), .bool (true)] (.tuple #[ii (((formO ar ps t).getD (0, [])).1), .bool (true)]) (.tmp rfl (.tmp rfl .nil)) rfl le1 rF (sD (sD sR)) ?_))))))))
 rw [valueL_eq, hx9]
 exact ⟨rfl, rfl⟩

/- impl.atMost -/
theorem atMost_spec {F : FH} {L : List HP} {ac : Int} {afv : Value} {af : List Int} (haf : IntsF F afv af) {bc : Int} {bfv : Value} {bf : List Int} (hbf : IntsF F bfv bf) (hla : af.length ≤ 4000000) (hlb : bf.length ≤ 4000000) :
    Does prog 374 [.agg #[ii (ac), afv], .agg #[ii (bc), bfv]] F (L) (fun v F' L' => (.tuple #[.bool ((mostP (ac, af) (bc, bf) && decide (ac ≤ bc))), .bool (lessP (ac, af) (bc, bf))] : Value) = v ∧ F = F' ∧ L = L') := by
 refine qC func374 rfl rfl rfl (qc (qa (cX (qI [ii (ac), afv] rfl rfl ?_))))
 intro b1
 refine cX (qI [ii (bc), bfv] rfl rfl ?_)
 intro b2
 refine qd (.bool (false)) rfl (qd (.bool (false)) rfl (qb (qc (qc (qa (cX (qj (1) qt rfl qs (by decide) rfl rfl (cX (qh qF rfl (Rd.own [_] rfl rfl) (cX (qB qf rfl haf.slv (qg (ii (0)) rfl (qb (qG (jd (α := Nat) (fun k => [(2, ptr b1 0), (3, ptr b2 0), (9, afv), (10, ii ((af.length : Int))), (11, ii ((k : Int)))]) (fun k => cellsH b2 [ii (bc), bfv] 128 :: cellsH b1 [ii (ac), afv] 128 :: L) (fun k F' => F = F' ∧ (k ≤ af.length) ∧ (∀ i, i < k → af.getD i 0 ≤ bf.getD i 0)) (fun k => af.length - k) 0 ⟨rfl, rfl, rfl, rfl, rfl, ⟨⟩⟩ (sC (sC sR)) ⟨rfl, (by (try dsimp only) <;> omega), (fun i hi => absurd hi (by omega))⟩ ?_)))))))))))))))
 rintro k rE _ _ ⟨rfl, hk, hall⟩
 show X _ _ _ _ (envs [(2, ptr b1 0), (3, ptr b2 0), (9, afv), (10, ii ((af.length : Int))), (11, ii ((k : Int)))] rE) _ (cellsH b2 [ii (bc), bfv] 128 :: cellsH b1 [ii (ac), afv] 128 :: L)
 refine qc (qa (cX (qK rfl rfl (qb (qc ?_)))))
 refine qw (p := (k : Int) < (af.length : Int)) rfl (fun h1 => ?_) (fun h1 => ?_)
 ·refine qx (qc (qG (qc (qa (qg (ii ((k : Int))) rfl (cX (qv k qf qy rfl rfl rfl haf.slv (by omega) (Nat.mul_one _) (cX (qh qQ rfl (haf.rd (by omega)) (qd (ii ((k : Int))) rfl (qd (ii (af.getD k 0)) rfl (qb (qc (qa (qg (ii (af.getD k 0)) rfl (cX (qr [ii (bc), bfv] je qE rfl rfl (Rd.ownN [] rfl rfl) (qg (ii ((k : Int))) rfl ?_))))))))))))))))))
  refine cX (qq (args := [.agg #[ii (bc), bfv], ii (k : Int)]) call277 rfl (coef_spec (i := k) hbf (hlf := (by first | assumption | rfl | omega | simp))) ?_)
  rintro _ _ _ _ ⟨rfl, rfl, rfl⟩
  refine cX (jn rfl rfl (qb ?_))
  refine qw (p := (af.getD k 0 : Int) > bf.getD k 0) rfl (fun h2 => ?_) (fun h2 => ?_)
  ·refine qc (qa (qd (.bool (false)) rfl (qd (.bool (false)) rfl (qb (qp (qA (qi (qi (qA (qi (ql (L' := L) [.bool (false), .bool (false)] (.tuple #[.bool (false), .bool (false)]) (.tmp rfl (.tmp rfl .nil)) rfl rF rF (sD (sD sR)) ?_)))))))))))
   refine ⟨?_, rfl, rfl⟩
   have e9 : mostP (ac, af) (bc, bf) = false := mostP_no (i := k) (by dsimp only; omega) (by dsimp only; omega)
   unfold lessP
   rw [e9]; rfl
  refine qx (qa (cX (qN (((k + 1 : Nat) : Int)) rfl rfl (by omega) (by omega) (qg (ii (((k + 1 : Nat) : Int))) rfl (qb ?_)))))
  exact ⟨k + 1, _, FLe.refl _, rF, ⟨rfl, rfl, rfl, rfl, rfl, ⟨⟩⟩, (sC (sC sR)), ⟨rfl, (by (try dsimp only) <;> omega), (fun i hi => (Nat.lt_or_ge i k).elim (fun h => hall i h) (fun h => by obtain rfl : i = k := (by omega); omega))⟩, (by omega)⟩
 refine jb (qu (qu (qJ (qc ?_))))
 refine jB [cellsH b2 [ii (bc), bfv] 128, cellsH b1 [ii (ac), afv] 128] L 11 [] [[], [0], [], [2], [1, 3], [], [5], [], [7], [6, 8], [4]] (phiL [qe (ptr b1 0), qe (ii (ac)), qe (ptr b2 0), qe (ii (bc)), qe (.bool (decide ((ac : Int) ≤ bc)) : Value), qe (ptr b1 0), qe (ii (ac)), qe (ptr b2 0), qe (ii (bc)), qe (.bool (decide ((ac : Int) < bc)) : Value), qe (.bool (decide ((ac : Int) ≤ bc)) : Value)]) (ownL []) mixed rfl rfl (by kernel_rfl) ?_ ?_
 ·refine pD (fun W R z9 => ?_) ?_
  ·refine qk (qj (0) qt rfl qy (by decide) rfl rfl ?_)
   exact ⟨rfl, rfl, rfl⟩
  refine pD (fun W R z9 => ?_) ?_
  ·rw [eS (l := [(0, _)]) ⟨z9 0 rfl, ⟨⟩⟩]
   refine qk (qh qQ rfl (Rd.own [_] rfl rfl) ?_)
   exact ⟨rfl, rfl, rfl⟩
  refine pD (fun W R z9 => ?_) ?_
  ·refine qk (qj (0) qt rfl qy (by decide) rfl rfl ?_)
   exact ⟨rfl, rfl, rfl⟩
  refine pD (fun W R z9 => ?_) ?_
  ·rw [eS (l := [(2, _)]) ⟨z9 2 rfl, ⟨⟩⟩]
   refine qk (qh qQ rfl (Rd.own [] rfl rfl) ?_)
   exact ⟨rfl, rfl, rfl⟩
  refine pD (fun W R z9 => ?_) ?_
  ·rw [eS (l := [(1, _), (3, _)]) ⟨z9 1 rfl, z9 3 rfl, ⟨⟩⟩]
   refine qk (XOp.leq rfl rfl ?_)
   exact ⟨rfl, rfl, rfl⟩
  refine pD (fun W R z9 => ?_) ?_
  ·refine qk (qj (0) qt rfl qy (by decide) rfl rfl ?_)
   exact ⟨rfl, rfl, rfl⟩
  refine pD (fun W R z9 => ?_) ?_
  ·rw [eS (l := [(5, _)]) ⟨z9 5 rfl, ⟨⟩⟩]
   refine qk (qh qQ rfl (Rd.own [_] rfl rfl) ?_)
   exact ⟨rfl, rfl, rfl⟩
  refine pD (fun W R z9 => ?_) ?_
  ·refine qk (qj (0) qt rfl qy (by decide) rfl rfl ?_)
   exact ⟨rfl, rfl, rfl⟩
  refine pD (fun W R z9 => ?_) ?_
  ·rw [eS (l := [(7, _)]) ⟨z9 7 rfl, ⟨⟩⟩]
   refine qk (qh qQ rfl (Rd.own [] rfl rfl) ?_)
   exact ⟨rfl, rfl, rfl⟩
  refine pD (fun W R z9 => ?_) ?_
  ·rw [eS (l := [(6, _), (8, _)]) ⟨z9 6 rfl, z9 8 rfl, ⟨⟩⟩]
   refine qk (qK rfl rfl ?_)
   exact ⟨rfl, rfl, rfl⟩
  refine pD (fun W R z9 => ?_) ?_
  ·rw [eS (l := [(4, _)]) ⟨z9 4 rfl, ⟨⟩⟩]
   refine qk (XOp.assign (.bool (decide ((ac : Int) ≤ bc))) rfl ?_)
   exact ⟨rfl, rfl, rfl⟩
  exact stepsP.nil
 intro W hphi
 rw [eS (l := [(9, _), (10, _)]) ⟨(hphi 9 (by decide)), (hphi 10 (by decide)), ⟨⟩⟩]
 show XL _ _ _ _ _ _ _ (cellsH b2 [ii (bc), bfv] 128 :: cellsH b1 [ii (ac), afv] 128 :: L)
 refine qd (.bool (decide ((ac : Int) < bc))) rfl (qb (qp (ql (L' := L) [.bool (decide ((ac : Int) ≤ bc)), .bool (decide ((ac : Int) < bc))] (.tuple #[.bool (decide ((ac : Int) ≤ bc)), .bool (decide ((ac : Int) < bc))]) (.tmp rfl (.tmp rfl .nil)) rfl rF rF (sD (sD sR)) ?_)))
 refine ⟨?_, rfl, rfl⟩
 have e9 : mostP (ac, af) (bc, bf) = true := mostP_yes (fun i hi => hall i (by dsimp only at hi; omega))
 unfold lessP
 rw [e9]; rfl

/- impl.compareForms -/
set_option maxRecDepth 20000 in
theorem compareForms_spec {F : FH} {L : List HP} {arv : Value} {ar : List Int} (har : IntsF F arv ar) {psv : Value} {ps : List PolyT} (hps : PolysF F psv ps) {sv : Value} {s : List Int} (hs : IntsF F sv s) {tv : Value} {t : List Int} (ht : IntsF F tv t) (hpk : polysOk ar ps = true) (hos : termOk ar s = true) (hot : termOk ar t = true) :
    Does prog 346 [.agg #[arv], psv, sv, tv] F (L) (fun v F' L' => (.tuple #[.bool (mostO (formL ar ps s) (formL ar ps t)), .bool (lessO (formL ar ps s) (formL ar ps t))] : Value) = v ∧ L = L') := by
 refine qC func346 rfl rfl rfl ?_
 have hsl := termOk_len hos
 have htl := termOk_len hot
 have hsubs : sub ar s 0 = s := sub_root hos
 have hsubt : sub ar t 0 = t := sub_root hot
 refine qc (qa (cX (qI [arv] rfl rfl ?_)))
 intro b1
 refine qd (.bool (false)) rfl (qd (.bool (false)) rfl (qb (qc (qa (cX (qr [arv] qZ qH rfl rfl (Rd.ownN [] rfl rfl) (qg (psv) rfl (qg (sv) rfl (cX (qq (args := [.agg #[arv], psv, sv, ii ((0 : Nat) : Int)]) call347 rfl (formAt (s.length - 0) (p := 0) har hps hs (hpk := (hpk)) (ho := (termW_of (by assumption))) (hp := (by omega)) (hd := (rfl))) ?_))))))))))
 rintro _ F1 _ le1 ⟨⟨x1, rfl, hr1⟩, rfl⟩
 replace har := har.mono le1
 replace hps := hps.mono le1
 replace ht := ht.mono le1
 show XL _ _ _ _ _ _ _ (cellsH b1 [arv] 36 :: L)
 refine qg (.tuple #[.agg #[ii (((formL ar ps (sub ar s 0)).getD (0, [])).1), x1], .bool ((formL ar ps (sub ar s 0)).isSome)]) rfl (cX (qO (.agg #[ii (((formL ar ps (sub ar s 0)).getD (0, [])).1), x1]) rfl rfl (cX (qO (.bool ((formL ar ps (sub ar s 0)).isSome)) rfl rfl (cX (qY [ii (0), sN] qX rfl ?_))))))
 intro b2
 refine cX (qL [] _ [ii (((formL ar ps (sub ar s 0)).getD (0, [])).1), x1] qE rfl rfl rfl (qz rfl (qz (qW (qM hr1)) qS)) rfl rfl rfl (qd (.bool ((formL ar ps (sub ar s 0)).isSome)) rfl (qb (qc (qa (cX (qr [arv] qZ qH rfl rfl (Rd.ownN [_] rfl rfl) (qg (psv) rfl (qg (tv) rfl (cX (qq (args := [.agg #[arv], psv, tv, ii ((0 : Nat) : Int)]) call347 rfl (formAt (t.length - 0) (p := 0) har hps ht (hpk := (hpk)) (ho := (termW_of (by assumption))) (hp := (by omega)) (hd := (rfl))) ?_)))))))))))
 rintro _ F2 _ le2 ⟨⟨x2, rfl, hr2⟩, rfl⟩
 replace hr1 := hr1.mono le2
 show XL _ _ _ _ _ _ _ (cellsH b2 [ii (((formL ar ps (sub ar s 0)).getD (0, [])).1), x1] 128 :: cellsH b1 [arv] 36 :: L)
 refine qg (.tuple #[.agg #[ii (((formL ar ps (sub ar t 0)).getD (0, [])).1), x2], .bool ((formL ar ps (sub ar t 0)).isSome)]) rfl (cX (qO (.agg #[ii (((formL ar ps (sub ar t 0)).getD (0, [])).1), x2]) rfl rfl (cX (qO (.bool ((formL ar ps (sub ar t 0)).isSome)) rfl rfl (cX (qY [ii (0), sN] qX rfl ?_))))))
 intro b3
 refine cX (qL [] _ [ii (((formL ar ps (sub ar t 0)).getD (0, [])).1), x2] qE rfl rfl rfl (qz rfl (qz (qW (qM hr2)) qS)) rfl rfl rfl (qd (.bool ((formL ar ps (sub ar t 0)).isSome)) rfl (qb (qc (qc (qa (qg (.bool ((formL ar ps (sub ar s 0)).isSome)) rfl (cX (jg rfl (qg (.bool (!((formL ar ps (sub ar s 0)).isSome))) rfl ?_))))))))))
 by_cases h1 : (!((formL ar ps (sub ar s 0)).isSome)) = true
 ·have hfs : (formL ar ps s).isSome = false := by rw [← hsubs]; exact Bool.not_inj (y := false) h1
  have hfns : formL ar ps s = none := by revert hfs; cases formL ar ps s <;> simp
  refine qm (t := 30) rfl (vB h1) (qm (t := 30) rfl (vB h1) (cX (qT (.bool (true)) (vB h1) rfl (qb (jv rfl (qc (qa (qd (.bool (false)) rfl (qd (.bool (false)) rfl (qb (qp (qi (ql (L' := L) [.bool (false), .bool (false)] (.tuple #[.bool (false), .bool (false)]) (.tmp rfl (.tmp rfl .nil)) rfl (qD le1 le2) rF (sD (sD (sD sR))) ?_)))))))))))))
  have e9 : mostO (formL ar ps s) (formL ar ps t) = false ∧ lessO (formL ar ps s) (formL ar ps t) = false := by first | (rw [hfns]; exact ⟨rfl, rfl⟩) | (rw [hfnt]; cases formL ar ps s <;> exact ⟨rfl, rfl⟩)
  rw [e9.1, e9.2]
  exact ⟨rfl, rfl⟩
 rw [Bool.not_eq_true] at h1
 have hfs : (formL ar ps s).isSome = true := by rw [← hsubs]; exact Bool.not_inj (y := true) h1
 obtain ⟨xs, hxs⟩ := Option.isSome_iff_exists.1 hfs
 have hins := form_in hpk (termW_of hos) hxs
 refine qn (t := 30) rfl (vB h1) (qo (.bool ((formL ar ps (sub ar t 0)).isSome)) rfl (qn (t := 30) rfl (vB h1) (jg rfl (cX (qP (.bool (!((formL ar ps (sub ar t 0)).isSome))) (vB h1) rfl (qb ?_))))))
 refine jF (t := !((formL ar ps (sub ar t 0)).isSome)) rfl (fun h2 => ?_) (fun h2 => ?_)
 ·have hft : (formL ar ps t).isSome = false := by rw [← hsubt]; exact Bool.not_inj (y := false) h2
  have hfnt : formL ar ps t = none := by revert hft; cases formL ar ps t <;> simp
  refine qc (qa (qd (.bool (false)) rfl (qd (.bool (false)) rfl (qb (qp (qi (ql (L' := L) [.bool (false), .bool (false)] (.tuple #[.bool (false), .bool (false)]) (.tmp rfl (.tmp rfl .nil)) rfl (qD le1 le2) rF (sD (sD (sD sR))) ?_)))))))
  have e9 : mostO (formL ar ps s) (formL ar ps t) = false ∧ lessO (formL ar ps s) (formL ar ps t) = false := by first | (rw [hfns]; exact ⟨rfl, rfl⟩) | (rw [hfnt]; cases formL ar ps s <;> exact ⟨rfl, rfl⟩)
  rw [e9.1, e9.2]
  exact ⟨rfl, rfl⟩
 have hft : (formL ar ps t).isSome = true := by rw [← hsubt]; exact Bool.not_inj (y := true) h2
 obtain ⟨xt, hxt⟩ := Option.isSome_iff_exists.1 hft
 have hint := form_in hpk (termW_of hot) hxt
 refine qx (qc (qa ?_))
 have hls9 : ((formL ar ps (sub ar s 0)).getD (0, [])).2.length ≤ 48 := by rw [hsubs, hxs]; exact hins.2.1
 have hlt9 : ((formL ar ps (sub ar t 0)).getD (0, [])).2.length ≤ 48 := by rw [hsubt, hxt]; exact hint.2.1
 refine cX (qr [ii (((formL ar ps (sub ar s 0)).getD (0, [])).1), x1] je qE rfl rfl (Rd.ownN [_] rfl rfl) (cX (qr [ii (((formL ar ps (sub ar t 0)).getD (0, [])).1), x2] je qE rfl rfl (Rd.ownN [] rfl rfl) (cX (qq (args := [.agg #[ii (((formL ar ps (sub ar s 0)).getD (0, [])).1), x1], .agg #[ii (((formL ar ps (sub ar t 0)).getD (0, [])).1), x2]]) call374 rfl (atMost_spec hr1 hr2 (hla := (by first | assumption | rfl | omega | simp)) (hlb := (by first | assumption | rfl | omega | simp))) ?_)))))
 rintro _ _ _ _ ⟨rfl, rfl, rfl⟩
 refine cX (qO (.bool ((mostP ((((formL ar ps (sub ar s 0)).getD (0, [])).1), (((formL ar ps (sub ar s 0)).getD (0, [])).2)) ((((formL ar ps (sub ar t 0)).getD (0, [])).1), (((formL ar ps (sub ar t 0)).getD (0, [])).2)) && decide ((((formL ar ps (sub ar s 0)).getD (0, [])).1) ≤ (((formL ar ps (sub ar t 0)).getD (0, [])).1))))) rfl rfl (cX (qO (.bool (lessP ((((formL ar ps (sub ar s 0)).getD (0, [])).1), (((formL ar ps (sub ar s 0)).getD (0, [])).2)) ((((formL ar ps (sub ar t 0)).getD (0, [])).1), (((formL ar ps (sub ar t 0)).getD (0, [])).2)))) rfl rfl (qd (.bool ((mostP ((((formL ar ps (sub ar s 0)).getD (0, [])).1), (((formL ar ps (sub ar s 0)).getD (0, [])).2)) ((((formL ar ps (sub ar t 0)).getD (0, [])).1), (((formL ar ps (sub ar t 0)).getD (0, [])).2)) && decide ((((formL ar ps (sub ar s 0)).getD (0, [])).1) ≤ (((formL ar ps (sub ar t 0)).getD (0, [])).1))))) rfl (qd (.bool (lessP ((((formL ar ps (sub ar s 0)).getD (0, [])).1), (((formL ar ps (sub ar s 0)).getD (0, [])).2)) ((((formL ar ps (sub ar t 0)).getD (0, [])).1), (((formL ar ps (sub ar t 0)).getD (0, [])).2)))) rfl (qb (qp (ql (L' := L) [.bool ((mostP ((((formL ar ps (sub ar s 0)).getD (0, [])).1), (((formL ar ps (sub ar s 0)).getD (0, [])).2)) ((((formL ar ps (sub ar t 0)).getD (0, [])).1), (((formL ar ps (sub ar t 0)).getD (0, [])).2)) && decide ((((formL ar ps (sub ar s 0)).getD (0, [])).1) ≤ (((formL ar ps (sub ar t 0)).getD (0, [])).1)))), .bool (lessP ((((formL ar ps (sub ar s 0)).getD (0, [])).1), (((formL ar ps (sub ar s 0)).getD (0, [])).2)) ((((formL ar ps (sub ar t 0)).getD (0, [])).1), (((formL ar ps (sub ar t 0)).getD (0, [])).2)))] (.tuple #[.bool ((mostP ((((formL ar ps (sub ar s 0)).getD (0, [])).1), (((formL ar ps (sub ar s 0)).getD (0, [])).2)) ((((formL ar ps (sub ar t 0)).getD (0, [])).1), (((formL ar ps (sub ar t 0)).getD (0, [])).2)) && decide ((((formL ar ps (sub ar s 0)).getD (0, [])).1) ≤ (((formL ar ps (sub ar t 0)).getD (0, [])).1)))), .bool (lessP ((((formL ar ps (sub ar s 0)).getD (0, [])).1), (((formL ar ps (sub ar s 0)).getD (0, [])).2)) ((((formL ar ps (sub ar t 0)).getD (0, [])).1), (((formL ar ps (sub ar t 0)).getD (0, [])).2)))]) (.tmp rfl (.tmp rfl .nil)) rfl (qD le1 le2) rF (sD (sD (sD sR))) ?_))))))))
 rw [hsubs, hsubt, hxs, hxt]
 exact ⟨rfl, rfl⟩

/- impl.StrictIn$1 -/
theorem StrictIn1_spec {F : FH} {L : List HP} {pc : Int} {pfv : Value} {pf : List Int} (hpf : IntsF F pfv pf) (hlf : pf.length ≤ 4000000) :
    Does prog 345 [.agg #[ii (pc), pfv]] F (L) (fun v F' L' => (.bool (decide ((0 : Int) ∈ pf)) : Value) = v ∧ F = F' ∧ L = L') := by
 refine qC func345 rfl rfl rfl (qc (qa (cX (qI [ii (pc), pfv] rfl rfl ?_))))
 intro b1
 refine qd (.bool (false)) rfl (qb (qc (qa (cX (qj (1) qt rfl qs (by decide) rfl rfl (cX (qh qF rfl (Rd.own [] rfl rfl) (cX (qq (args := [pfv, ii (0)]) call218 rfl (Contains_spec (n := 0) hpf (hbd := (by first | assumption | rfl | omega | simp))) ?_)))))))))
 rintro _ _ _ _ ⟨rfl, rfl, rfl⟩
 refine qd (.bool (decide (0 ∈ pf))) rfl (qb (qp (ql (L' := L) [.bool (decide (0 ∈ pf))] (.bool (decide (0 ∈ pf))) (.tmp rfl .nil) rfl rF rF (sD sR) ?_)))
 exact ⟨rfl, rfl, rfl⟩

/- slices.IndexFunc[[]impl.Poly,impl.Poly] -/
theorem IndexFuncP_spec {F : FH} {L : List HP} {psv : Value} {ps : List PolyT} (hps : PolysF F psv ps)  (hlp : ps.length ≤ 4000000) (hpb : ∀ i, i < ps.length → (ps.getD i (0, [])).2.length ≤ 4000000) :
    Does prog 373 [psv, .func (.func 345) #[] #[]] F (L) (fun v F' L' => (ii (badG (fun p : PolyV => !decide ((0 : Int) ∈ p.2)) ps) : Value) = v ∧ F = F' ∧ L = L') := by
 refine qC func373 rfl rfl rfl (qc (qa (qd (ii (0)) rfl (qb (qc (qc (qa (qg (psv) rfl (cX (qB jh rfl hps.slv (qg (ii (0)) rfl (qb (qG (jd (α := Nat) (fun k => [(0, psv), (1, .func (.func 345) #[] #[]), (7, ii ((ps.length : Int))), (8, ii ((k : Int)))]) (fun k => L) (fun k F' => F = F' ∧ (k ≤ ps.length) ∧ (∀ i, i < k → (fun p : PolyV => !decide ((0 : Int) ∈ p.2)) (ps.getD i (0, [])) = true)) (fun k => ps.length - k) 0 ⟨rfl, rfl, rfl, rfl, ⟨⟩⟩ sR ⟨rfl, (by (try dsimp only) <;> omega), (fun i hi => absurd hi (by omega))⟩ ?_))))))))))))))
 rintro k rE _ _ ⟨rfl, hk, hall⟩
 show X _ _ _ _ (envs [(0, psv), (1, .func (.func 345) #[] #[]), (7, ii ((ps.length : Int))), (8, ii ((k : Int)))] rE) _ (L)
 refine qc (qa (cX (qK rfl rfl (qb (qc ?_)))))
 refine qw (p := (k : Int) < (ps.length : Int)) rfl (fun h1 => ?_) (fun h1 => ?_)
 ·refine qx (qc (qG (qc (qa (qg (ii ((k : Int))) rfl (qd (ii ((k : Int))) rfl (qb (qc (qa ?_)))))))))
  have hpbk := hpb k (by omega)
  refine qg (.func (.func 345) #[] #[]) rfl (qg (psv) rfl (qg (ii ((k : Int))) rfl (cX (qv k jh qE rfl rfl rfl hps.slv (by omega) rfl ?_))))
  obtain ⟨a1, ha1, hrg1, hq1⟩ := hps.rd (i := k) (by omega)
  refine cX (qr [ii ((ps.getD k (0, [])).1), a1] je qE rfl rfl (Rd.all (hrg1 _)) (cX (XOp.callV (first := []) (captured := []) (args := [.agg #[ii ((ps.getD k (0, [])).1), a1]]) call345 rfl rfl (StrictIn1_spec ha1 (hlf := (by first | assumption | rfl | omega | simp))) ?_)))
  rintro _ _ _ _ ⟨rfl, rfl, rfl⟩
  refine qb ?_
  refine qw (p := (0 : Int) ∈ ((ps.getD k (0, [])).2)) rfl (fun h2 => ?_) (fun h2 => ?_)
  ·refine qc (qa (qg (ii ((k : Int))) rfl (qd (ii ((k : Int))) rfl (qb (qp (qA (qi (qi (qA (qi (ql (L' := L) [ii ((k : Int))] (ii ((k : Int))) (.tmp rfl .nil) rfl rF rF sR ?_)))))))))))
   exact ⟨(vI (badG_at (k := k) (0, []) (by omega) (by simp_all) hall)), rfl, rfl⟩
  refine qx (qa (cX (qN (((k + 1 : Nat) : Int)) rfl rfl (by omega) (by omega) (qg (ii (((k + 1 : Nat) : Int))) rfl (qb ?_)))))
  exact ⟨k + 1, _, FLe.refl _, rF, ⟨rfl, rfl, rfl, rfl, ⟨⟩⟩, sR, ⟨rfl, (by (try dsimp only) <;> omega), (fun i hi => (Nat.lt_or_ge i k).elim (fun h => hall i h) (fun h => by obtain rfl : i = k := (by omega); simp_all))⟩, (by omega)⟩
 refine jb (qu (qu (qJ (qc (qa (qd (ii (-1)) rfl (qb (qp (ql (L' := L) [ii (-1)] (ii (-1)) (.tmp rfl .nil) rfl rF rF sR ?_)))))))))
 exact ⟨(vI (badG_none (0, []) (fun i hi => hall i (by omega)))), rfl, rfl⟩

/- slices.ContainsFunc[[]impl.Poly,impl.Poly] -/
theorem ContainsFuncP_spec {F : FH} {L : List HP} {psv : Value} {ps : List PolyT} (hps : PolysF F psv ps)  (hlp : ps.length ≤ 4000000) (hpb : ∀ i, i < ps.length → (ps.getD i (0, [])).2.length ≤ 4000000) :
    Does prog 344 [psv, .func (.func 345) #[] #[]] F (L) (fun v F' L' => (.bool (decide (badG (fun p : PolyV => !decide ((0 : Int) ∈ p.2)) ps ≥ 0)) : Value) = v ∧ F = F' ∧ L = L') := by
 refine qC func344 rfl rfl rfl (qc (qa (qd (.bool (false)) rfl (qb (qc (qa (qg (psv) rfl (qg (.func (.func 345) #[] #[]) rfl (cX (qq (args := [psv, .func (.func 345) #[] #[]]) call373 rfl (IndexFuncP_spec hps (hlp := (by first | assumption | rfl | omega | simp)) (hpb := (by first | assumption | rfl | omega | simp))) ?_))))))))))
 rintro _ _ _ _ ⟨rfl, rfl, rfl⟩
 refine cX (XOp.geq rfl rfl (qd (.bool (decide ((badG (fun p : PolyV => !decide ((0 : Int) ∈ p.2)) ps : Int) ≥ 0))) rfl (qb (qp (ql (L' := L) [.bool (decide ((badG (fun p : PolyV => !decide ((0 : Int) ∈ p.2)) ps : Int) ≥ 0))] (.bool (decide ((badG (fun p : PolyV => !decide ((0 : Int) ∈ p.2)) ps : Int) ≥ 0))) (.tmp rfl .nil) rfl rF rF sR ?_)))))
 exact ⟨rfl, rfl, rfl⟩

/- impl.StrictIn -/
theorem StrictIn_spec {F : FH} {L : List HP} {arv : Value} {ar : List Int} (har : IntsF F arv ar) {psv : Value} {ps : List PolyT} (hps : PolysF F psv ps) (hlp : ps.length ≤ 4000000) (hpb : ∀ i, i < ps.length → (ps.getD i (0, [])).2.length ≤ 4000000) (hla : ar.length ≤ 4000000) :
    Does prog 274 [.agg #[arv], psv] F (L) (fun v F' L' => (.bool (strictL ar ps) : Value) = v ∧ F = F' ∧ L = L') := by
 refine qC func274 rfl rfl rfl (qc (qa (cX (qI [arv] rfl rfl ?_))))
 intro b1
 refine qd (.bool (false)) rfl (qb (qc (qa (cX (qr [arv] qZ qH rfl rfl (Rd.ownN [] rfl rfl) (qg (psv) rfl (cX (qq (args := [.agg #[arv], psv]) call343 rfl (PolysOk_spec har hps (hlp := (by first | assumption | rfl | omega | simp)) (hpb := (by first | assumption | rfl | omega | simp)) (hla := (by first | assumption | rfl | omega | simp))) ?_))))))))
 rintro _ _ _ _ ⟨rfl, rfl, rfl⟩
 refine qg (.bool (polysOk ar ps)) rfl ?_
 by_cases h1 : (polysOk ar ps) = true
 ·have hpk : polysOk ar ps = true := h1
  refine qn (t := 8) rfl (vB h1) (qo (psv) rfl (qn (t := 8) rfl (vB h1) (qq (args := [psv, .func (.func 345) #[] #[]]) call344 rfl (ContainsFuncP_spec hps (hlp := (by first | assumption | rfl | omega | simp)) (hpb := (by first | assumption | rfl | omega | simp))) ?_)))
  rintro _ _ _ _ ⟨rfl, rfl, rfl⟩
  refine qn (t := 8) rfl (vB h1) (jx rfl (cX (qT (.bool (decide (¬(badG (fun p : PolyV => !decide ((0 : Int) ∈ p.2)) ps ≥ 0)))) (vB h1) rfl (qd (.bool (decide (¬(badG (fun p : PolyV => !decide ((0 : Int) ∈ p.2)) ps ≥ 0)))) rfl (qb (qp (ql (L' := L) [.bool (decide (¬(badG (fun p : PolyV => !decide ((0 : Int) ∈ p.2)) ps ≥ 0)))] (.bool (decide (¬(badG (fun p : PolyV => !decide ((0 : Int) ∈ p.2)) ps ≥ 0)))) (.tmp rfl .nil) rfl rF rF (sD sR) ?_)))))))
  exact ⟨(vB ((by first | exact strict_no hpk | rw [strict_bad hpk, decide_not]))), rfl, rfl⟩
 rw [Bool.not_eq_true] at h1
 have hpk : polysOk ar ps = false := h1
 refine qm (t := 8) rfl (vB h1) (qm (t := 8) rfl (vB h1) (qm (t := 8) rfl (vB h1) (cX (qP (.bool (false)) (vB h1) rfl (qd (.bool (false)) rfl (qb (qp (ql (L' := L) [.bool (false)] (.bool (false)) (.tmp rfl .nil) rfl rF rF (sD sR) ?_))))))))
 exact ⟨(vB ((by first | exact strict_no hpk | rw [strict_bad hpk, decide_not]))), rfl, rfl⟩

/- impl.polyRules -/
set_option maxRecDepth 20000 in
theorem polyRules_spec {F : FH} {L : List HP} {arv : Value} {ar : List Int} (har : IntsF F arv ar) {rsv : Value} {rs : List (List Int × List Int)} (hrs : PairsF F rsv rs) {psv : Value} {ps : List PolyT} (hps : PolysF F psv ps)  (hsys : sysOk ar rs = true) (hpk : polysOk ar ps = true) :
    Does prog 275 [.agg #[arv, rsv], psv, .bool (true)] F (L) (fun v F' L' => (.bool (rs.all (ruleDown ar ps)) : Value) = v ∧ L = L') := by
 refine qC func275 rfl rfl rfl ?_
 have hrl := (sysOk_iff.1 hsys).2.1
 refine qc (qa (cX (qI [arv, rsv] rfl rfl ?_)))
 intro b1
 refine qd (.bool (false)) rfl (qb (qc (qc (qa (cX (qj (1) qU rfl jJ (by decide) rfl rfl (cX (qh isAgg37 rfl (Rd.own [] rfl rfl) (cX (qB ji rfl hrs.slv (qg (ii (0)) rfl (qb (qG (jd (α := Nat × FH) (fun xQ => [(1, psv), (2, .bool (true)), (3, ptr b1 0), (12, rsv), (13, ii ((rs.length : Int))), (14, ii (((xQ.1 : Nat) : Int)))]) (fun xQ => cellsH b1 [arv, rsv] 39 :: L) (fun xQ F' => xQ.2 = F' ∧ F ≤ xQ.2 ∧ (xQ.1 ≤ rs.length) ∧ (∀ i, i < xQ.1 → ruleDown ar ps (rs.getD i ([], [])) = true)) (fun xQ => rs.length - xQ.1) (0, F) ⟨rfl, rfl, rfl, rfl, rfl, rfl, ⟨⟩⟩ (sC sR) ⟨rfl, FLe.refl _, (by (try dsimp only) <;> omega), (fun i hi => absurd hi (by omega))⟩ ?_))))))))))))))
 rintro ⟨k, G1⟩ rE _ _ ⟨rfl, leG, hk, hall⟩
 show X _ _ _ _ (envs [(1, psv), (2, .bool (true)), (3, ptr b1 0), (12, rsv), (13, ii ((rs.length : Int))), (14, ii ((k : Int)))] rE) _ (cellsH b1 [arv, rsv] 39 :: L)
 replace leG : F ≤ G1 := leG
 dsimp only at hk hall
 have hrk := fun h : k < rs.length => ruleOk_iff.1 ((sysOk_iff.1 hsys).2.2 k h)
 have leG1 := leG
 replace har := har.mono leG1
 replace hrs := hrs.mono leG1
 replace hps := hps.mono leG1
 refine qc (qa (cX (qK rfl rfl (qb (qc ?_)))))
 refine qw (p := (k : Int) < (rs.length : Int)) rfl (fun h1 => ?_) (fun h1 => ?_)
 ·refine qx (qc (qG (qc (qa (cX (qv k ji jy rfl rfl rfl hrs.slv (by omega) rfl ?_))))))
  obtain ⟨a1, a2, ha1, ha2, hr1, hr2⟩ := hrs.rd (i := k) (by omega)
  refine cX (qr [a1, a2] isAgg76 jy rfl rfl (Rd.two (hr1 _) (hr2 _)) (cX (qY [sN, sN] zeroValue76 rfl ?_)))
  intro b2
  refine cX (qL [] _ [a1, a2] jy rfl rfl rfl (qz (qW (qM ha1)) (qz (qW (qM ha2)) qS)) rfl rfl rfl (qb (qc (qa (cX (qj (0) qU rfl qH (by decide) rfl rfl (cX (qr [arv] qZ qH rfl rfl (Rd.ownN [_] rfl rfl) (qg (psv) rfl (cX (qj (1) jc rfl qs (by decide) rfl rfl (cX (qh qF rfl (Rd.own [] rfl rfl) (cX (qj (0) jc rfl qs (by decide) rfl rfl (cX (qh qF rfl (Rd.own [] rfl rfl) (cX (qq (args := [.agg #[arv], psv, a2, a1]) call346 rfl (compareForms_spec har hps ha2 ha1 (hpk := (hpk)) (hos := ((hrk (by omega)).right)) (hot := ((hrk (by omega)).left))) ?_)))))))))))))))))))
  rintro _ F1 _ le1 ⟨rfl, rfl⟩
  refine qg (.tuple #[.bool (mostO (formL ar ps ((rs.getD k ([], [])).2)) (formL ar ps ((rs.getD k ([], [])).1))), .bool (lessO (formL ar ps ((rs.getD k ([], [])).2)) (formL ar ps ((rs.getD k ([], [])).1)))]) rfl (cX (qO (.bool (mostO (formL ar ps ((rs.getD k ([], [])).2)) (formL ar ps ((rs.getD k ([], [])).1)))) rfl rfl (cX (qO (.bool (lessO (formL ar ps ((rs.getD k ([], [])).2)) (formL ar ps ((rs.getD k ([], [])).1)))) rfl rfl (qd (.bool (mostO (formL ar ps ((rs.getD k ([], [])).2)) (formL ar ps ((rs.getD k ([], [])).1)))) rfl (qd (.bool (lessO (formL ar ps ((rs.getD k ([], [])).2)) (formL ar ps ((rs.getD k ([], [])).1)))) rfl (qb (qc (qa (qg (.bool (mostO (formL ar ps ((rs.getD k ([], [])).2)) (formL ar ps ((rs.getD k ([], [])).1)))) rfl (cX (jg rfl (qg (.bool (!(mostO (formL ar ps ((rs.getD k ([], [])).2)) (formL ar ps ((rs.getD k ([], [])).1))))) rfl ?_)))))))))))))
  by_cases h2 : (!(mostO (formL ar ps ((rs.getD k ([], [])).2)) (formL ar ps ((rs.getD k ([], [])).1)))) = true
  ·have hmo : mostO (formL ar ps (rs.getD k ([], [])).2) (formL ar ps (rs.getD k ([], [])).1) = false := Bool.not_inj (y := false) h2
   refine qm (t := 31) rfl (vB h2) (qm (t := 31) rfl (vB h2) (XL.noU (t := 33) rfl rfl (XL.noU (t := 33) rfl rfl (qm (t := 31) rfl (vB h2) (cX (qT (.bool (true)) (vB h2) rfl (qb (jv rfl (qc (qa (qd (.bool (false)) rfl ?_)))))))))))
   refine qb (qp (qA (qi (qi (qA (qi (ql (L' := L) [.bool (false)] (.bool (false)) (.tmp rfl .nil) rfl (qD leG1 le1) rF (sD (sD sR)) ?_)))))))
   rw [all_fail (([], []) : List Int × List Int) (k := k) (by omega) (by first | exact hlo | exact less_most hmo)]
   exact ⟨rfl, rfl⟩
  rw [Bool.not_eq_true] at h2
  have hmo : mostO (formL ar ps (rs.getD k ([], [])).2) (formL ar ps (rs.getD k ([], [])).1) = true := Bool.not_inj (y := true) h2
  refine qn (t := 31) rfl (vB h2) (qo (.bool (true)) rfl (qn (t := 31) rfl (vB h2) (qo (.bool (true)) rfl (qn (t := 33) rfl rfl (qo (.bool (lessO (formL ar ps ((rs.getD k ([], [])).2)) (formL ar ps ((rs.getD k ([], [])).1)))) rfl (qn (t := 33) rfl rfl (jg rfl (qn (t := 31) rfl (vB h2) (qT (.bool (!(lessO (formL ar ps ((rs.getD k ([], [])).2)) (formL ar ps ((rs.getD k ([], [])).1))))) rfl rfl (cX (qP (.bool (!(lessO (formL ar ps ((rs.getD k ([], [])).2)) (formL ar ps ((rs.getD k ([], [])).1))))) (vB h2) rfl (qb ?_))))))))))))
  refine jF (t := !(lessO (formL ar ps ((rs.getD k ([], [])).2)) (formL ar ps ((rs.getD k ([], [])).1)))) rfl (fun h3 => ?_) (fun h3 => ?_)
  ·have hlo : lessO (formL ar ps (rs.getD k ([], [])).2) (formL ar ps (rs.getD k ([], [])).1) = false := Bool.not_inj (y := false) h3
   refine qc (qa (qd (.bool (false)) rfl (qb (qp (qA (qi (qi (qA (qi (ql (L' := L) [.bool (false)] (.bool (false)) (.tmp rfl .nil) rfl (qD leG1 le1) rF (sD (sD sR)) ?_))))))))))
   rw [all_fail (([], []) : List Int × List Int) (k := k) (by omega) (by first | exact hlo | exact less_most hmo)]
   exact ⟨rfl, rfl⟩
  have hlo : lessO (formL ar ps (rs.getD k ([], [])).2) (formL ar ps (rs.getD k ([], [])).1) = true := Bool.not_inj (y := true) h3
  refine qx (qa (cX (qN (((k + 1 : Nat) : Int)) rfl rfl (by omega) (by omega) (qg (ii (((k + 1 : Nat) : Int))) rfl (qb ?_)))))
  exact ⟨(k + 1, F1), _, (qD leG1 le1), rF, ⟨rfl, rfl, rfl, rfl, rfl, rfl, ⟨⟩⟩, (sD (sC sR)), ⟨rfl, (qD leG1 le1), (by (try dsimp only) <;> omega), (fun i hi => (Nat.lt_or_ge i k).elim (fun h => hall i h) (fun h => by obtain rfl : i = k := (by omega); exact hlo))⟩, (by omega)⟩
 refine jb (qu (qu (qJ (qc (qa (qd (.bool (true)) rfl (qb (qp (ql (L' := L) [.bool (true)] (.bool (true)) (.tmp rfl .nil) rfl leG1 rF (sD sR) ?_)))))))))
 rw [(all_getD_iff (([], []) : List Int × List Int)).2 (fun i hi => hall i (by omega))]
 exact ⟨rfl, rfl⟩

/- impl.PolyOrients -/
set_option maxRecDepth 20000 in
theorem PolyOrients_spec {F : FH} {L : List HP} {arv : Value} {ar : List Int} (har : IntsF F arv ar) {rsv : Value} {rs : List (List Int × List Int)} (hrs : PairsF F rsv rs) {psv : Value} {ps : List PolyT} (hps : PolysF F psv ps) (hlp : ps.length ≤ 4000000) (hpb : ∀ i, i < ps.length → (ps.getD i (0, [])).2.length ≤ 4000000) (hla : ar.length ≤ 4000000) :
    Does prog 174 [.agg #[arv, rsv], psv] F (L) (fun v F' L' => (.bool (orientsL ar rs ps) : Value) = v ∧ L = L') := by
 refine qC func174 rfl rfl rfl (qc (qa (cX (qI [arv, rsv] rfl rfl ?_))))
 intro b1
 refine qd (.bool (false)) rfl (qb (qc (qa (cX (qr [arv, rsv] jG jz rfl rfl (Rd.ownN [] rfl rfl) (cX (qq (args := [.agg #[arv, rsv]]) call172 rfl (SystemOk_spec har hrs) ?_)))))))
 rintro _ _ _ _ ⟨rfl, rfl, rfl⟩
 refine qg (.bool (sysOk ar rs)) rfl ?_
 by_cases h1 : (sysOk ar rs) = true
 ·have hsys : sysOk ar rs = true := h1
  refine qn (t := 7) rfl (vB h1) (qj (0) qU rfl qH (by decide) rfl rfl (qn (t := 7) rfl (vB h1) (qr [arv] qZ qH rfl rfl (Rd.ownN [] rfl rfl) (qn (t := 7) rfl (vB h1) (qo (psv) rfl (qn (t := 7) rfl (vB h1) (qq (args := [.agg #[arv], psv]) call274 rfl (StrictIn_spec har hps (hlp := (by first | assumption | rfl | omega | simp)) (hpb := (by first | assumption | rfl | omega | simp)) (hla := (by first | assumption | rfl | omega | simp))) ?_)))))))
  rintro _ _ _ _ ⟨rfl, rfl, rfl⟩
  refine cX (qT (.bool (strictL ar ps)) (vB h1) rfl (qg (.bool (strictL ar ps)) rfl ?_))
  by_cases h2 : (strictL ar ps) = true
  ·have hst : strictL ar ps = true := h2
   have hpk := strict_polys hst
   refine qn (t := 13) rfl (vB h2) (qr [arv, rsv] jG jz rfl rfl (Rd.ownN [] rfl rfl) (qn (t := 13) rfl (vB h2) (qo (psv) rfl (qn (t := 13) rfl (vB h2) (qq (args := [.agg #[arv, rsv], psv, .bool (true)]) call275 rfl (polyRules_spec har hrs hps (hsys := (hsys)) (hpk := (hpk))) ?_)))))
   rintro _ F1 _ le1 ⟨rfl, rfl⟩
   refine cX (qT (.bool (rs.all (ruleDown ar ps))) (vB h2) rfl (qd (.bool (rs.all (ruleDown ar ps))) rfl (qb (qp (ql (L' := L) [.bool (rs.all (ruleDown ar ps))] (.bool (rs.all (ruleDown ar ps))) (.tmp rfl .nil) rfl le1 rF (sD sR) ?_)))))
   have e9 : orientsL ar rs ps = rs.all (ruleDown ar ps) := by unfold orientsL; simp_all
   rw [e9]
   exact ⟨rfl, rfl⟩
  rw [Bool.not_eq_true] at h2
  have hst : strictL ar ps = false := h2
  refine qm (t := 13) rfl (vB h2) (qm (t := 13) rfl (vB h2) (qm (t := 13) rfl (vB h2) (cX (qP (.bool (false)) (vB h2) rfl (qd (.bool (false)) rfl (qb (qp (ql (L' := L) [.bool (false)] (.bool (false)) (.tmp rfl .nil) rfl rF rF (sD sR) ?_))))))))
  have e9 : orientsL ar rs ps = false := by unfold orientsL; simp_all
  rw [e9]
  exact ⟨rfl, rfl⟩
 rw [Bool.not_eq_true] at h1
 have hsys : sysOk ar rs = false := h1
 refine qm (t := 7) rfl (vB h1) (qm (t := 7) rfl (vB h1) (qm (t := 7) rfl (vB h1) (qm (t := 7) rfl (vB h1) (cX (qP (.bool (false)) (vB h1) rfl (qg (.bool (false)) rfl (qm (t := 13) rfl rfl (qm (t := 13) rfl rfl (qm (t := 13) rfl rfl (cX (qP (.bool (false)) rfl rfl ?_)))))))))))
 refine qd (.bool (false)) rfl (qb (qp (ql (L' := L) [.bool (false)] (.bool (false)) (.tmp rfl .nil) rfl rF rF (sD sR) ?_)))
 have e9 : orientsL ar rs ps = false := by unfold orientsL; simp_all
 rw [e9]
 exact ⟨rfl, rfl⟩

/- impl.BoundBy -/
set_option maxRecDepth 20000 in
theorem BoundBy_spec {F : FH} {L : List HP} {arv : Value} {ar : List Int} (har : IntsF F arv ar) {rsv : Value} {rs : List (List Int × List Int)} (hrs : PairsF F rsv rs) {psv : Value} {ps : List PolyT} (hps : PolysF F psv ps) {tv : Value} {t : List Int} (ht : IntsF F tv t) (hlp : ps.length ≤ 4000000) (hpb : ∀ i, i < ps.length → (ps.getD i (0, [])).2.length ≤ 4000000) (hla : ar.length ≤ 4000000) (hlt : t.length ≤ 4000000) :
    Does prog 75 [.agg #[arv, rsv], psv, tv] F (L) (fun v F' L' => (.tuple #[ii ((boundV ar rs ps t).getD 0), .bool ((boundV ar rs ps t).isSome)] : Value) = v ∧ L = L') := by
 refine qC func75 rfl rfl rfl (qc (qa (cX (qI [arv, rsv] rfl rfl ?_))))
 intro b1
 refine qd (ii (0)) rfl (qd (.bool (false)) rfl (qb (qc (qc (qa (cX (qr [arv, rsv] jG jz rfl rfl (Rd.ownN [] rfl rfl) (qg (psv) rfl (cX (qq (args := [.agg #[arv, rsv], psv]) call174 rfl (PolyOrients_spec har hrs hps (hlp := (by first | assumption | rfl | omega | simp)) (hpb := (by first | assumption | rfl | omega | simp)) (hla := (by first | assumption | rfl | omega | simp))) ?_))))))))))
 rintro _ F1 _ le1 ⟨rfl, rfl⟩
 replace har := har.mono le1
 replace hps := hps.mono le1
 replace ht := ht.mono le1
 refine cX (jg rfl (qb ?_))
 refine jF (t := !(orientsL ar rs ps)) rfl (fun h1 => ?_) (fun h1 => ?_)
 ·have hor : orientsL ar rs ps = false := Bool.not_inj (y := false) h1
  refine qc (qa (qd (ii (0)) rfl (qd (.bool (false)) rfl (qb (qp (qi (ql (L' := L) [ii (0), .bool (false)] (.tuple #[ii (0), .bool (false)]) (.tmp rfl (.tmp rfl .nil)) rfl le1 rF (sD sR) ?_)))))))
  unfold boundV; rw [if_neg (by rw [hor]; simp)]
  exact ⟨rfl, rfl⟩
 have hor : orientsL ar rs ps = true := Bool.not_inj (y := true) h1
 refine qx (qc (qa (cX (qj (0) qU rfl qH (by decide) rfl rfl (cX (qr [arv] qZ qH rfl rfl (Rd.ownN [] rfl rfl) (qg (psv) rfl (qg (tv) rfl (cX (qq (args := [.agg #[arv], psv, tv, sN]) call175 rfl (ValueAt_spec har hps ht (hlp := (by first | assumption | rfl | omega | simp)) (hpb := (by first | assumption | rfl | omega | simp)) (hla := (by first | assumption | rfl | omega | simp)) (hlt := (by first | assumption | rfl | omega | simp))) ?_))))))))))
 rintro _ F2 _ le2 ⟨rfl, rfl⟩
 refine cX (qO (ii ((valueL ar ps t).getD 0)) rfl rfl (cX (qO (.bool ((valueL ar ps t).isSome)) rfl rfl (qd (ii ((valueL ar ps t).getD 0)) rfl (qd (.bool ((valueL ar ps t).isSome)) rfl (qb (qp (ql (L' := L) [ii ((valueL ar ps t).getD 0), .bool ((valueL ar ps t).isSome)] (.tuple #[ii ((valueL ar ps t).getD 0), .bool ((valueL ar ps t).isSome)]) (.tmp rfl (.tmp rfl .nil)) rfl (qD le1 le2) rF (sD sR) ?_))))))))
 unfold boundV; rw [if_pos hor]
 exact ⟨rfl, rfl⟩

/- impl.put -/
theorem putW_spec {F : FH} {L : List HP} {arv : Value} {ar : List Int} (har : IntsF F arv ar) {tv : Value} {t : List Int} (ht : IntsF F tv t) {p : Nat} {uv : Value} {u : List Int} (hu : IntsF F uv u) (ho : TermW ar t) (hp : p < t.length) (hul : 1 ≤ u.length ∧ u.length ≤ 4000000) :
    Does prog 147 [.agg #[arv], tv, ii ((p : Int)), uv] F (L) (fun v F' L' => ∃ (a : Value), (.tuple #[a, .bool ((putL ar t p u).isSome)] : Value) = v ∧ (IntsF F' a ((putL ar t p u).getD [])) ∧ ((putL ar t p u).isSome = true → isNil a = false) ∧ (Fresh F F' (intsH 2 a ((putL ar t p u).getD []))) ∧ L = L') := by
 refine qC func147 rfl rfl rfl ?_
 have hsl := sigOk_spec ho.sig
 have htl := ho.len
 have hsig := ho.sig
 have hee := ho.endN hp
 refine qc (qa (cX (qI [arv] rfl rfl ?_)))
 intro b1
 refine qd (sN) rfl (qd (.bool (false)) rfl (qb (qc ?_)))
 refine X.drawG [cellsH b1 [arv] 36] L 10 [] [[], [], [0, 1], [], [], [], [], [], [5, 6, 7], [4, 8]] [] (phiG [pe tv, pe (ii ((p : Int)) : Value), fun FF us v => (v : Value) = v ∧ (IntsF FF v ((t.drop 0).take (p - 0))) ∧ (isNil v = isNil tv), pe uv, pe tv, pe (.agg #[arv]), pe tv, pe (ii ((p : Int)) : Value), pe (ii (((endN ar t p : Nat) : Int)) : Value), fun FF us v => (v : Value) = v ∧ (IntsF FF v ((t.drop (endN ar t p)).take (((t).length) - (endN ar t p)))) ∧ (isNil v = isNil tv)]) (ownL []) mixed rfl rfl (by kernel_rfl) (by kernel_rfl) (MonoG.get (m1 (m1 (mC (fun le h => ⟨h.1, h.2.1.mono le, h.2.2⟩) (m1 (m1 (m1 (m1 (m1 (m1 (mC (fun le h => ⟨h.1, h.2.1.mono le, h.2.2⟩) MonoG.nil))))))))))) ?_ ?_
 ·refine gD (fun W Fs R lF z9 => ?_) ?_
  ·refine qk (qo (tv) rfl ?_)
   exact ⟨rfl, rfl⟩
  refine gD (fun W Fs R lF z9 => ?_) ?_
  ·refine qk (qo (ii ((p : Int))) rfl ?_)
   exact ⟨rfl, rfl⟩
  refine gD (fun W Fs R lF z9 => ?_) ?_
  ·replace har := har.mono lF
   replace ht := ht.mono lF
   replace hu := hu.mono lF
   rw [eS (l := [(0, _), (1, _)]) ⟨z9 0 rfl, z9 1 rfl, ⟨⟩⟩]
   refine qk (XOp.sliceI 0 p qf qy rfl ht rfl ⟨_, rfl⟩ (by omega) (by omega) ?_)
   intro v3 hv3 hn3
   exact ⟨⟨rfl, hv3, hn3⟩, rfl⟩
  refine gD (fun W Fs R lF z9 => ?_) ?_
  ·refine qk (qo (uv) rfl ?_)
   exact ⟨rfl, rfl⟩
  refine gD (fun W Fs R lF z9 => ?_) ?_
  ·refine qk (qo (tv) rfl ?_)
   exact ⟨rfl, rfl⟩
  refine gD (fun W Fs R lF z9 => ?_) ?_
  ·replace har := har.mono lF
   replace ht := ht.mono lF
   replace hu := hu.mono lF
   refine qk (qr [arv] qZ qH rfl rfl (Rd.ownN [] rfl rfl) ?_)
   exact ⟨rfl, rfl⟩
  refine gD (fun W Fs R lF z9 => ?_) ?_
  ·refine qk (qo (tv) rfl ?_)
   exact ⟨rfl, rfl⟩
  refine gD (fun W Fs R lF z9 => ?_) ?_
  ·refine qk (qo (ii ((p : Int))) rfl ?_)
   exact ⟨rfl, rfl⟩
  refine gD (fun W Fs R lF z9 => ?_) ?_
  ·replace har := har.mono lF
   replace ht := ht.mono lF
   replace hu := hu.mono lF
   rw [eS (l := [(5, _), (6, _), (7, _)]) ⟨z9 5 rfl, z9 6 rfl, z9 7 rfl, ⟨⟩⟩]
   refine qk (qq (args := [.agg #[arv], tv, ii (p : Int)]) call206 rfl (endAtW_ok (p := p) har ht (ho := (by first | assumption | rfl | omega | (left; simp; done) | (right; simp; done))) (hp := (by first | assumption | rfl | omega | (left; simp; done) | (right; simp; done)))) ?_)
   rintro _ _ _ _ ⟨rfl, rfl, rfl⟩
   exact ⟨rfl, rfl⟩
  refine gD (fun W Fs R lF z9 => ?_) ?_
  ·replace har := har.mono lF
   replace ht := ht.mono lF
   replace hu := hu.mono lF
   rw [eS (l := [(4, _), (8, _)]) ⟨z9 4 rfl, z9 8 rfl, ⟨⟩⟩]
   refine qk (XOp.sliceI (endN ar t p) ((t).length) qf qy rfl ht ⟨_, rfl⟩ rfl (by omega) (by omega) ?_)
   intro v4 hv4 hn4
   exact ⟨⟨rfl, hv4, hn4⟩, rfl⟩
  exact stepsG.nil
 intro W F1 le1 hphi
 obtain ⟨e2, f2_1hv, f2_1hn⟩ := hphi 2 (by decide)
 obtain ⟨e9, f9_1hv, f9_1hn⟩ := hphi 9 (by decide)
 generalize hu1 : (W 2) = u1 at e2 f2_1hv f2_1hn e9 f9_1hv f9_1hn
 generalize hu2 : (W 9) = u2 at e2 f2_1hv f2_1hn e9 f9_1hv f9_1hn
 rw [eS (l := [(2, u1), (3, _), (9, u2)]) ⟨hu1, (hphi 3 (by decide)), hu2, ⟨⟩⟩]
 replace hu := hu.mono le1
 show XL _ _ _ _ _ _ _ (cellsH b1 [arv] 36 :: L)
 refine cX (ja (s := 1) [u1, uv, u2] [sN] [(0, [u1]), (1, [uv]), (2, [u2])] qR qs zeroValue22 rfl (by decide) rfl (.cons (cells_one (qM f2_1hv)) (.cons (cells_one (qM hu)) (.cons (cells_one (qM f9_1hv)) CellsAre.nil))) rfl ?_)
 intro v5 hv5
 have hc1 : RowsC F1 [u1, uv, u2] ([((t.drop 0).take (p - 0)), u, ((t.drop (endN ar t p)).take (((t).length) - (endN ar t p)))] : List (List Int)) := (RowsC.snoc (RowsC.snoc (RowsC.snoc (CO.nil : RowsC F1 [] []) f2_1hv) hu) f9_1hv)
 refine XL.freezeF [] _ _ rfl (fun F2 le2 hz1 => ?_)
 replace hc1 := hc1.mono le2
 have hf1 : RowsF F2 v5 (([((t.drop 0).take (p - 0)), u, ((t.drop (endN ar t p)).take (((t).length) - (endN ar t p)))] : List (List Int))) := CO.fz hc1 (by first | rfl | omega | (rw [List.length_set]; omega) | (simp; done)) hz1.fz
 refine cX (XOp.frzF <| qq (args := [v5]) call191 rfl (Concat_spec hf1 (hg1 := (by simp; omega)) (hn := (by first | assumption | rfl | omega | simp)) (hb := (fun i hi => by match i, hi with | 0, _ => simp; omega | 1, _ => simp; omega | 2, _ => simp; omega))) ?_)
 rintro v6 _ _ _ ⟨rfl, hs1, rfl⟩
 refine ⟨_, _, rfl, fun F3 le3 hz2 => ?_⟩
 have hf2 : IntsF F3 v6 (((([((t.drop 0).take (p - 0)), u, ((t.drop (endN ar t p)).take (((t).length) - (endN ar t p)))] : List (List Int))).flatten)) := intsH.fz (xs := ((([((t.drop 0).take (p - 0)), u, ((t.drop (endN ar t p)).take (((t).length) - (endN ar t p)))] : List (List Int))).flatten)) hz2.fz
 refine qd (v6) rfl (qb (qc (qc (qa (qg (v6) rfl (cX (qB qf rfl hf2.slv (cX (jn rfl rfl (qb ?_))))))))))
 refine qw (p := ((((((([((t.drop 0).take (p - 0)), u, ((t.drop (endN ar t p)).take (((t).length) - (endN ar t p)))] : List (List Int))).flatten)).length : Nat) : Int) : Int) > 60) rfl (fun h1 => ?_) (fun h1 => ?_)
 ·refine qc (qa (qd (sN) rfl (qd (.bool (false)) rfl (qb (qp (qi (ql (L' := L) [sN, .bool (false)] (.tuple #[sN, .bool (false)]) (.tmp rfl (.tmp rfl .nil)) rfl (qD (qD le1 le2) le3) rF (sD sR) ?_)))))))
  have hz : putL ar t p u = none := putL_none put_flat (by omega)
  exact ⟨_, by rw [hz]; rfl, by rw [hz]; exact IntsF.nilV, fun h => (by rw [hz] at h; cases h), by rw [hz]; exact Fresh.ofNil _, rfl⟩
 refine qx (qc (qa (qg (v6) rfl (qd (v6) rfl (qd (.bool (true)) rfl (qb (qp (ql (L' := L) [v6, .bool (true)] (.tuple #[v6, .bool (true)]) (.tmp rfl (.tmp rfl .nil)) rfl (qD (qD le1 le2) le3) rF (sD sR) ?_))))))))
 have hz := putL_some (ar := ar) (t := t) (p := p) (u := u) put_flat (by omega)
 exact ⟨_, by rw [hz]; rfl, by rw [hz]; exact hf2, fun _ => notNil_of_pos hf2 (by rw [put_flat]; simp; omega), by rw [hz]; exact (hz2.base (qD le1 le2)), rfl⟩

/- spec.l13End -/
theorem l13End_spec {F : FH} {L : List HP} {arv : Value} {ar : List Int} (har : IntsF F arv ar) {tv : Value} {t : List Int} (ht : IntsF F tv t) {q : Nat} (ho : TermW ar t) (hp : q < t.length) :
    Does prog 386 [.agg #[arv], tv, ii ((q : Int))] F (L) (fun v F' L' => (ii (((endN ar t q : Nat) : Int)) : Value) = v ∧ F = F' ∧ L = L') := by
 refine qC func386 rfl rfl rfl ?_
 have hsl := sigOk_spec ho.sig
 have htl := ho.len
 have hsig := ho.sig
 have hee := ho.endN hp
 refine qc (qa (cX (qI [arv] rfl rfl ?_)))
 intro b1
 refine qd (ii (0)) rfl (qb (qc (qa (qd (ii (1)) rfl (qb (qc (qG (jd (α := Nat × Nat) (fun xQ => [(1, tv), (2, ii (((xQ.2 : Nat) : Int))), (3, ptr b1 0), (7, ii (((xQ.1 : Nat) : Int)))]) (fun xQ => cellsH b1 [arv] 36 :: L) (fun xQ F' => F = F' ∧ (endGo ar (t.drop xQ.2) xQ.1 = some (endN ar t q - xQ.2)) ∧ (q ≤ xQ.2 ∧ xQ.2 ≤ endN ar t q) ∧ (xQ.1 ≤ 1 + 3 * xQ.2)) (fun xQ => t.length - xQ.2) (1, q) ⟨rfl, rfl, rfl, rfl, ⟨⟩⟩ (sC sR) ⟨rfl, (endW_start ho hp), (by (try dsimp only) <;> omega), (by (try dsimp only) <;> omega)⟩ ?_))))))))
 rintro ⟨k, p⟩ rE _ _ ⟨rfl, hi, hpp, hk⟩
 show X _ _ _ _ (envs [(1, tv), (2, ii ((p : Int))), (3, ptr b1 0), (7, ii ((k : Int)))] rE) _ (cellsH b1 [arv] 36 :: L)
 dsimp only at hi hpp hk
 refine qc (qc (qa (qg (ii ((k : Int))) rfl (cX (jn rfl rfl (qb ?_))))))
 refine qw (p := (k : Int) > 0) rfl (fun h1 => ?_) (fun h1 => ?_)
 ·obtain ⟨hpe, hnx⟩ := endW_step ho hi hpp.2 hee.2 (by omega)
  have hpt : p < t.length := by omega
  have hA := arity_le hsig (ho.lt hpt)
  have hlt := ho.lt hpt
  refine qx (qG (qc (qc (qa (qg (tv) rfl (qg (ii ((p : Int))) rfl (cX (qv p qf qy rfl rfl rfl ht.slv (by omega) (Nat.mul_one _) (cX (qh qQ rfl (ht.rd (by omega)) (cX (XOp.geq rfl rfl (qb ?_)))))))))))))
  refine qw (p := (t.getD p 0 : Int) ≥ 0) rfl (fun h2 => ?_) (fun h2 => ?_)
  ·have hare : arity ar (t.getD p 0) = ar.getD (t.getD p 0).toNat 0 := by unfold arity; rw [if_neg (by omega)]
   refine jB [cellsH b1 [arv] 36] L 9 [] [[], [], [1], [], [], [3, 4], [5], [2, 6], [7]] (phiL [qe (ii ((k : Int)) : Value), qe (ptr b1 0), qe arv, qe tv, qe (ii ((p : Int)) : Value), qe (.pointer (some (elemA tv (p)))), qe (ii (t.getD p 0)), qe (.pointer (some (elemA arv ((t.getD p 0).toNat)))), qe (ii (ar.getD ((t.getD p 0).toNat) 0))]) (ownL []) mixed rfl rfl (by kernel_rfl) ?_ ?_
   ·refine pD (fun W R z9 => ?_) ?_
    ·refine qk (qo (ii ((k : Int))) rfl ?_)
     exact ⟨rfl, rfl, rfl⟩
    refine pD (fun W R z9 => ?_) ?_
    ·refine qk (qj (0) jl rfl qs (by decide) rfl rfl ?_)
     exact ⟨rfl, rfl, rfl⟩
    refine pD (fun W R z9 => ?_) ?_
    ·rw [eS (l := [(1, _)]) ⟨z9 1 rfl, ⟨⟩⟩]
     refine qk (qh qF rfl (Rd.own [] rfl rfl) ?_)
     exact ⟨rfl, rfl, rfl⟩
    refine pD (fun W R z9 => ?_) ?_
    ·refine qk (qo (tv) rfl ?_)
     exact ⟨rfl, rfl, rfl⟩
    refine pD (fun W R z9 => ?_) ?_
    ·refine qk (qo (ii ((p : Int))) rfl ?_)
     exact ⟨rfl, rfl, rfl⟩
    refine pD (fun W R z9 => ?_) ?_
    ·rw [eS (l := [(3, _), (4, _)]) ⟨z9 3 rfl, z9 4 rfl, ⟨⟩⟩]
     refine qk (qv p qf qy rfl rfl rfl ht.slv (by omega) (Nat.mul_one _) ?_)
     exact ⟨rfl, rfl, rfl⟩
    refine pD (fun W R z9 => ?_) ?_
    ·rw [eS (l := [(5, _)]) ⟨z9 5 rfl, ⟨⟩⟩]
     refine qk (qh qQ rfl (ht.rd (by omega)) ?_)
     exact ⟨rfl, rfl, rfl⟩
    refine pD (fun W R z9 => ?_) ?_
    ·rw [eS (l := [(2, _), (6, _)]) ⟨z9 2 rfl, z9 6 rfl, ⟨⟩⟩]
     refine qk (qv ((t.getD p 0).toNat) qf qy rfl rfl (by omega) har.slv (by omega) (Nat.mul_one _) ?_)
     exact ⟨rfl, rfl, rfl⟩
    refine pD (fun W R z9 => ?_) ?_
    ·rw [eS (l := [(7, _)]) ⟨z9 7 rfl, ⟨⟩⟩]
     refine qk (qh qQ rfl (har.rd (by omega)) ?_)
     exact ⟨rfl, rfl, rfl⟩
    exact stepsP.nil
   intro W hphi
   rw [eS (l := [(0, _), (8, _)]) ⟨(hphi 0 (by decide)), (hphi 8 (by decide)), ⟨⟩⟩]
   show XL _ _ _ _ _ _ _ (cellsH b1 [arv] 36 :: L)
   refine cX (qN (((k : Int)) + (ar.getD ((t.getD p 0).toNat) 0)) rfl rfl (by omega) (by omega) (qd (ii (((k : Int)) + (ar.getD ((t.getD p 0).toNat) 0))) rfl (qb (qc (qa (qg (ii (((k : Int)) + (ar.getD ((t.getD p 0).toNat) 0))) rfl (cX (jo ((((k : Int)) + (ar.getD ((t.getD p 0).toNat) 0)) - 1) rfl rfl (by omega) (by omega) (qd (ii ((((k : Int)) + (ar.getD ((t.getD p 0).toNat) 0)) - 1)) rfl (qb (qa (qg (ii ((p : Int))) rfl (cX (qN (((p + 1 : Nat) : Int)) rfl rfl (by omega) (by omega) (qd (ii (((p + 1 : Nat) : Int))) rfl ?_)))))))))))))))
   refine qb ?_
   exact ⟨(k - 1 + (arity ar (t.getD p 0)).toNat, p + 1), _, FLe.refl _, rF, ⟨rfl, rfl, rfl, (vI (by omega)), ⟨⟩⟩, (sC sR), ⟨rfl, (hnx), (by (try dsimp only) <;> omega), (by (try dsimp only) <;> omega)⟩, (by omega)⟩
  have hare : arity ar (t.getD p 0) = 0 := by unfold arity; rw [if_pos (by omega)]
  refine qx (qc (qa (qg (ii ((k : Int))) rfl (cX (jo (((k : Int)) - 1) rfl rfl (by omega) (by omega) (qd (ii (((k : Int)) - 1)) rfl (qb (qa (qg (ii ((p : Int))) rfl (cX (qN (((p + 1 : Nat) : Int)) rfl rfl (by omega) (by omega) (qd (ii (((p + 1 : Nat) : Int))) rfl (qb ?_)))))))))))))
  exact ⟨(k - 1 + (arity ar (t.getD p 0)).toNat, p + 1), _, FLe.refl _, rF, ⟨rfl, rfl, rfl, (vI (by omega)), ⟨⟩⟩, (sC sR), ⟨rfl, (hnx), (by (try dsimp only) <;> omega), (by (try dsimp only) <;> omega)⟩, (by omega)⟩
 refine jb (qu (qu (qJ (qc (qa (qg (ii ((p : Int))) rfl (qd (ii ((p : Int))) rfl (qb (qp (ql (L' := L) [ii ((p : Int))] (ii ((p : Int))) (.tmp rfl .nil) rfl rF rF (sD sR) ?_))))))))))
 exact ⟨(congrArg (fun n : Nat => Value.int .i64 (n : Int)) (endW_stop hi hpp.2 (by omega)).symm), rfl, rfl⟩

/- spec.l13Parts -/
theorem l13Parts_spec {F : FH} {L : List HP} {arv : Value} {ar : List Int} (har : IntsF F arv ar) {tv : Value} {t : List Int} (ht : IntsF F tv t) (ho : TermW ar t) :
    Does prog 371 [.agg #[arv], tv] F (L) (fun v F' L' => ∃ (a : Value), (a : Value) = v ∧ (RowsF F' a (partsL ar t)) ∧ L = L') := by
 refine qC func371 rfl rfl rfl ?_
 have hsl := sigOk_spec ho.sig
 have htl := ho.len
 have hsig := ho.sig
 have hlt0 := ho.lt (p := 0) (by omega)
 refine qc (qa (cX (qI [arv] rfl rfl ?_)))
 intro b1
 refine qd (sN) rfl (qb (qc (qa (cX (ja (s := 1) [] [sN] [] qR qs zeroValue22 rfl (by decide) rfl CellsAre.nil rfl ?_)))))
 intro v1 hv1
 refine qd (v1) rfl (qb (qc (qc (qa (qg (tv) rfl (cX (qv 0 qf qy rfl rfl rfl ht.slv (by omega) (Nat.mul_one _) (cX (qh qQ rfl (ht.rd (by omega)) (cX (qK rfl rfl (qb ?_))))))))))))
 refine qw (p := (t.getD 0 0 : Int) < 0) rfl (fun h1 => ?_) (fun h1 => ?_)
 ·refine qc (qa (qg (v1) rfl (qd (v1) rfl (qb ?_))))
  have hc1 : RowsC F [] ([] : List (List Int)) := (CO.nil : RowsC F [] [])
  refine ju [] _ _ rfl (fun F1 le1 hz1 => ?_)
  replace har := har.mono le1
  replace ht := ht.mono le1
  replace hc1 := hc1.mono le1
  have hf1 : RowsF F1 v1 (([] : List (List Int))) := CO.fz hc1 (by first | rfl | omega | (rw [List.length_set]; omega) | (simp; done)) hz1.fz
  refine qp (qi (ql (L' := L) [v1] (v1) (.tmp rfl .nil) rfl le1 rF (sD sR) ?_))
  have e9 : partsL ar t = [] := List.eq_nil_of_length_eq_zero (by rw [parts_len]; unfold arity; rw [if_pos (by omega)]; rfl)
  rw [e9]
  exact ⟨_, rfl, hf1, rfl⟩
 obtain ⟨hpa, hp3, hpl⟩ := sArity_parts ho (by omega)
 refine qx (qc (qa (qd (ii (1)) rfl (qb (qc (qc (qa (qd (ii (0)) rfl (qb (qG (jd (α := Nat × Nat × Value × RowL × List Value × Nat × FH) (fun xQ => [(1, tv), (2, ptr b1 0), (5, xQ.2.2.1), (6, ii (((xQ.2.1 : Nat) : Int))), (7, ii (((xQ.1 : Nat) : Int)))]) (fun xQ => slH 22 1 xQ.2.2.1 xQ.2.2.2.2.2.1 xQ.2.2.2.2.1 :: cellsH b1 [arv] 36 :: L) (fun xQ F' => xQ.2.2.2.2.2.2 = F' ∧ F ≤ xQ.2.2.2.2.2.2 ∧ (IsSl xQ.2.2.1) ∧ (RowsC xQ.2.2.2.2.2.2 xQ.2.2.2.2.1 xQ.2.2.2.1) ∧ (xQ.2.2.2.2.2.1 = xQ.2.2.2.1.length) ∧ (xQ.2.2.2.1.length = xQ.1) ∧ (PartI ar t xQ.2.2.2.1 ((partsL ar t).length - xQ.1) xQ.2.1) ∧ (xQ.1 ≤ (partsL ar t).length)) (fun xQ => (partsL ar t).length - xQ.1) (0, 1, v1, [], [], 0, F) ⟨rfl, rfl, rfl, rfl, rfl, ⟨⟩⟩ (sC (sC sR)) ⟨rfl, FLe.refl _, ((isSl_lit hv1)), (CO.nil), (rfl), (rfl), (PartI.start ho), (by (try dsimp only) <;> omega)⟩ ?_)))))))))))
 rintro ⟨k, q, ov, os, ocs, m9, G1⟩ rE _ _ ⟨rfl, leG, hov, hC, hm, hk, hPI, hk2⟩
 show X _ _ _ _ (envs [(1, tv), (2, ptr b1 0), (5, ov), (6, ii ((q : Int))), (7, ii ((k : Int)))] rE) _ (slH 22 1 ov m9 ocs :: cellsH b1 [arv] 36 :: L)
 replace leG : F ≤ G1 := leG
 dsimp only at hov hC hm hk hPI hk2
 have hPn := fun h : 1 ≤ (partsL ar t).length - k => hPI.next ho h
 have leG1 := leG
 replace har := har.mono leG1
 replace ht := ht.mono leG1
 refine qc (qc ?_)
 refine jB [slH 22 1 ov m9 ocs, cellsH b1 [arv] 36] L 8 [] [[], [], [1], [], [3], [4], [2, 5], [6]] (phiL [qe (ii ((k : Int)) : Value), qe (ptr b1 0), qe arv, qe tv, qe (.pointer (some (elemA tv (0)))), qe (ii (t.getD 0 0)), qe (.pointer (some (elemA arv ((t.getD 0 0).toNat)))), qe (ii (ar.getD ((t.getD 0 0).toNat) 0))]) (ownL []) mixed rfl rfl (by kernel_rfl) ?_ ?_
 ·refine pD (fun W R z9 => ?_) ?_
  ·refine qk (qo (ii ((k : Int))) rfl ?_)
   exact ⟨rfl, rfl, rfl⟩
  refine pD (fun W R z9 => ?_) ?_
  ·refine qk (qj (0) jl rfl qs (by decide) rfl rfl ?_)
   exact ⟨rfl, rfl, rfl⟩
  refine pD (fun W R z9 => ?_) ?_
  ·rw [eS (l := [(1, _)]) ⟨z9 1 rfl, ⟨⟩⟩]
   refine qk (qh qF rfl (Rd.own [_] rfl rfl) ?_)
   exact ⟨rfl, rfl, rfl⟩
  refine pD (fun W R z9 => ?_) ?_
  ·refine qk (qo (tv) rfl ?_)
   exact ⟨rfl, rfl, rfl⟩
  refine pD (fun W R z9 => ?_) ?_
  ·rw [eS (l := [(3, _)]) ⟨z9 3 rfl, ⟨⟩⟩]
   refine qk (qv 0 qf qy rfl rfl rfl ht.slv (by omega) (Nat.mul_one _) ?_)
   exact ⟨rfl, rfl, rfl⟩
  refine pD (fun W R z9 => ?_) ?_
  ·rw [eS (l := [(4, _)]) ⟨z9 4 rfl, ⟨⟩⟩]
   refine qk (qh qQ rfl (ht.rd (by omega)) ?_)
   exact ⟨rfl, rfl, rfl⟩
  refine pD (fun W R z9 => ?_) ?_
  ·rw [eS (l := [(2, _), (5, _)]) ⟨z9 2 rfl, z9 5 rfl, ⟨⟩⟩]
   refine qk (qv ((t.getD 0 0).toNat) qf qy rfl rfl (by omega) har.slv (by omega) (Nat.mul_one _) ?_)
   exact ⟨rfl, rfl, rfl⟩
  refine pD (fun W R z9 => ?_) ?_
  ·rw [eS (l := [(6, _)]) ⟨z9 6 rfl, ⟨⟩⟩]
   refine qk (qh qQ rfl (har.rd (by omega)) ?_)
   exact ⟨rfl, rfl, rfl⟩
  exact stepsP.nil
 intro W hphi
 rw [eS (l := [(0, _), (7, _)]) ⟨(hphi 0 (by decide)), (hphi 7 (by decide)), ⟨⟩⟩]
 show XL _ _ _ _ _ _ _ (slH 22 1 ov m9 ocs :: cellsH b1 [arv] 36 :: L)
 refine cX (qK rfl rfl (qb ?_))
 refine qw (p := (k : Int) < ar.getD ((t.getD 0 0).toNat) 0) rfl (fun h2 => ?_) (fun h2 => ?_)
 ·obtain ⟨hq1, hq2, hq3, hq4⟩ := hPn (by omega)
  refine qx (qc (qG (qc (qa (cX (qr [arv] qZ qH rfl rfl (Rd.ownN [_] rfl rfl) (qg (tv) rfl (qg (ii ((q : Int))) rfl (cX (qq (args := [.agg #[arv], tv, ii (q : Int)]) call386 rfl (l13End_spec (q := q) har ht (ho := (ho)) (hp := (hq1))) ?_))))))))))
  rintro _ _ _ _ ⟨rfl, rfl, rfl⟩
  refine qd (ii (((endN ar t q : Nat) : Int))) rfl (qb (qc (qa (qg (ov) rfl (qg (tv) rfl (qg (ii ((q : Int))) rfl (qg (ii (((endN ar t q : Nat) : Int))) rfl (cX (XOp.sliceI q (endN ar t q) qf qy rfl ht ⟨_, rfl⟩ ⟨_, rfl⟩ (by omega) (by omega) ?_)))))))))
  intro v2 hv2 hn1
  refine cX (ja (s := 1) [v2] [sN] [(0, [v2])] qR qs zeroValue22 rfl (by decide) rfl (.cons (cells_one (qM hv2)) CellsAre.nil) rfl ?_)
  intro v3 hv3
  refine cX (XOp.append (m := 1) (bytes := 24) (cs := ocs) [_] _ [v2] qR typeInfo22 rfl rfl rfl rfl rfl rfl rfl (SlV.own [] rfl) rfl (Rd.lit [] rfl) (qz (qW (qM hv2)) qS) (by (try simp only [List.length_append, List.length_nil, List.length_cons, List.length_singleton]); omega) (by (try simp only [List.length_append, List.length_nil, List.length_cons, List.length_singleton]); omega) ?_)
  intro v4 hs1 hn2 hm1
  have hc2 := RowsC.snoc hC hv2
  refine qd (v4) rfl (qb (qa (qg (ii (((endN ar t q : Nat) : Int))) rfl (qd (ii (((endN ar t q : Nat) : Int))) rfl (qb (qa (qg (ii ((k : Int))) rfl (cX (qN (((k + 1 : Nat) : Int)) rfl rfl (by omega) (by omega) (qd (ii (((k + 1 : Nat) : Int))) rfl (qb ?_)))))))))))
  exact ⟨(k + 1, endN ar t q, v4, os ++ [((t.drop q).take ((endN ar t q) - q))], ocs ++ [v2], (m9) + 1, G1), _, leG1, rF, ⟨rfl, rfl, rfl, rfl, rfl, ⟨⟩⟩, (sD (sC (sC sR))), ⟨rfl, leG1, (hs1), (hc2), (by (try dsimp only); rw [List.length_append, List.length_singleton]; omega), (by (try dsimp only); rw [List.length_append, List.length_singleton]; omega), (by have h9 := (hPn (by omega)).2.1; rwa [show (partsL ar t).length - k - 1 = (partsL ar t).length - (k + 1) from by omega] at h9), (by (try dsimp only) <;> omega)⟩, (by omega)⟩
 refine jb (qu (qu (qJ (qc (qa (qg (ov) rfl (qd (ov) rfl (qb (ju [] _ _ rfl (fun F2 le2 hz2 => ?_))))))))))
 replace hC := hC.mono le2
 have hf2 : RowsF F2 ov os := CO.fz hC (by first | rfl | omega | (rw [List.length_set]; omega) | (simp; done)) hz2.fz
 refine qp (ql (L' := L) [ov] (ov) (.tmp rfl .nil) rfl (qD leG1 le2) rF (sD sR) ?_)
 have e9 := hPI.done (by omega)
 rw [e9]
 exact ⟨_, rfl, hf2, rfl⟩

/- spec.l15Poly -/
theorem sl15Poly_spec {F : FH} {L : List HP} {pc : Int} {pfv : Value} {pf : List Int} (hpf : IntsF F pfv pf) {n : Int} (hlf : pf.length ≤ 4000000) :
    Does prog 369 [.agg #[ii (pc), pfv], ii (n)] F (L) (fun v F' L' => (.bool (polyOk n (pc, pf)) : Value) = v ∧ F = F' ∧ L = L') := by
 refine qC func369 rfl rfl rfl (qc (qa (cX (qI [ii (pc), pfv] rfl rfl ?_))))
 intro b1
 refine qd (.bool (false)) rfl (qb (qc (qc (qa (cX (qj (0) qt rfl qy (by decide) rfl rfl (cX (qh qQ rfl (Rd.own [] rfl rfl) (cX (qq (args := [ii (pc), ii (0), ii (9)]) call109 rfl (l1In_spec (n := pc) (a := 0) (b := 9)) ?_))))))))))
 rintro _ _ _ _ ⟨rfl, rfl, rfl⟩
 refine cX (jx rfl (qg (.bool (decide (¬(0 ≤ pc ∧ pc ≤ 9)))) rfl ?_))
 by_cases h1 : ¬(0 ≤ pc ∧ pc ≤ 9)
 ·refine qm (t := 10) rfl (vT h1) (qm (t := 10) rfl (vT h1) (qm (t := 10) rfl (vT h1) (qm (t := 10) rfl (vT h1) (qm (t := 10) rfl (vT h1) (cX (qT (.bool (true)) (vT h1) rfl (qb (jv rfl (qc (qa (qd (.bool (false)) rfl ?_)))))))))))
  refine qb (qp (qi (ql (L' := L) [.bool (false)] (.bool (false)) (.tmp rfl .nil) rfl rF rF (sD sR) ?_)))
  exact ⟨(vB (polyOk_no (fun h9 => by have h8 := h9.1; have h7 := h9.2.1; dsimp only at h8 h7; simp_all <;> omega))), rfl, rfl⟩
 refine qn (t := 10) rfl (vF h1) (qj (1) qt rfl qs (by decide) rfl rfl (qn (t := 10) rfl (vF h1) (qh qF rfl (Rd.own [] rfl rfl) (qn (t := 10) rfl (vF h1) (qB qf rfl hpf.slv (qn (t := 10) rfl (vF h1) (qo (ii (n)) rfl (qn (t := 10) rfl (vF h1) (XOp.neq rfl rfl (cX (qP (.bool (decide (((pf.length : Int) : Int) ≠ n))) (vF h1) rfl (qb ?_))))))))))))
 refine qw (p := ((pf.length : Int) : Int) ≠ n) rfl (fun h2 => ?_) (fun h2 => ?_)
 ·refine qc (qa (qd (.bool (false)) rfl (qb (qp (qi (ql (L' := L) [.bool (false)] (.bool (false)) (.tmp rfl .nil) rfl rF rF (sD sR) ?_))))))
  exact ⟨(vB (polyOk_no (fun h9 => by have h8 := h9.1; have h7 := h9.2.1; dsimp only at h8 h7; simp_all <;> omega))), rfl, rfl⟩
 refine qx (qc (qc (qa (qd (ii (0)) rfl (qb (qG (jd (α := Nat) (fun j => [(2, ptr b1 0), (5, ii ((j : Int)))]) (fun j => cellsH b1 [ii (pc), pfv] 128 :: L) (fun j F' => F = F' ∧ (j ≤ pf.length) ∧ (∀ i, i < j → 0 ≤ pf.getD i 0 ∧ pf.getD i 0 ≤ 9)) (fun j => pf.length - j) 0 ⟨rfl, rfl, ⟨⟩⟩ (sC sR) ⟨rfl, (by (try dsimp only) <;> omega), (fun i hi => absurd hi (by omega))⟩ ?_)))))))
 rintro j rE _ _ ⟨rfl, hj, hcf⟩
 show X _ _ _ _ (envs [(2, ptr b1 0), (5, ii ((j : Int)))] rE) _ (cellsH b1 [ii (pc), pfv] 128 :: L)
 refine qc (qc (qa (qg (ii ((j : Int))) rfl (cX (qj (1) qt rfl qs (by decide) rfl rfl (cX (qh qF rfl (Rd.own [] rfl rfl) (cX (qB qf rfl hpf.slv (cX (qK rfl rfl (qb ?_))))))))))))
 refine qw (p := (j : Int) < (pf.length : Int)) rfl (fun h3 => ?_) (fun h3 => ?_)
 ·refine qx (qc (qG (qc (qa (cX (qj (1) qt rfl qs (by decide) rfl rfl (cX (qh qF rfl (Rd.own [] rfl rfl) (qg (ii ((j : Int))) rfl (cX (qv j qf qy rfl rfl rfl hpf.slv (by omega) (Nat.mul_one _) (cX (qh qQ rfl (hpf.rd (by omega)) (cX (qq (args := [ii (pf.getD j 0), ii (0), ii (9)]) call109 rfl (l1In_spec (n := pf.getD j 0) (a := 0) (b := 9)) ?_)))))))))))))))
  rintro _ _ _ _ ⟨rfl, rfl, rfl⟩
  refine cX (jx rfl (qb ?_))
  refine qw (p := ¬(0 ≤ (pf.getD j 0) ∧ (pf.getD j 0) ≤ 9)) rfl (fun h4 => ?_) (fun h4 => ?_)
  ·refine qc (qa (qd (.bool (false)) rfl (qb (qp (qA (qi (qi (qA (qi (ql (L' := L) [.bool (false)] (.bool (false)) (.tmp rfl .nil) rfl rF rF (sD sR) ?_))))))))))
   exact ⟨(vB (polyOk_no (fun h9 => by have h8 := h9.2.2 j (by dsimp only; omega); dsimp only at h8; omega))), rfl, rfl⟩
  refine qx (qa (qg (ii ((j : Int))) rfl (cX (qN (((j + 1 : Nat) : Int)) rfl rfl (by omega) (by omega) (qd (ii (((j + 1 : Nat) : Int))) rfl (qb ?_))))))
  exact ⟨j + 1, _, FLe.refl _, rF, ⟨rfl, rfl, ⟨⟩⟩, (sC sR), ⟨rfl, (by (try dsimp only) <;> omega), (fun i hi => (Nat.lt_or_ge i j).elim (fun h => hcf i h) (fun h => by obtain rfl : i = j := (by omega); simp_all <;> omega))⟩, (by omega)⟩
 refine jb (qu (qu (qJ (qc (qa (qd (.bool (true)) rfl (qb (qp (ql (L' := L) [.bool (true)] (.bool (true)) (.tmp rfl .nil) rfl rF rF (sD sR) ?_)))))))))
 exact ⟨(vB (polyOk_iff.2 ⟨by dsimp only; simp_all <;> omega, by dsimp only; simp_all <;> omega, fun i hi => hcf i (by dsimp only at hi; omega)⟩)), rfl, rfl⟩

/- spec.PolysOk -/
theorem sPolysOk_spec {F : FH} {L : List HP} {arv : Value} {ar : List Int} (har : IntsF F arv ar) {psv : Value} {ps : List PolyT} (hps : PolysF F psv ps) (hlp : ps.length ≤ 4000000) (hpb : ∀ i, i < ps.length → (ps.getD i (0, [])).2.length ≤ 4000000) (hla : ar.length ≤ 4000000) :
    Does prog 339 [.agg #[arv], psv] F (L) (fun v F' L' => (.bool (polysOk ar ps) : Value) = v ∧ F = F' ∧ L = L') := by
 refine qC func339 rfl rfl rfl (qc (qa (cX (qI [arv] rfl rfl ?_))))
 intro b1
 refine qd (.bool (false)) rfl (qb (qc (qc (qa (cX (qr [arv] qZ qH rfl rfl (Rd.ownN [] rfl rfl) (cX (qq (args := [.agg #[arv]]) call120 rfl (sSigOk_spec har (hla := (by first | assumption | rfl | omega | simp))) ?_))))))))
 rintro _ _ _ _ ⟨rfl, rfl, rfl⟩
 refine cX (jg rfl (qg (.bool (!(sigOk ar))) rfl ?_))
 by_cases h1 : (!(sigOk ar)) = true
 ·refine qm (t := 9) rfl (vB h1) (qm (t := 9) rfl (vB h1) (qm (t := 9) rfl (vB h1) (qm (t := 9) rfl (vB h1) (qm (t := 9) rfl (vB h1) (qm (t := 9) rfl (vB h1) (cX (qT (.bool (true)) (vB h1) rfl (qb (jv rfl (qc (qa ?_)))))))))))
  refine qd (.bool (false)) rfl (qb (qp (qi (ql (L' := L) [.bool (false)] (.bool (false)) (.tmp rfl .nil) rfl rF rF (sD sR) ?_))))
  exact ⟨(vB (polys_no0 (fun h9 => by have h8 := h9.1; have h7 := h9.2; simp_all <;> omega))), rfl, rfl⟩
 rw [Bool.not_eq_true] at h1
 refine qn (t := 9) rfl (vB h1) (qo (psv) rfl (qn (t := 9) rfl (vB h1) (qB jh rfl hps.slv (qn (t := 9) rfl (vB h1) (qj (0) jl rfl qs (by decide) rfl rfl (qn (t := 9) rfl (vB h1) (qh qF rfl (Rd.own [] rfl rfl) (qn (t := 9) rfl (vB h1) (qB qf rfl har.slv (qn (t := 9) rfl (vB h1) (XOp.neq rfl rfl (cX (qP (.bool (decide (((ps.length : Int) : Int) ≠ (ar.length : Int)))) (vB h1) rfl (qb ?_))))))))))))))
 refine qw (p := ((ps.length : Int) : Int) ≠ (ar.length : Int)) rfl (fun h2 => ?_) (fun h2 => ?_)
 ·refine qc (qa (qd (.bool (false)) rfl (qb (qp (qi (ql (L' := L) [.bool (false)] (.bool (false)) (.tmp rfl .nil) rfl rF rF (sD sR) ?_))))))
  exact ⟨(vB (polys_no0 (fun h9 => by have h8 := h9.1; have h7 := h9.2; simp_all <;> omega))), rfl, rfl⟩
 refine qx (qc (qc (qa ?_)))
 have hpl9 : ps.length = ar.length := by simp_all <;> omega
 refine qd (ii (0)) rfl (qb (qG (jd (α := Nat) (fun k => [(1, psv), (2, ptr b1 0), (5, ii ((k : Int)))]) (fun k => cellsH b1 [arv] 36 :: L) (fun k F' => F = F' ∧ (k ≤ ps.length) ∧ (∀ i, i < k → polyOk (ar.getD i 0) (ps.getD i (0, [])) = true)) (fun k => ps.length - k) 0 ⟨rfl, rfl, rfl, ⟨⟩⟩ (sC sR) ⟨rfl, (by (try dsimp only) <;> omega), (fun i hi => absurd hi (by omega))⟩ ?_)))
 rintro k rE _ _ ⟨rfl, hk, hall⟩
 show X _ _ _ _ (envs [(1, psv), (2, ptr b1 0), (5, ii ((k : Int)))] rE) _ (cellsH b1 [arv] 36 :: L)
 have hpbk := hpb k
 refine qc (qc (qa (qg (ii ((k : Int))) rfl (qg (psv) rfl (cX (qB jh rfl hps.slv (cX (qK rfl rfl (qb ?_)))))))))
 refine qw (p := (k : Int) < (ps.length : Int)) rfl (fun h3 => ?_) (fun h3 => ?_)
 ·refine qx (qc (qG (qc ?_)))
  obtain ⟨a1, ha1, hrg1, hq1⟩ := hps.rd (i := k) (by omega)
  refine jB [cellsH b1 [arv] 36] L 9 [] [[], [], [0, 1], [2], [], [4], [], [5, 6], [7]] (phiL [qe psv, qe (ii ((k : Int)) : Value), qe (.pointer (some (elemA psv (k * 2)))), qe (.agg #[ii ((ps.getD k (0, [])).1), a1]), qe (ptr b1 0), qe arv, qe (ii ((k : Int)) : Value), qe (.pointer (some (elemA arv (k)))), qe (ii (ar.getD k 0))]) (ownL []) mixed rfl rfl (by kernel_rfl) ?_ ?_
  ·refine pD (fun W R z9 => ?_) ?_
   ·refine qk (qo (psv) rfl ?_)
    exact ⟨rfl, rfl, rfl⟩
   refine pD (fun W R z9 => ?_) ?_
   ·refine qk (qo (ii ((k : Int))) rfl ?_)
    exact ⟨rfl, rfl, rfl⟩
   refine pD (fun W R z9 => ?_) ?_
   ·rw [eS (l := [(0, _), (1, _)]) ⟨z9 0 rfl, z9 1 rfl, ⟨⟩⟩]
    refine qk (qv k jh qE rfl rfl rfl hps.slv (by omega) rfl ?_)
    exact ⟨rfl, rfl, rfl⟩
   refine pD (fun W R z9 => ?_) ?_
   ·rw [eS (l := [(2, _)]) ⟨z9 2 rfl, ⟨⟩⟩]
    refine qk (qr [ii ((ps.getD k (0, [])).1), a1] je qE rfl rfl (Rd.all (hrg1 _)) ?_)
    exact ⟨rfl, rfl, rfl⟩
   refine pD (fun W R z9 => ?_) ?_
   ·refine qk (qj (0) jl rfl qs (by decide) rfl rfl ?_)
    exact ⟨rfl, rfl, rfl⟩
   refine pD (fun W R z9 => ?_) ?_
   ·rw [eS (l := [(4, _)]) ⟨z9 4 rfl, ⟨⟩⟩]
    refine qk (qh qF rfl (Rd.own [] rfl rfl) ?_)
    exact ⟨rfl, rfl, rfl⟩
   refine pD (fun W R z9 => ?_) ?_
   ·refine qk (qo (ii ((k : Int))) rfl ?_)
    exact ⟨rfl, rfl, rfl⟩
   refine pD (fun W R z9 => ?_) ?_
   ·rw [eS (l := [(5, _), (6, _)]) ⟨z9 5 rfl, z9 6 rfl, ⟨⟩⟩]
    refine qk (qv k qf qy rfl rfl rfl har.slv (by omega) (Nat.mul_one _) ?_)
    exact ⟨rfl, rfl, rfl⟩
   refine pD (fun W R z9 => ?_) ?_
   ·rw [eS (l := [(7, _)]) ⟨z9 7 rfl, ⟨⟩⟩]
    refine qk (qh qQ rfl (har.rd (by omega)) ?_)
    exact ⟨rfl, rfl, rfl⟩
   exact stepsP.nil
  intro W hphi
  rw [eS (l := [(3, _), (8, _)]) ⟨(hphi 3 (by decide)), (hphi 8 (by decide)), ⟨⟩⟩]
  show XL _ _ _ _ _ _ _ (cellsH b1 [arv] 36 :: L)
  refine cX (qq (args := [.agg #[ii ((ps.getD k (0, [])).1), a1], ii (ar.getD k 0)]) call369 rfl (sl15Poly_spec (n := ar.getD k 0) ha1 (hlf := (by first | assumption | rfl | omega | simp))) ?_)
  rintro _ _ _ _ ⟨rfl, rfl, rfl⟩
  refine cX (jg rfl (qb ?_))
  refine jF (t := !(polyOk (ar.getD k 0) (((ps.getD k (0, [])).1), ((ps.getD k (0, [])).2)))) rfl (fun h4 => ?_) (fun h4 => ?_)
  ·refine qc (qa (qd (.bool (false)) rfl (qb (qp (qA (qi (qi (qA (qi (ql (L' := L) [.bool (false)] (.bool (false)) (.tmp rfl .nil) rfl rF rF (sD sR) ?_))))))))))
   exact ⟨(vB (polys_no (i := k) (by omega) (by simp_all))), rfl, rfl⟩
  refine qx (qa (qg (ii ((k : Int))) rfl (cX (qN (((k + 1 : Nat) : Int)) rfl rfl (by omega) (by omega) (qd (ii (((k + 1 : Nat) : Int))) rfl (qb ?_))))))
  exact ⟨k + 1, _, FLe.refl _, rF, ⟨rfl, rfl, rfl, ⟨⟩⟩, (sC sR), ⟨rfl, (by (try dsimp only) <;> omega), (fun i hi => (Nat.lt_or_ge i k).elim (fun h => hall i h) (fun h => by obtain rfl : i = k := (by omega); simp_all))⟩, (by omega)⟩
 refine jb (qu (qu (qJ (qc (qa (qd (.bool (true)) rfl (qb (qp (ql (L' := L) [.bool (true)] (.bool (true)) (.tmp rfl .nil) rfl rF rF (sD sR) ?_)))))))))
 exact ⟨(vB (polys_yes (by simp_all) (by omega) (fun i hi => hall i (by omega)))), rfl, rfl⟩

/- spec.l15Add -/
set_option maxRecDepth 20000 in
theorem sl15Add_spec {F : FH} {L : List HP} {ac : Int} {afv : Value} {af : List Int} (haf : IntsF F afv af) {bc : Int} {bfv : Value} {bf : List Int} (hbf : IntsF F bfv bf) {by9 : Int} (hA : InP 1000000000000 (ac, af)) (hB : InP 1000000000000 (bc, bf)) (hk : 0 ≤ by9 ∧ by9 ≤ 9) :
    Does prog 385 [.agg #[ii (ac), afv], .agg #[ii (bc), bfv], ii (by9)] F (L) (fun v F' L' => ∃ (a : Value), (.tuple #[.agg #[ii ((addX (ac, af) (bc, bf) by9).1.1), a], .bool ((addX (ac, af) (bc, bf) by9).2)] : Value) = v ∧ (IntsF F' a (addX (ac, af) (bc, bf) by9).1.2) ∧ L = L') := by
 refine qC func385 rfl rfl rfl ?_
 have hm0 : 0 ≤ by9 * bc ∧ by9 * bc ≤ 9 * 1000000000000 := mul_in hk hB.1
 have ha0 : 0 ≤ ac ∧ ac ≤ 1000000000000 := hA.1
 have hal9 : af.length ≤ 48 := hA.2.1
 have hbl9 : bf.length ≤ 48 := hB.2.1
 refine qc (qa (cX (qI [ii (ac), afv] rfl rfl ?_)))
 intro b1
 refine cX (qI [ii (bc), bfv] rfl rfl ?_)
 intro b2
 refine cX (qY [ii (0), sN] qX rfl ?_)
 intro b3
 refine qd (.bool (false)) rfl (qb (qc ?_))
 refine jB [cellsH b3 [ii (0), sN] 128, cellsH b2 [ii (bc), bfv] 128, cellsH b1 [ii (ac), afv] 128] L 13 [[], [], [], [], [], [], [], [], [], [], [], [10]] [[], [0], [], [], [3], [2, 4], [1, 5], [], [], [8], [7, 9], [6, 10]] (phiL [qe (ptr b1 0), qe (ii (ac)), qe (ii (by9)), qe (ptr b2 0), qe (ii (bc)), qe (ii (by9 * bc)), qe (ii (ac + (by9 * bc))), fun us v => ∃ b, v = .slice (some ⟨b, 0, none⟩) 0 0, qe (ptr b1 1), qe afv, fun us v => IsSl v, fun us v => v = (.agg #[ii (ac + (by9 * bc)), (us.getD 0 undef)]), fun us v => ∃ b, v = ptr b 0]) (ownL [o0, o0, o0, o0, o0, o0, o0, fun us v => [slH 2 1 v 0 []], o0, o0, fun us v => [intsH 2 (v) af], o0, fun us v => [cellsH (blk v) [ii (0), sN] 128]]) mixed rfl rfl (by kernel_rfl) ?_ ?_
 ·refine pD (fun W R z9 => ?_) ?_
  ·refine qk (qj (0) qt rfl qy (by decide) rfl rfl ?_)
   exact ⟨rfl, rfl, rfl⟩
  refine pD (fun W R z9 => ?_) ?_
  ·rw [eS (l := [(0, _)]) ⟨z9 0 rfl, ⟨⟩⟩]
   refine qk (qh qQ rfl (Rd.own [_, _] rfl rfl) ?_)
   exact ⟨rfl, rfl, rfl⟩
  refine pD (fun W R z9 => ?_) ?_
  ·refine qk (qo (ii (by9)) rfl ?_)
   exact ⟨rfl, rfl, rfl⟩
  refine pD (fun W R z9 => ?_) ?_
  ·refine qk (qj (0) qt rfl qy (by decide) rfl rfl ?_)
   exact ⟨rfl, rfl, rfl⟩
  refine pD (fun W R z9 => ?_) ?_
  ·rw [eS (l := [(3, _)]) ⟨z9 3 rfl, ⟨⟩⟩]
   refine qk (qh qQ rfl (Rd.own [_] rfl rfl) ?_)
   exact ⟨rfl, rfl, rfl⟩
  refine pD (fun W R z9 => ?_) ?_
  ·rw [eS (l := [(2, _), (4, _)]) ⟨z9 2 rfl, z9 4 rfl, ⟨⟩⟩]
   refine qk (XOp.mulR (by9 * bc) rfl rfl (by omega) (by omega) ?_)
   exact ⟨rfl, rfl, rfl⟩
  refine pD (fun W R z9 => ?_) ?_
  ·rw [eS (l := [(1, _), (5, _)]) ⟨z9 1 rfl, z9 5 rfl, ⟨⟩⟩]
   refine qk (qN (ac + (by9 * bc)) rfl rfl (by omega) (by omega) ?_)
   exact ⟨rfl, rfl, rfl⟩
  refine pD (fun W R z9 => ?_) ?_
  ·refine qk (ja (s := 1) [] [ii (0)] [] qf qy jr rfl (by decide) rfl CellsAre.nil rfl ?_)
   intro v2 hv2
   exact ⟨rfl, hv2, rfl⟩
  refine pD (fun W R z9 => ?_) ?_
  ·refine qk (qj (1) qt rfl qs (by decide) rfl rfl ?_)
   exact ⟨rfl, rfl, rfl⟩
  refine pD (fun W R z9 => ?_) ?_
  ·rw [eS (l := [(8, _)]) ⟨z9 8 rfl, ⟨⟩⟩]
   refine qk (qh qF rfl (Rd.own [_, _] rfl rfl) ?_)
   exact ⟨rfl, rfl, rfl⟩
  refine pD (fun W R z9 => ?_) ?_
  ·have f7 : ∃ b, (W 7) = .slice (some ⟨b, 0, none⟩) 0 0 := z9 7 rfl
   rw [eS (l := [(9, _)]) ⟨z9 9 rfl, ⟨⟩⟩]
   refine qk (XOp.appendE qf typeInfo2 rfl rfl rfl rfl rfl f7 haf (by (try simp only [List.length_append, List.length_nil, List.length_cons, List.length_singleton, List.length_take, List.length_drop]); omega) ?_)
   intro v3 hs1
   exact ⟨rfl, hs1, rfl⟩
  refine pD (fun W R z9 => ?_) ?_
  ·have f10 : IsSl (W 10) := z9 10 rfl
   rw [eS (l := [(6, _)]) ⟨z9 6 rfl, ⟨⟩⟩]
   refine qk (jA [ii (ac + (by9 * bc)), (W 10)] [ii (0), sN] [(0, 1), (1, 1)] [(0, [ii (ac + (by9 * bc))]), (1, [(W 10)])] qt qX rfl (.cons rfl qy (.cons rfl qs PlacesAre.nil)) rfl (.cons rfl (.cons (cells_one f10) CellsAre.nil)) ?_)
   exact ⟨rfl, rfl, rfl⟩
  refine pD (fun W R z9 => ?_) ?_
  ·refine qk (qY [ii (0), sN] qX rfl ?_)
   intro b5
   exact ⟨rfl, ⟨_, rfl⟩, rfl⟩
  exact stepsP.nil
 intro W hphi
 have f7 : ∃ b, (W 7) = .slice (some ⟨b, 0, none⟩) 0 0 := hphi 7 (by decide)
 have f10 : IsSl (W 10) := hphi 10 (by decide)
 have e11 : W 11 = (.agg #[ii (ac + (by9 * bc)), (W 10)] : Value) := hphi 11 (by decide)
 have f12 : ∃ b, (W 12) = ptr b 0 := hphi 12 (by decide)
 generalize hu7 : W 7 = u1 at f7
 generalize hu10 : W 10 = u2 at f10 e11
 generalize hu12 : W 12 = u3 at f12
 obtain ⟨b6, rfl⟩ := f12
 rw [eS (l := [(7, u1), (10, u2), (11, (.agg #[ii (ac + (by9 * bc)), u2])), (12, ptr b6 0)]) ⟨hu7, hu10, e11, hu12, ⟨⟩⟩]
 show XL _ _ _ _ _ _ _ (slH 2 1 u1 0 [] :: intsH 2 u2 af :: cellsH b6 [ii (0), sN] 128 :: cellsH b3 [ii (0), sN] 128 :: cellsH b2 [ii (bc), bfv] 128 :: cellsH b1 [ii (ac), afv] 128 :: L)
 refine cX (qL [_, _] _ [ii (ac + (by9 * bc)), u2] qE rfl rfl rfl (qz rfl (qz (qW f10) qS)) rfl rfl rfl (qb (qc (qc (qa (qd (ii (0)) rfl (qb (qG (jd (α := Nat × Value × List Int) (fun xQ => [(2, ii (by9)), (4, ptr b2 0), (6, ptr b3 0), (8, ptr b6 0), (9, ii (((xQ.1 : Nat) : Int)))]) (fun xQ => slH 2 1 u1 0 [] :: intsH 2 xQ.2.1 xQ.2.2 :: cellsH b6 [ii (ac + (by9 * bc)), xQ.2.1] 128 :: cellsH b3 [ii (0), sN] 128 :: cellsH b2 [ii (bc), bfv] 128 :: cellsH b1 [ii (ac), afv] 128 :: L) (fun xQ F' => F = F' ∧ (IsSl xQ.2.1) ∧ (xQ.2.2 = addC af (bf.take xQ.1) by9) ∧ (xQ.1 ≤ bf.length)) (fun xQ => bf.length - xQ.1) (0, u2, af) ⟨rfl, rfl, rfl, rfl, rfl, ⟨⟩⟩ (sC (sC (sC (sC (sC (sC sR)))))) ⟨rfl, (f10), (addC_nil), (Nat.zero_le _)⟩ ?_)))))))))
 rintro ⟨ix, ov, os⟩ rE _ _ ⟨rfl, hov, hos, hv⟩
 show X _ _ _ _ (envs [(2, ii (by9)), (4, ptr b2 0), (6, ptr b3 0), (8, ptr b6 0), (9, ii (((ix : Nat) : Int)))] rE) _ (slH 2 1 u1 0 [] :: intsH 2 ov os :: cellsH b6 [ii (ac + (by9 * bc)), ov] 128 :: cellsH b3 [ii (0), sN] 128 :: cellsH b2 [ii (bc), bfv] 128 :: cellsH b1 [ii (ac), afv] 128 :: L)
 dsimp only at hov hos hv
 have hin := addT_in hA hB hk ix
 simp only at hin
 rw [← hos] at hin
 have hil := hin.1
 have hig := hin.2
 have hm1 : 0 ≤ by9 * bf.getD ix 0 ∧ by9 * bf.getD ix 0 ≤ 9 * 1000000000000 := mul_in hk (hB.2.2 ix)
 have higv := hig ix
 have hbl := hB.2.1
 have hol9 : os.length = max af.length ix := by rw [hos, addT_len, Nat.min_eq_left (by omega)]
 have hap9 : (os ++ [0]).length = os.length + 1 := by simp
 have hgp9 : 0 ≤ (os ++ [0]).getD ix 0 ∧ (os ++ [0]).getD ix 0 ≤ 10000000000000 := snoc0_in hig (by omega) ix
 refine qc (qc (qa (qg (ii (((ix : Nat) : Int))) rfl (cX (qj (1) qt rfl qs (by decide) rfl rfl (cX (qh qF rfl (Rd.own [_, _, _, _] rfl rfl) (cX (qB qf rfl hbf.slv (cX (qK rfl rfl (qb ?_))))))))))))
 refine qw (p := (((ix : Nat) : Int) : Int) < (bf.length : Int)) rfl (fun h1 => ?_) (fun h1 => ?_)
 ·refine qx (qc (qG (qc (qc (qa (qg (ii (((ix : Nat) : Int))) rfl (cX (qj (1) qt rfl qs (by decide) rfl rfl (cX (qh qF rfl (Rd.own [_, _] rfl rfl) (cX (qB qf rfl (intsH.slv [_] rfl) (cX (XOp.geq rfl rfl (qb ?_)))))))))))))))
  refine qw (p := (((ix : Nat) : Int) : Int) ≥ (os.length : Int)) rfl (fun h2 => ?_) (fun h2 => ?_)
  ·refine qa (cX (qj (1) qt rfl qs (by decide) rfl rfl (cX (qh qF rfl (Rd.own [_, _] rfl rfl) (cX (ja (s := 1) [ii (0)] [ii (0)] [(0, [ii (0)])] qf qy jr rfl (by decide) rfl (.cons rfl CellsAre.nil) rfl ?_))))))
   intro v4 hv3
   refine cX (XOp.append1 (u := 0) [_, _] _ qf typeInfo2 rfl rfl rfl rfl rfl rfl (SlV.own [] rfl) (Rd.sl [] rfl rfl) (by (try simp only [List.length_append, List.length_nil, List.length_cons, List.length_singleton, List.length_take, List.length_drop]); omega) ?_)
   intro v5 hs2 hn1
   refine cX (qj (1) qt rfl qs (by decide) rfl rfl (cX (jt [_, _, _] _ [ii (ac + (by9 * bc)), v5] qs rfl rfl (qW hs2) rfl rfl rfl (qb ?_))))
   refine jB [slH 2 1 v4 1 [ii (0)], slH 2 1 u1 0 [], intsH 2 v5 (os ++ [0]), cellsH b6 [ii (ac + (by9 * bc)), v5] 128, cellsH b3 [ii (0), sN] 128, cellsH b2 [ii (bc), bfv] 128, cellsH b1 [ii (ac), afv] 128] L 16 [] [[], [0], [], [], [3], [], [4, 5], [6], [], [], [9], [], [10, 11], [12], [8, 13], [7, 14]] (phiL [qe (ptr b6 1), qe v5, qe (ii (((ix : Nat) : Int)) : Value), qe (ptr b6 1), qe v5, qe (ii (((ix : Nat) : Int)) : Value), qe (.pointer (some (elemA v5 (ix)))), qe (ii ((os ++ [0]).getD ix 0)), qe (ii (by9)), qe (ptr b2 1), qe bfv, qe (ii (((ix : Nat) : Int)) : Value), qe (.pointer (some (elemA bfv (ix)))), qe (ii (bf.getD ix 0)), qe (ii (by9 * (bf.getD ix 0))), qe (ii (((os ++ [0]).getD ix 0) + (by9 * (bf.getD ix 0))))]) (ownL []) mixed rfl rfl (by kernel_rfl) ?_ ?_
   ·refine pD (fun W R z9 => ?_) ?_
    ·refine qk (qj (1) qt rfl qs (by decide) rfl rfl ?_)
     exact ⟨rfl, rfl, rfl⟩
    refine pD (fun W R z9 => ?_) ?_
    ·rw [eS (l := [(0, _)]) ⟨z9 0 rfl, ⟨⟩⟩]
     refine qk (qh qF rfl (Rd.own [_, _, _] rfl rfl) ?_)
     exact ⟨rfl, rfl, rfl⟩
    refine pD (fun W R z9 => ?_) ?_
    ·refine qk (qo (ii (((ix : Nat) : Int))) rfl ?_)
     exact ⟨rfl, rfl, rfl⟩
    refine pD (fun W R z9 => ?_) ?_
    ·refine qk (qj (1) qt rfl qs (by decide) rfl rfl ?_)
     exact ⟨rfl, rfl, rfl⟩
    refine pD (fun W R z9 => ?_) ?_
    ·rw [eS (l := [(3, _)]) ⟨z9 3 rfl, ⟨⟩⟩]
     refine qk (qh qF rfl (Rd.own [_, _, _] rfl rfl) ?_)
     exact ⟨rfl, rfl, rfl⟩
    refine pD (fun W R z9 => ?_) ?_
    ·refine qk (qo (ii (((ix : Nat) : Int))) rfl ?_)
     exact ⟨rfl, rfl, rfl⟩
    refine pD (fun W R z9 => ?_) ?_
    ·rw [eS (l := [(4, _), (5, _)]) ⟨z9 4 rfl, z9 5 rfl, ⟨⟩⟩]
     refine qk (qv ix qf qy rfl rfl rfl (intsH.slv [_, _] rfl) (by omega) (Nat.mul_one _) ?_)
     exact ⟨rfl, rfl, rfl⟩
    refine pD (fun W R z9 => ?_) ?_
    ·rw [eS (l := [(6, _)]) ⟨z9 6 rfl, ⟨⟩⟩]
     refine qk (qh qQ rfl (intsH.rd [_, _] rfl (by omega)) ?_)
     exact ⟨rfl, rfl, rfl⟩
    refine pD (fun W R z9 => ?_) ?_
    ·refine qk (qo (ii (by9)) rfl ?_)
     exact ⟨rfl, rfl, rfl⟩
    refine pD (fun W R z9 => ?_) ?_
    ·refine qk (qj (1) qt rfl qs (by decide) rfl rfl ?_)
     exact ⟨rfl, rfl, rfl⟩
    refine pD (fun W R z9 => ?_) ?_
    ·rw [eS (l := [(9, _)]) ⟨z9 9 rfl, ⟨⟩⟩]
     refine qk (qh qF rfl (Rd.own [_, _, _, _, _] rfl rfl) ?_)
     exact ⟨rfl, rfl, rfl⟩
    refine pD (fun W R z9 => ?_) ?_
    ·refine qk (qo (ii (((ix : Nat) : Int))) rfl ?_)
     exact ⟨rfl, rfl, rfl⟩
    refine pD (fun W R z9 => ?_) ?_
    ·rw [eS (l := [(10, _), (11, _)]) ⟨z9 10 rfl, z9 11 rfl, ⟨⟩⟩]
     refine qk (qv ix qf qy rfl rfl rfl hbf.slv (by omega) (Nat.mul_one _) ?_)
     exact ⟨rfl, rfl, rfl⟩
    refine pD (fun W R z9 => ?_) ?_
    ·rw [eS (l := [(12, _)]) ⟨z9 12 rfl, ⟨⟩⟩]
     refine qk (qh qQ rfl (hbf.rd (by omega)) ?_)
     exact ⟨rfl, rfl, rfl⟩
    refine pD (fun W R z9 => ?_) ?_
    ·rw [eS (l := [(8, _), (13, _)]) ⟨z9 8 rfl, z9 13 rfl, ⟨⟩⟩]
     refine qk (XOp.mulR (by9 * (bf.getD ix 0)) rfl rfl (by omega) (by omega) ?_)
     exact ⟨rfl, rfl, rfl⟩
    refine pD (fun W R z9 => ?_) ?_
    ·rw [eS (l := [(7, _), (14, _)]) ⟨z9 7 rfl, z9 14 rfl, ⟨⟩⟩]
     refine qk (qN (((os ++ [0]).getD ix 0) + (by9 * (bf.getD ix 0))) rfl rfl (by omega) (by omega) ?_)
     exact ⟨rfl, rfl, rfl⟩
    exact stepsP.nil
   intro W hphi
   rw [eS (l := [(1, _), (2, _), (15, _)]) ⟨(hphi 1 (by decide)), (hphi 2 (by decide)), (hphi 15 (by decide)), ⟨⟩⟩]
   show XL _ _ _ _ _ _ _ (slH 2 1 v4 1 [ii (0)] :: slH 2 1 u1 0 [] :: intsH 2 v5 (os ++ [0]) :: cellsH b6 [ii (ac + (by9 * bc)), v5] 128 :: cellsH b3 [ii (0), sN] 128 :: cellsH b2 [ii (bc), bfv] 128 :: cellsH b1 [ii (ac), afv] 128 :: L)
   refine cX (qv ix qf qy rfl rfl rfl (intsH.slv [_, _] rfl) (by omega) (Nat.mul_one _) (cX (intsH.storeX (i := ix) (v := v5) [_, _] _ ((os ++ [0]).set ix (((os ++ [0]).getD ix 0) + (by9 * (bf.getD ix 0)))) qy rfl rfl rfl (by first | omega | (simp; omega)) rfl (qb (qa (qg (ii (((ix : Nat) : Int))) rfl (cX (qN (((ix + 1 : Nat) : Int)) rfl rfl (by omega) (by omega) (qd (ii (((ix + 1 : Nat) : Int))) rfl (qb ?_))))))))))
   exact ⟨(ix + 1, v5, ((os ++ [0] : List Int).set ix (((os ++ [0] : List Int).getD ix 0) + (by9 * (bf.getD ix 0))))), _, FLe.refl _, rF, ⟨rfl, rfl, rfl, rfl, rfl, ⟨⟩⟩, (sD (sC (sC (sC (sC (sC (sC sR))))))), ⟨rfl, (hs2), (by (try dsimp only); subst hos; first | exact addT_step (by omega) (by omega) | exact addT_push (by omega) (by omega)), (by (try dsimp only) <;> omega)⟩, (by omega)⟩
  refine qx ?_
  refine jB [slH 2 1 u1 0 [], intsH 2 ov os, cellsH b6 [ii (ac + (by9 * bc)), ov] 128, cellsH b3 [ii (0), sN] 128, cellsH b2 [ii (bc), bfv] 128, cellsH b1 [ii (ac), afv] 128] L 16 [] [[], [0], [], [], [3], [], [4, 5], [6], [], [], [9], [], [10, 11], [12], [8, 13], [7, 14]] (phiL [qe (ptr b6 1), qe ov, qe (ii (((ix : Nat) : Int)) : Value), qe (ptr b6 1), qe ov, qe (ii (((ix : Nat) : Int)) : Value), qe (.pointer (some (elemA ov (ix)))), qe (ii (os.getD ix 0)), qe (ii (by9)), qe (ptr b2 1), qe bfv, qe (ii (((ix : Nat) : Int)) : Value), qe (.pointer (some (elemA bfv (ix)))), qe (ii (bf.getD ix 0)), qe (ii (by9 * (bf.getD ix 0))), qe (ii ((os.getD ix 0) + (by9 * (bf.getD ix 0))))]) (ownL []) mixed rfl rfl (by kernel_rfl) ?_ ?_
  ·refine pD (fun W R z9 => ?_) ?_
   ·refine qk (qj (1) qt rfl qs (by decide) rfl rfl ?_)
    exact ⟨rfl, rfl, rfl⟩
   refine pD (fun W R z9 => ?_) ?_
   ·rw [eS (l := [(0, _)]) ⟨z9 0 rfl, ⟨⟩⟩]
    refine qk (qh qF rfl (Rd.own [_, _] rfl rfl) ?_)
    exact ⟨rfl, rfl, rfl⟩
   refine pD (fun W R z9 => ?_) ?_
   ·refine qk (qo (ii (((ix : Nat) : Int))) rfl ?_)
    exact ⟨rfl, rfl, rfl⟩
   refine pD (fun W R z9 => ?_) ?_
   ·refine qk (qj (1) qt rfl qs (by decide) rfl rfl ?_)
    exact ⟨rfl, rfl, rfl⟩
   refine pD (fun W R z9 => ?_) ?_
   ·rw [eS (l := [(3, _)]) ⟨z9 3 rfl, ⟨⟩⟩]
    refine qk (qh qF rfl (Rd.own [_, _] rfl rfl) ?_)
    exact ⟨rfl, rfl, rfl⟩
   refine pD (fun W R z9 => ?_) ?_
   ·refine qk (qo (ii (((ix : Nat) : Int))) rfl ?_)
    exact ⟨rfl, rfl, rfl⟩
   refine pD (fun W R z9 => ?_) ?_
   ·rw [eS (l := [(4, _), (5, _)]) ⟨z9 4 rfl, z9 5 rfl, ⟨⟩⟩]
    refine qk (qv ix qf qy rfl rfl rfl (intsH.slv [_] rfl) (by omega) (Nat.mul_one _) ?_)
    exact ⟨rfl, rfl, rfl⟩
   refine pD (fun W R z9 => ?_) ?_
   ·rw [eS (l := [(6, _)]) ⟨z9 6 rfl, ⟨⟩⟩]
    refine qk (qh qQ rfl (intsH.rd [_] rfl (by omega)) ?_)
    exact ⟨rfl, rfl, rfl⟩
   refine pD (fun W R z9 => ?_) ?_
   ·refine qk (qo (ii (by9)) rfl ?_)
    exact ⟨rfl, rfl, rfl⟩
   refine pD (fun W R z9 => ?_) ?_
   ·refine qk (qj (1) qt rfl qs (by decide) rfl rfl ?_)
    exact ⟨rfl, rfl, rfl⟩
   refine pD (fun W R z9 => ?_) ?_
   ·rw [eS (l := [(9, _)]) ⟨z9 9 rfl, ⟨⟩⟩]
    refine qk (qh qF rfl (Rd.own [_, _, _, _] rfl rfl) ?_)
    exact ⟨rfl, rfl, rfl⟩
   refine pD (fun W R z9 => ?_) ?_
   ·refine qk (qo (ii (((ix : Nat) : Int))) rfl ?_)
    exact ⟨rfl, rfl, rfl⟩
   refine pD (fun W R z9 => ?_) ?_
   ·rw [eS (l := [(10, _), (11, _)]) ⟨z9 10 rfl, z9 11 rfl, ⟨⟩⟩]
    refine qk (qv ix qf qy rfl rfl rfl hbf.slv (by omega) (Nat.mul_one _) ?_)
    exact ⟨rfl, rfl, rfl⟩
   refine pD (fun W R z9 => ?_) ?_
   ·rw [eS (l := [(12, _)]) ⟨z9 12 rfl, ⟨⟩⟩]
    refine qk (qh qQ rfl (hbf.rd (by omega)) ?_)
    exact ⟨rfl, rfl, rfl⟩
   refine pD (fun W R z9 => ?_) ?_
   ·rw [eS (l := [(8, _), (13, _)]) ⟨z9 8 rfl, z9 13 rfl, ⟨⟩⟩]
    refine qk (XOp.mulR (by9 * (bf.getD ix 0)) rfl rfl (by omega) (by omega) ?_)
    exact ⟨rfl, rfl, rfl⟩
   refine pD (fun W R z9 => ?_) ?_
   ·rw [eS (l := [(7, _), (14, _)]) ⟨z9 7 rfl, z9 14 rfl, ⟨⟩⟩]
    refine qk (qN ((os.getD ix 0) + (by9 * (bf.getD ix 0))) rfl rfl (by omega) (by omega) ?_)
    exact ⟨rfl, rfl, rfl⟩
   exact stepsP.nil
  intro W hphi
  rw [eS (l := [(1, _), (2, _), (15, _)]) ⟨(hphi 1 (by decide)), (hphi 2 (by decide)), (hphi 15 (by decide)), ⟨⟩⟩]
  show XL _ _ _ _ _ _ _ (slH 2 1 u1 0 [] :: intsH 2 ov os :: cellsH b6 [ii (ac + (by9 * bc)), ov] 128 :: cellsH b3 [ii (0), sN] 128 :: cellsH b2 [ii (bc), bfv] 128 :: cellsH b1 [ii (ac), afv] 128 :: L)
  refine cX (qv ix qf qy rfl rfl rfl (intsH.slv [_] rfl) (by omega) (Nat.mul_one _) (cX (intsH.storeX (i := ix) (v := ov) [_] _ (os.set ix ((os.getD ix 0) + (by9 * (bf.getD ix 0)))) qy rfl rfl rfl (by first | omega | (simp; omega)) rfl (qb (qa (qg (ii (((ix : Nat) : Int))) rfl (cX (qN (((ix + 1 : Nat) : Int)) rfl rfl (by omega) (by omega) (qd (ii (((ix + 1 : Nat) : Int))) rfl (qb ?_))))))))))
  exact ⟨(ix + 1, ov, (os.set ix ((os.getD ix 0) + (by9 * (bf.getD ix 0))))), _, FLe.refl _, rF, ⟨rfl, rfl, rfl, rfl, rfl, ⟨⟩⟩, (sC (sC (sC (sC (sC (sC sR)))))), ⟨rfl, (hov), (by (try dsimp only); subst hos; first | exact addT_step (by omega) (by omega) | exact addT_push (by omega) (by omega)), (by (try dsimp only) <;> omega)⟩, (by omega)⟩
 refine jb (qu (qu (qJ (qc (qc (qa (qd (ii (0)) rfl (qb (qG (jd (α := Nat) (fun q => [(6, ptr b3 0), (8, ptr b6 0), (10, ii ((q : Int)))]) (fun q => slH 2 1 u1 0 [] :: intsH 2 ov os :: cellsH b6 [ii (ac + (by9 * bc)), ov] 128 :: cellsH b3 [ii (0), sN] 128 :: cellsH b2 [ii (bc), bfv] 128 :: cellsH b1 [ii (ac), afv] 128 :: L) (fun q F' => F = F' ∧ (q ≤ os.length) ∧ (∀ i, i < q → os.getD i 0 ≤ 1000000000000)) (fun q => os.length - q) 0 ⟨rfl, rfl, rfl, ⟨⟩⟩ (sC (sC (sC (sC (sC (sC sR)))))) ⟨rfl, (Nat.zero_le _), (fun i hi => absurd hi (by omega))⟩ ?_))))))))))
 rintro q rE _ _ ⟨rfl, hq, hsm⟩
 show X _ _ _ _ (envs [(6, ptr b3 0), (8, ptr b6 0), (10, ii ((q : Int)))] rE) _ (slH 2 1 u1 0 [] :: intsH 2 ov os :: cellsH b6 [ii (ac + (by9 * bc)), ov] 128 :: cellsH b3 [ii (0), sN] 128 :: cellsH b2 [ii (bc), bfv] 128 :: cellsH b1 [ii (ac), afv] 128 :: L)
 have hqv := hig q
 refine qc (qc (qa (qg (ii ((q : Int))) rfl (cX (qj (1) qt rfl qs (by decide) rfl rfl (cX (qh qF rfl (Rd.own [_, _] rfl rfl) (cX (qB qf rfl (intsH.slv [_] rfl) (cX (qK rfl rfl (qb ?_))))))))))))
 refine qw (p := (q : Int) < (os.length : Int)) rfl (fun h3 => ?_) (fun h3 => ?_)
 ·refine qx (qc (qG (qc (qa (cX (qj (1) qt rfl qs (by decide) rfl rfl (cX (qh qF rfl (Rd.own [_, _] rfl rfl) (qg (ii ((q : Int))) rfl (cX (qv q qf qy rfl rfl rfl (intsH.slv [_] rfl) (by omega) (Nat.mul_one _) (cX (qh qQ rfl (intsH.rd [_] rfl (by omega)) (cX (jn rfl rfl (qb ?_))))))))))))))))
  refine qw (p := (os.getD q 0 : Int) > 1000000000000) rfl (fun h4 => ?_) (fun h4 => ?_)
  ·refine qc (qa (cX (jA [ii (0), sN] [ii (0), sN] [(0, 1), (1, 1)] [] qt qX rfl (.cons rfl qy (.cons rfl qs PlacesAre.nil)) rfl CellsAre.nil (cX (qL [_, _, _] _ [ii (0), sN] qE rfl rfl rfl (qz rfl (qz rfl qS)) rfl rfl rfl (qd (.bool (false)) rfl (qb (qp (qA (qi (qi (qA (qi (ql (L' := L) [.agg #[ii (0), sN], .bool (false)] (.tuple #[.agg #[ii (0), sN], .bool (false)]) (.cell rfl (jq [ii (0), sN] je qE rfl (Rd.ownN [_, _, _] rfl rfl)) (.tmp rfl .nil)) rfl rF rF (sD (sD (sD (sD (sD (sD sR)))))) ?_))))))))))))))
   have hoa : os = addC af bf by9 := by rw [hos]; exact addC_whole (by omega)
   rw [addX_no (by show bigC (addC af bf by9) = true; rw [← hoa]; exact bigC_at (i := q) (by omega) (by omega))]
   exact ⟨_, rfl, IntsF.nilV, rfl⟩
  refine qx (qa (qg (ii ((q : Int))) rfl (cX (qN (((q + 1 : Nat) : Int)) rfl rfl (by omega) (by omega) (qd (ii (((q + 1 : Nat) : Int))) rfl (qb ?_))))))
  exact ⟨q + 1, _, FLe.refl _, rF, ⟨rfl, rfl, rfl, ⟨⟩⟩, (sC (sC (sC (sC (sC (sC sR)))))), ⟨rfl, (by (try dsimp only) <;> omega), (fun i hi => (Nat.lt_or_ge i q).elim (fun h => hsm i h) (fun h => by obtain rfl : i = q := (by omega); omega))⟩, (by omega)⟩
 refine jb (qu (qu (qJ (qc (X.weaken (Sub.front (A := [_, _, _])) ?_)))))
 show X _ _ _ _ _ _ (cellsH b3 [ii (0), sN] 128 :: slH 2 1 u1 0 [] :: intsH 2 ov os :: cellsH b6 [ii (ac + (by9 * bc)), ov] 128 :: cellsH b2 [ii (bc), bfv] 128 :: cellsH b1 [ii (ac), afv] 128 :: L)
 refine X.drawH [slH 2 1 u1 0 [], intsH 2 ov os, cellsH b6 [ii (ac + (by9 * bc)), ov] 128, cellsH b2 [ii (bc), bfv] 128, cellsH b1 [ii (ac), afv] 128] L 5 [] [[], [], [1], [2], [0]] [] (phiG [pe (.agg #[ii (ac + (by9 * bc)), ov]), pe (ptr b6 0), pe (ii (ac + (by9 * bc))), pe (.bool (decide ((ac + (by9 * bc) : Int) ≤ 1000000000000)) : Value), fun FF us v => True]) (ownL [o0, o0, o0, o0, fun us v => [cellsH b3 [ii (ac + (by9 * bc)), ov] 128]]) (fun i => ([[], [], [], [], [cellsH b3 [ii (0), sN] 128]] : List (List HP)).getD i []) mixed rfl rfl (by kernel_rfl) (by kernel_rfl) (MonoG.get (m1 (m1 (m1 (m1 (mC (fun le h => h) MonoG.nil)))))) ?_ ?_
 ·refine tD (fun W Fs R lF z9 => ?_) ?_
  ·replace haf := haf.mono lF
   refine qk (qr [ii (ac + (by9 * bc)), ov] je qE rfl rfl (Rd.ownN [_, _] rfl rfl) ?_)
   exact ⟨rfl, rfl⟩
  refine tD (fun W Fs R lF z9 => ?_) ?_
  ·refine qk (qj (0) qt rfl qy (by decide) rfl rfl ?_)
   exact ⟨rfl, rfl⟩
  refine tD (fun W Fs R lF z9 => ?_) ?_
  ·replace haf := haf.mono lF
   rw [eS (l := [(1, _)]) ⟨z9 1 rfl, ⟨⟩⟩]
   refine qk (qh qQ rfl (Rd.own [_, _] rfl rfl) ?_)
   exact ⟨rfl, rfl⟩
  refine tD (fun W Fs R lF z9 => ?_) ?_
  ·rw [eS (l := [(2, _)]) ⟨z9 2 rfl, ⟨⟩⟩]
   refine qk (XOp.leq rfl rfl ?_)
   exact ⟨rfl, rfl⟩
  refine tD (fun W Fs R lF z9 => ?_) ?_
  ·replace haf := haf.mono lF
   rw [eS (l := [(0, _)]) ⟨z9 0 rfl, ⟨⟩⟩]
   show XG _ _ _ _ _ (cellsH b3 [ii (0), sN] 128 :: ([slH 2 1 u1 0 [], intsH 2 ov os, cellsH b6 [ii (ac + (by9 * bc)), ov] 128, cellsH b2 [ii (bc), bfv] 128, cellsH b1 [ii (ac), afv] 128] ++ R)) _
   refine qk (qL [] _ [ii (ac + (by9 * bc)), ov] qE rfl rfl rfl (qz rfl (qz (qW hov) qS)) rfl rfl rfl ?_)
   exact ⟨trivial, rfl⟩
  exact stepsT.nil
 intro W F1 le1 hphi
 rw [eS (l := [(3, _)]) ⟨(hphi 3 (by decide)), ⟨⟩⟩]
 show XL _ _ _ _ _ _ _ (cellsH b3 [ii (ac + (by9 * bc)), ov] 128 :: slH 2 1 u1 0 [] :: intsH 2 ov os :: cellsH b6 [ii (ac + (by9 * bc)), ov] 128 :: cellsH b2 [ii (bc), bfv] 128 :: cellsH b1 [ii (ac), afv] 128 :: L)
 refine qd (.bool (decide ((ac + (by9 * bc) : Int) ≤ 1000000000000))) rfl (qb (ju [_, _] _ _ rfl (fun F2 le2 hz1 => ?_)))
 have hf1 : IntsF F2 ov os := intsH.fz (xs := os) hz1.fz
 refine qp (ql (L' := L) [.agg #[ii (ac + (by9 * bc)), ov], .bool (decide ((ac + (by9 * bc) : Int) ≤ 1000000000000))] (.tuple #[.agg #[ii (ac + (by9 * bc)), ov], .bool (decide ((ac + (by9 * bc) : Int) ≤ 1000000000000))]) (.cell rfl (jq [ii (ac + (by9 * bc)), ov] je qE rfl (Rd.ownN [] rfl rfl)) (.tmp rfl .nil)) rfl (qD le1 le2) rF (sD (sD (sD (sD (sD sR))))) ?_)
 have hoa : os = addC af bf by9 := by rw [hos]; exact addC_whole (by omega)
 rw [addX_yes (by show bigC (addC af bf by9) = false; rw [← hoa]; exact bigC_small (fun i hi => hsm i (by omega)))]
 dsimp only
 rw [← hoa]
 exact ⟨_, rfl, hf1, rfl⟩

/- spec.l15Sum -/
set_option maxHeartbeats 2000000 in
set_option maxRecDepth 20000 in
theorem sl15Sum_spec_step {d : Nat} (ih : ∀ m : Nat, m < d → ∀ {F : FH} {L : List HP}  {arv : Value} {ar : List Int} (har : IntsF F arv ar) {psv : Value} {ps : List PolyT} (hps : PolysF F psv ps) {tv : Value} {t : List Int} (ht : IntsF F tv t) (hpk : polysOk ar ps = true) (ho : TermW ar t) (hd : m = t.length), Does prog 341 [.agg #[arv], psv, tv] F L (fun v F' L' => (∃ (a : Value), (.tuple #[.agg #[ii (((formL ar ps t).getD (0, [])).1), a], .bool ((formL ar ps t).isSome)] : Value) = v ∧ (IntsF F' a ((formL ar ps t).getD (0, [])).2)) ∧ L = L')) {F : FH} {L : List HP}  {arv : Value} {ar : List Int} (har : IntsF F arv ar) {psv : Value} {ps : List PolyT} (hps : PolysF F psv ps) {pc : Int} {pfv : Value} {pf : List Int} (hpf : IntsF F pfv pf) {lv : Value} {l : List (List Int)} (hl : RowsF F lv l) (hpk : polysOk ar ps = true) (hok : ∀ q ∈ l, TermW ar q) (hC : InC (pc, pf)) (hlf : pf.length = l.length) (hl3 : l.length ≤ 3) (hd : d = l.flatten.length + 1) :
    Does prog 370 [.agg #[arv], psv, .agg #[ii (pc), pfv], lv] F (L) (fun v F' L' => (∃ (a : Value), (.tuple #[.agg #[ii (((sumO ar ps (pc, pf) l).getD (0, [])).1), a], .bool ((sumO ar ps (pc, pf) l).isSome)] : Value) = v ∧ (IntsF F' a ((sumO ar ps (pc, pf) l).getD (0, [])).2)) ∧ L = L') := by
 refine qC func370 rfl rfl rfl (qc (qa (cX (qI [arv] rfl rfl ?_))))
 intro b1
 refine cX (qI [ii (pc), pfv] rfl rfl ?_)
 intro b2
 refine cX (qY [ii (0), sN] qX rfl ?_)
 intro b3
 refine qd (.bool (false)) rfl (qb (qc (qa (cX (qj (0) qt rfl qy (by decide) rfl rfl (cX (qh qQ rfl (Rd.own [_] rfl rfl) (cX (jA [ii (pc), sN] [ii (0), sN] [(0, 1), (1, 1)] [(0, [ii (pc)])] qt qX rfl (.cons rfl qy (.cons rfl qs PlacesAre.nil)) rfl (.cons rfl CellsAre.nil) (cX (qY [ii (0), sN] qX rfl ?_)))))))))))
 intro b4
 refine cX (qL [] _ [ii (pc), sN] qE rfl rfl rfl (qz rfl (qz rfl qS)) rfl rfl rfl (qb (qc (qc (qa (qd (ii (0)) rfl (qb (qG (jd (α := Nat × Int × Value × List Int × FH) (fun xQ => [(1, psv), (3, lv), (4, ptr b1 0), (6, ptr b2 0), (8, ptr b3 0), (10, ptr b4 0), (11, ii (((xQ.1 : Nat) : Int)))]) (fun xQ => cellsH b4 [ii (xQ.2.1), xQ.2.2.1] 128 :: cellsH b3 [ii (0), sN] 128 :: cellsH b2 [ii (pc), pfv] 128 :: cellsH b1 [arv] 36 :: L) (fun xQ F' => xQ.2.2.2.2 = F' ∧ F ≤ xQ.2.2.2.2 ∧ (IntsF xQ.2.2.2.2 xQ.2.2.1 xQ.2.2.2.1) ∧ (xQ.1 ≤ l.length) ∧ (rawP (pc, pf) (formsL ar ps l) xQ.1 = (xQ.2.1, xQ.2.2.2.1)) ∧ (InP 1000000000000 (xQ.2.1, xQ.2.2.2.1)) ∧ (∀ i, i < xQ.1 → (formL ar ps (l.getD i [])).isSome = true)) (fun xQ => l.length - xQ.1) (0, pc, sN, [], F) ⟨rfl, rfl, rfl, rfl, rfl, rfl, rfl, ⟨⟩⟩ (sC (sC (sC (sC sR)))) ⟨rfl, FLe.refl _, (IntsF.nilV), (Nat.zero_le _), (rfl), (InP.start (x := (pc, [])) (by have := hC.1; dsimp only at this ⊢; omega)), (fun i hi => absurd hi (by omega))⟩ ?_)))))))))
 rintro ⟨k, c, ov, os, G1⟩ rE _ _ ⟨rfl, leG, hov, hk, hrw, hIP, hall⟩
 show X _ _ _ _ (envs [(1, psv), (3, lv), (4, ptr b1 0), (6, ptr b2 0), (8, ptr b3 0), (10, ptr b4 0), (11, ii ((k : Int)))] rE) _ (cellsH b4 [ii (c), ov] 128 :: cellsH b3 [ii (0), sN] 128 :: cellsH b2 [ii (pc), pfv] 128 :: cellsH b1 [arv] 36 :: L)
 replace leG : F ≤ G1 := leG
 dsimp only at hov hk hrw hIP hall
 have hokk := fun h : k < l.length => hok _ (mem_getD9 h)
 have hflk := fun h : k < l.length => part_flen (l := l) (j := k) h
 have leG1 := leG
 replace har := har.mono leG1
 replace hps := hps.mono leG1
 replace hpf := hpf.mono leG1
 replace hl := hl.mono leG1
 refine qc (qc (qa (qg (ii ((k : Int))) rfl (qg (lv) rfl (cX (qB qR rfl hl.slv (cX (qK rfl rfl (qb ?_)))))))))
 refine qw (p := (k : Int) < (l.length : Int)) rfl (fun h1 => ?_) (fun h1 => ?_)
 ·refine qx (qc (qG (qc ?_)))
  obtain ⟨a1, ha1, hr1⟩ := hl.rd (i := k) (by omega)
  refine X.drawG [cellsH b4 [ii (c), ov] 128, cellsH b3 [ii (0), sN] 128, cellsH b2 [ii (pc), pfv] 128, cellsH b1 [arv] 36] L 12 [[], [], [], [], [], [], [], [6], [6], [], [], [6, 10]] [[], [], [], [], [2, 3], [4], [0, 1, 5], [6], [6, 7], [6, 7], [], [6, 8, 10]] [[], [], [], [], [], [], [], [], [], [], [], [10]] (phiG [pe (.agg #[arv]), pe psv, pe lv, pe (ii ((k : Int)) : Value), pe (.pointer (some (elemA lv (k)))), pe a1, fun FF us v => (.tuple #[.agg #[ii (((formL ar ps ((l.getD k []))).getD (0, [])).1), ((aggAt (tupAt v 0) 1))], .bool ((formL ar ps ((l.getD k []))).isSome)] : Value) = v ∧ (IntsF FF ((aggAt (tupAt v 0) 1)) ((formL ar ps ((l.getD k []))).getD (0, [])).2), fun FF us v => v = (.tuple #[.agg #[ii (((formL ar ps ((l.getD k []))).getD (0, [])).1), ((aggAt (tupAt (us.getD 0 undef) 0) 1))], .bool ((formL ar ps ((l.getD k []))).isSome)] : Value), fun FF us v => v = (.agg #[ii (((formL ar ps ((l.getD k []))).getD (0, [])).1), ((aggAt (tupAt (us.getD 0 undef) 0) 1))] : Value), pe (.bool ((formL ar ps ((l.getD k []))).isSome)), fun FF us v => v = ptr (blk v) 0, fun FF us v => True]) (ownL [o0, o0, o0, o0, o0, o0, o0, o0, o0, o0, fun us v => [cellsH (blk v) [ii (0), sN] 128], fun us v => [cellsH (blk (us.getD 1 undef)) [ii (((formL ar ps ((l.getD k []))).getD (0, [])).1), ((aggAt (tupAt (us.getD 0 undef) 0) 1))] 128]]) mixed rfl rfl (by kernel_rfl) (by kernel_rfl) (MonoG.get (m1 (m1 (m1 (m1 (m1 (m1 (mC (fun le h => ⟨h.1, h.2.mono le⟩) (mC (fun le h => h) (mC (fun le h => h) (m1 (mC (fun le h => h) (mC (fun le h => h) MonoG.nil))))))))))))) ?_ ?_
  ·refine gD (fun W Fs R lF z9 => ?_) ?_
   ·replace har := har.mono lF
    replace hps := hps.mono lF
    replace hpf := hpf.mono lF
    replace hl := hl.mono lF
    replace hov := hov.mono lF
    replace ha1 := ha1.mono lF
    replace hr1 := Rd.monoA hr1 lF
    refine qk (qr [arv] qZ qH rfl rfl (Rd.ownN [_, _, _] rfl rfl) ?_)
    exact ⟨rfl, rfl⟩
   refine gD (fun W Fs R lF z9 => ?_) ?_
   ·refine qk (qo (psv) rfl ?_)
    exact ⟨rfl, rfl⟩
   refine gD (fun W Fs R lF z9 => ?_) ?_
   ·refine qk (qo (lv) rfl ?_)
    exact ⟨rfl, rfl⟩
   refine gD (fun W Fs R lF z9 => ?_) ?_
   ·refine qk (qo (ii ((k : Int))) rfl ?_)
    exact ⟨rfl, rfl⟩
   refine gD (fun W Fs R lF z9 => ?_) ?_
   ·replace har := har.mono lF
    replace hps := hps.mono lF
    replace hpf := hpf.mono lF
    replace hl := hl.mono lF
    replace hov := hov.mono lF
    replace ha1 := ha1.mono lF
    replace hr1 := Rd.monoA hr1 lF
    rw [eS (l := [(2, _), (3, _)]) ⟨z9 2 rfl, z9 3 rfl, ⟨⟩⟩]
    refine qk (qv k qR qs rfl rfl rfl hl.slv (by omega) (Nat.mul_one _) ?_)
    exact ⟨rfl, rfl⟩
   refine gD (fun W Fs R lF z9 => ?_) ?_
   ·replace har := har.mono lF
    replace hps := hps.mono lF
    replace hpf := hpf.mono lF
    replace hov := hov.mono lF
    replace ha1 := ha1.mono lF
    replace hr1 := Rd.monoA hr1 lF
    rw [eS (l := [(4, _)]) ⟨z9 4 rfl, ⟨⟩⟩]
    refine qk (qh qF rfl (hr1 _) ?_)
    exact ⟨rfl, rfl⟩
   refine gD (fun W Fs R lF z9 => ?_) ?_
   ·replace har := har.mono lF
    replace hps := hps.mono lF
    replace hpf := hpf.mono lF
    replace hov := hov.mono lF
    replace ha1 := ha1.mono lF
    rw [eS (l := [(0, _), (1, _), (5, _)]) ⟨z9 0 rfl, z9 1 rfl, z9 5 rfl, ⟨⟩⟩]
    refine qk (qq (args := [.agg #[arv], psv, a1]) call341 rfl (ih (((l.getD k [])).length) (by omega) har hps ha1 (hpk := (hpk)) (ho := (hokk (by omega))) (hd := (rfl))) ?_)
    rintro _ F2 _ le2 ⟨⟨x2, rfl, hr3⟩, rfl⟩
    replace har := har.mono le2
    replace hpf := hpf.mono le2
    replace hov := hov.mono le2
    exact ⟨⟨rfl, hr3⟩, rfl⟩
   refine gD (fun W Fs R lF z9 => ?_) ?_
   ·obtain ⟨e6, f6_1hr⟩ := z9 6 rfl
    rw [eS (l := [(6, (.tuple #[.agg #[ii (((formL ar ps ((l.getD k []))).getD (0, [])).1), ((aggAt (tupAt (W 6) 0) 1))], .bool ((formL ar ps ((l.getD k []))).isSome)]))]) ⟨(e6).symm, ⟨⟩⟩]
    refine qk (qo (.tuple #[.agg #[ii (((formL ar ps ((l.getD k []))).getD (0, [])).1), ((aggAt (tupAt (W 6) 0) 1))], .bool ((formL ar ps ((l.getD k []))).isSome)]) rfl ?_)
    exact ⟨rfl, rfl⟩
   refine gD (fun W Fs R lF z9 => ?_) ?_
   ·obtain ⟨e6, f6_1hr⟩ := z9 6 rfl
    have e7 : W 7 = (.tuple #[.agg #[ii (((formL ar ps ((l.getD k []))).getD (0, [])).1), ((aggAt (tupAt (W 6) 0) 1))], .bool ((formL ar ps ((l.getD k []))).isSome)] : Value) := z9 7 rfl
    rw [eS (l := [(6, (.tuple #[.agg #[ii (((formL ar ps ((l.getD k []))).getD (0, [])).1), ((aggAt (tupAt (W 6) 0) 1))], .bool ((formL ar ps ((l.getD k []))).isSome)])), (7, (.tuple #[.agg #[ii (((formL ar ps ((l.getD k []))).getD (0, [])).1), ((aggAt (tupAt (W 6) 0) 1))], .bool ((formL ar ps ((l.getD k []))).isSome)]))]) ⟨(e6).symm, e7, ⟨⟩⟩]
    refine qk (qO (.agg #[ii (((formL ar ps ((l.getD k []))).getD (0, [])).1), ((aggAt (tupAt (W 6) 0) 1))]) rfl rfl ?_)
    exact ⟨rfl, rfl⟩
   refine gD (fun W Fs R lF z9 => ?_) ?_
   ·obtain ⟨e6, f6_1hr⟩ := z9 6 rfl
    have e7 : W 7 = (.tuple #[.agg #[ii (((formL ar ps ((l.getD k []))).getD (0, [])).1), ((aggAt (tupAt (W 6) 0) 1))], .bool ((formL ar ps ((l.getD k []))).isSome)] : Value) := z9 7 rfl
    rw [eS (l := [(6, (.tuple #[.agg #[ii (((formL ar ps ((l.getD k []))).getD (0, [])).1), ((aggAt (tupAt (W 6) 0) 1))], .bool ((formL ar ps ((l.getD k []))).isSome)])), (7, (.tuple #[.agg #[ii (((formL ar ps ((l.getD k []))).getD (0, [])).1), ((aggAt (tupAt (W 6) 0) 1))], .bool ((formL ar ps ((l.getD k []))).isSome)]))]) ⟨(e6).symm, e7, ⟨⟩⟩]
    refine qk (qO (.bool ((formL ar ps ((l.getD k []))).isSome)) rfl rfl ?_)
    exact ⟨rfl, rfl⟩
   refine gD (fun W Fs R lF z9 => ?_) ?_
   ·replace har := har.mono lF
    replace hpf := hpf.mono lF
    replace hov := hov.mono lF
    refine qk (qY [ii (0), sN] qX rfl ?_)
    intro b6
    exact ⟨rfl, rfl⟩
   refine gD (fun W Fs R lF z9 => ?_) ?_
   ·obtain ⟨e6, f6_1hr⟩ := z9 6 rfl
    have e8 : W 8 = (.agg #[ii (((formL ar ps ((l.getD k []))).getD (0, [])).1), ((aggAt (tupAt (W 6) 0) 1))] : Value) := z9 8 rfl
    have e10 : W 10 = ptr (blk (W 10)) 0 := z9 10 rfl
    replace har := har.mono lF
    replace hpf := hpf.mono lF
    replace hov := hov.mono lF
    rw [eS (l := [(6, (.tuple #[.agg #[ii (((formL ar ps ((l.getD k []))).getD (0, [])).1), ((aggAt (tupAt (W 6) 0) 1))], .bool ((formL ar ps ((l.getD k []))).isSome)])), (8, (.agg #[ii (((formL ar ps ((l.getD k []))).getD (0, [])).1), ((aggAt (tupAt (W 6) 0) 1))])), (10, ptr (blk (W 10)) 0)]) ⟨(e6).symm, e8, e10, ⟨⟩⟩]
    show XG _ _ _ _ _ (cellsH (blk (W 10)) [ii (0), sN] 128 :: ([cellsH b4 [ii (c), ov] 128, cellsH b3 [ii (0), sN] 128, cellsH b2 [ii (pc), pfv] 128, cellsH b1 [arv] 36] ++ R)) _
    refine qk (qL [] _ [ii (((formL ar ps ((l.getD k []))).getD (0, [])).1), ((aggAt (tupAt (W 6) 0) 1))] qE rfl rfl rfl (qz rfl (qz (qW (qM f6_1hr)) qS)) rfl rfl rfl ?_)
    exact ⟨trivial, rfl⟩
   exact stepsG.nil
  intro W F3 le3 hphi
  obtain ⟨e6, f6_1hr⟩ := hphi 6 (by decide)
  have e7 : W 7 = (.tuple #[.agg #[ii (((formL ar ps ((l.getD k []))).getD (0, [])).1), ((aggAt (tupAt (W 6) 0) 1))], .bool ((formL ar ps ((l.getD k []))).isSome)] : Value) := hphi 7 (by decide)
  have e8 : W 8 = (.agg #[ii (((formL ar ps ((l.getD k []))).getD (0, [])).1), ((aggAt (tupAt (W 6) 0) 1))] : Value) := hphi 8 (by decide)
  have e10 : W 10 = ptr (blk (W 10)) 0 := hphi 10 (by decide)
  generalize hu1 : ((aggAt (tupAt (W 6) 0) 1)) = u1 at e6 f6_1hr e7 e8 e10
  generalize hu2 : blk (W 10) = b7 at e6 f6_1hr e7 e8 e10
  rw [eS (l := [(6, (.tuple #[.agg #[ii (((formL ar ps ((l.getD k []))).getD (0, [])).1), u1], .bool ((formL ar ps ((l.getD k []))).isSome)])), (9, _), (10, ptr b7 0)]) ⟨(e6).symm, (hphi 9 (by decide)), e10, ⟨⟩⟩]
  replace har := har.mono le3
  replace hpf := hpf.mono le3
  replace hov := hov.mono le3
  show XL _ _ _ _ _ _ _ (cellsH b7 [ii (((formL ar ps ((l.getD k []))).getD (0, [])).1), u1] 128 :: cellsH b4 [ii (c), ov] 128 :: cellsH b3 [ii (0), sN] 128 :: cellsH b2 [ii (pc), pfv] 128 :: cellsH b1 [arv] 36 :: L)
  refine qd (.bool ((formL ar ps ((l.getD k []))).isSome)) rfl (qb (qc (qc (qa (qg (.bool ((formL ar ps ((l.getD k []))).isSome)) rfl (cX (jg rfl (qb ?_))))))))
  refine jF (t := !((formL ar ps ((l.getD k []))).isSome)) rfl (fun h2 => ?_) (fun h2 => ?_)
  ·have hs9 : (formL ar ps (l.getD k [])).isSome = false := Bool.not_inj (y := false) h2
   refine qc (qa (cX (jA [ii (0), sN] [ii (0), sN] [(0, 1), (1, 1)] [] qt qX rfl (.cons rfl qy (.cons rfl qs PlacesAre.nil)) rfl CellsAre.nil (cX (qL [_, _] _ [ii (0), sN] qE rfl rfl rfl (qz rfl (qz rfl qS)) rfl rfl rfl (qd (.bool (false)) rfl (qb (qp (qi (qA (qi (qi (qA (qi (ql (L' := L) [.agg #[ii (0), sN], .bool (false)] (.tuple #[.agg #[ii (0), sN], .bool (false)]) (.cell rfl (jq [ii (0), sN] je qE rfl (Rd.ownN [_, _] rfl rfl)) (.tmp rfl .nil)) rfl (qD leG1 le3) rF (sD (sD (sD (sD (sD sR))))) ?_)))))))))))))))
   have hn9 : (formL ar ps (l.getD k [])) = none := by revert hs9; cases (formL ar ps (l.getD k [])) <;> simp
   rw [sumO_none (by omega) hn9]
   exact ⟨⟨_, rfl, IntsF.nilV⟩, rfl⟩
  have hs9 : (formL ar ps (l.getD k [])).isSome = true := Bool.not_inj (y := true) h2
  refine qx (qc ?_)
  refine X.drawG [cellsH b7 [ii (((formL ar ps ((l.getD k []))).getD (0, [])).1), u1] 128, cellsH b4 [ii (c), ov] 128, cellsH b3 [ii (0), sN] 128, cellsH b2 [ii (pc), pfv] 128, cellsH b1 [arv] 36] L 13 [[], [], [], [], [], [], [], [], [7], [7], [], [], [7, 11]] [[], [], [], [2], [], [3, 4], [5], [0, 1, 6], [7], [7, 8], [7, 8], [], [7, 9, 11]] [[], [], [], [], [], [], [], [], [], [], [], [], [11]] (phiG [pe (.agg #[ii (c), ov]), pe (.agg #[ii (((formL ar ps ((l.getD k []))).getD (0, [])).1), u1]), pe (ptr b2 1), pe pfv, pe (ii ((k : Int)) : Value), pe (.pointer (some (elemA pfv (k)))), pe (ii (pf.getD k 0)), fun FF us v => (.tuple #[.agg #[ii ((addX (c, os) ((((formL ar ps ((l.getD k []))).getD (0, [])).1), (((formL ar ps ((l.getD k []))).getD (0, [])).2)) (pf.getD k 0)).1.1), ((aggAt (tupAt v 0) 1))], .bool ((addX (c, os) ((((formL ar ps ((l.getD k []))).getD (0, [])).1), (((formL ar ps ((l.getD k []))).getD (0, [])).2)) (pf.getD k 0)).2)] : Value) = v ∧ (IntsF FF ((aggAt (tupAt v 0) 1)) (addX (c, os) ((((formL ar ps ((l.getD k []))).getD (0, [])).1), (((formL ar ps ((l.getD k []))).getD (0, [])).2)) (pf.getD k 0)).1.2), fun FF us v => v = (.tuple #[.agg #[ii ((addX (c, os) ((((formL ar ps ((l.getD k []))).getD (0, [])).1), (((formL ar ps ((l.getD k []))).getD (0, [])).2)) (pf.getD k 0)).1.1), ((aggAt (tupAt (us.getD 0 undef) 0) 1))], .bool ((addX (c, os) ((((formL ar ps ((l.getD k []))).getD (0, [])).1), (((formL ar ps ((l.getD k []))).getD (0, [])).2)) (pf.getD k 0)).2)] : Value), fun FF us v => v = (.agg #[ii ((addX (c, os) ((((formL ar ps ((l.getD k []))).getD (0, [])).1), (((formL ar ps ((l.getD k []))).getD (0, [])).2)) (pf.getD k 0)).1.1), ((aggAt (tupAt (us.getD 0 undef) 0) 1))] : Value), pe (.bool ((addX (c, os) ((((formL ar ps ((l.getD k []))).getD (0, [])).1), (((formL ar ps ((l.getD k []))).getD (0, [])).2)) (pf.getD k 0)).2)), fun FF us v => v = ptr (blk v) 0, fun FF us v => True]) (ownL [o0, o0, o0, o0, o0, o0, o0, o0, o0, o0, o0, fun us v => [cellsH (blk v) [ii (0), sN] 128], fun us v => [cellsH (blk (us.getD 1 undef)) [ii ((addX (c, os) ((((formL ar ps ((l.getD k []))).getD (0, [])).1), (((formL ar ps ((l.getD k []))).getD (0, [])).2)) (pf.getD k 0)).1.1), ((aggAt (tupAt (us.getD 0 undef) 0) 1))] 128]]) mixed rfl rfl (by kernel_rfl) (by kernel_rfl) (MonoG.get (m1 (m1 (m1 (m1 (m1 (m1 (m1 (mC (fun le h => ⟨h.1, h.2.mono le⟩) (mC (fun le h => h) (mC (fun le h => h) (m1 (mC (fun le h => h) (mC (fun le h => h) MonoG.nil)))))))))))))) ?_ ?_
  ·refine gD (fun W Fs R lF z9 => ?_) ?_
   ·replace har := har.mono lF
    replace hpf := hpf.mono lF
    replace hov := hov.mono lF
    replace f6_1hr := f6_1hr.mono lF
    refine qk (qr [ii (c), ov] je qE rfl rfl (Rd.ownN [_] rfl rfl) ?_)
    exact ⟨rfl, rfl⟩
   refine gD (fun W Fs R lF z9 => ?_) ?_
   ·replace har := har.mono lF
    replace hpf := hpf.mono lF
    replace hov := hov.mono lF
    replace f6_1hr := f6_1hr.mono lF
    refine qk (qr [ii (((formL ar ps ((l.getD k []))).getD (0, [])).1), u1] je qE rfl rfl (Rd.ownN [] rfl rfl) ?_)
    exact ⟨rfl, rfl⟩
   refine gD (fun W Fs R lF z9 => ?_) ?_
   ·refine qk (qj (1) qt rfl qs (by decide) rfl rfl ?_)
    exact ⟨rfl, rfl⟩
   refine gD (fun W Fs R lF z9 => ?_) ?_
   ·replace har := har.mono lF
    replace hpf := hpf.mono lF
    replace hov := hov.mono lF
    replace f6_1hr := f6_1hr.mono lF
    rw [eS (l := [(2, _)]) ⟨z9 2 rfl, ⟨⟩⟩]
    refine qk (qh qF rfl (Rd.own [_, _, _] rfl rfl) ?_)
    exact ⟨rfl, rfl⟩
   refine gD (fun W Fs R lF z9 => ?_) ?_
   ·refine qk (qo (ii ((k : Int))) rfl ?_)
    exact ⟨rfl, rfl⟩
   refine gD (fun W Fs R lF z9 => ?_) ?_
   ·replace har := har.mono lF
    replace hpf := hpf.mono lF
    replace hov := hov.mono lF
    replace f6_1hr := f6_1hr.mono lF
    rw [eS (l := [(3, _), (4, _)]) ⟨z9 3 rfl, z9 4 rfl, ⟨⟩⟩]
    refine qk (qv k qf qy rfl rfl rfl hpf.slv (by omega) (Nat.mul_one _) ?_)
    exact ⟨rfl, rfl⟩
   refine gD (fun W Fs R lF z9 => ?_) ?_
   ·replace har := har.mono lF
    replace hpf := hpf.mono lF
    replace hov := hov.mono lF
    replace f6_1hr := f6_1hr.mono lF
    rw [eS (l := [(5, _)]) ⟨z9 5 rfl, ⟨⟩⟩]
    refine qk (qh qQ rfl (hpf.rd (by omega)) ?_)
    exact ⟨rfl, rfl⟩
   refine gD (fun W Fs R lF z9 => ?_) ?_
   ·replace har := har.mono lF
    replace hov := hov.mono lF
    replace f6_1hr := f6_1hr.mono lF
    rw [eS (l := [(0, _), (1, _), (6, _)]) ⟨z9 0 rfl, z9 1 rfl, z9 6 rfl, ⟨⟩⟩]
    refine qk (qq (args := [.agg #[ii (c), ov], .agg #[ii (((formL ar ps ((l.getD k []))).getD (0, [])).1), u1], ii (pf.getD k 0)]) call385 rfl (sl15Add_spec hov f6_1hr (hA := (hIP)) (hB := (form_inD hpk (hokk (by omega)))) (hk := (hC.2 k))) ?_)
    rintro _ F5 _ le5 ⟨x4, rfl, hr5, rfl⟩
    replace har := har.mono le5
    replace hov := hov.mono le5
    exact ⟨⟨rfl, hr5⟩, rfl⟩
   refine gD (fun W Fs R lF z9 => ?_) ?_
   ·obtain ⟨e7, f7_2hr⟩ := z9 7 rfl
    rw [eS (l := [(7, (.tuple #[.agg #[ii ((addX (c, os) ((((formL ar ps ((l.getD k []))).getD (0, [])).1), (((formL ar ps ((l.getD k []))).getD (0, [])).2)) (pf.getD k 0)).1.1), ((aggAt (tupAt (W 7) 0) 1))], .bool ((addX (c, os) ((((formL ar ps ((l.getD k []))).getD (0, [])).1), (((formL ar ps ((l.getD k []))).getD (0, [])).2)) (pf.getD k 0)).2)]))]) ⟨(e7).symm, ⟨⟩⟩]
    refine qk (qo (.tuple #[.agg #[ii ((addX (c, os) ((((formL ar ps ((l.getD k []))).getD (0, [])).1), (((formL ar ps ((l.getD k []))).getD (0, [])).2)) (pf.getD k 0)).1.1), ((aggAt (tupAt (W 7) 0) 1))], .bool ((addX (c, os) ((((formL ar ps ((l.getD k []))).getD (0, [])).1), (((formL ar ps ((l.getD k []))).getD (0, [])).2)) (pf.getD k 0)).2)]) rfl ?_)
    exact ⟨rfl, rfl⟩
   refine gD (fun W Fs R lF z9 => ?_) ?_
   ·obtain ⟨e7, f7_2hr⟩ := z9 7 rfl
    have e8 : W 8 = (.tuple #[.agg #[ii ((addX (c, os) ((((formL ar ps ((l.getD k []))).getD (0, [])).1), (((formL ar ps ((l.getD k []))).getD (0, [])).2)) (pf.getD k 0)).1.1), ((aggAt (tupAt (W 7) 0) 1))], .bool ((addX (c, os) ((((formL ar ps ((l.getD k []))).getD (0, [])).1), (((formL ar ps ((l.getD k []))).getD (0, [])).2)) (pf.getD k 0)).2)] : Value) := z9 8 rfl
    rw [eS (l := [(7, (.tuple #[.agg #[ii ((addX (c, os) ((((formL ar ps ((l.getD k []))).getD (0, [])).1), (((formL ar ps ((l.getD k []))).getD (0, [])).2)) (pf.getD k 0)).1.1), ((aggAt (tupAt (W 7) 0) 1))], .bool ((addX (c, os) ((((formL ar ps ((l.getD k []))).getD (0, [])).1), (((formL ar ps ((l.getD k []))).getD (0, [])).2)) (pf.getD k 0)).2)])), (8, (.tuple #[.agg #[ii ((addX (c, os) ((((formL ar ps ((l.getD k []))).getD (0, [])).1), (((formL ar ps ((l.getD k []))).getD (0, [])).2)) (pf.getD k 0)).1.1), ((aggAt (tupAt (W 7) 0) 1))], .bool ((addX (c, os) ((((formL ar ps ((l.getD k []))).getD (0, [])).1), (((formL ar ps ((l.getD k []))).getD (0, [])).2)) (pf.getD k 0)).2)]))]) ⟨(e7).symm, e8, ⟨⟩⟩]
    refine qk (qO (.agg #[ii ((addX (c, os) ((((formL ar ps ((l.getD k []))).getD (0, [])).1), (((formL ar ps ((l.getD k []))).getD (0, [])).2)) (pf.getD k 0)).1.1), ((aggAt (tupAt (W 7) 0) 1))]) rfl rfl ?_)
    exact ⟨rfl, rfl⟩
   refine gD (fun W Fs R lF z9 => ?_) ?_
   ·obtain ⟨e7, f7_2hr⟩ := z9 7 rfl
    have e8 : W 8 = (.tuple #[.agg #[ii ((addX (c, os) ((((formL ar ps ((l.getD k []))).getD (0, [])).1), (((formL ar ps ((l.getD k []))).getD (0, [])).2)) (pf.getD k 0)).1.1), ((aggAt (tupAt (W 7) 0) 1))], .bool ((addX (c, os) ((((formL ar ps ((l.getD k []))).getD (0, [])).1), (((formL ar ps ((l.getD k []))).getD (0, [])).2)) (pf.getD k 0)).2)] : Value) := z9 8 rfl
    rw [eS (l := [(7, (.tuple #[.agg #[ii ((addX (c, os) ((((formL ar ps ((l.getD k []))).getD (0, [])).1), (((formL ar ps ((l.getD k []))).getD (0, [])).2)) (pf.getD k 0)).1.1), ((aggAt (tupAt (W 7) 0) 1))], .bool ((addX (c, os) ((((formL ar ps ((l.getD k []))).getD (0, [])).1), (((formL ar ps ((l.getD k []))).getD (0, [])).2)) (pf.getD k 0)).2)])), (8, (.tuple #[.agg #[ii ((addX (c, os) ((((formL ar ps ((l.getD k []))).getD (0, [])).1), (((formL ar ps ((l.getD k []))).getD (0, [])).2)) (pf.getD k 0)).1.1), ((aggAt (tupAt (W 7) 0) 1))], .bool ((addX (c, os) ((((formL ar ps ((l.getD k []))).getD (0, [])).1), (((formL ar ps ((l.getD k []))).getD (0, [])).2)) (pf.getD k 0)).2)]))]) ⟨(e7).symm, e8, ⟨⟩⟩]
    refine qk (qO (.bool ((addX (c, os) ((((formL ar ps ((l.getD k []))).getD (0, [])).1), (((formL ar ps ((l.getD k []))).getD (0, [])).2)) (pf.getD k 0)).2)) rfl rfl ?_)
    exact ⟨rfl, rfl⟩
   refine gD (fun W Fs R lF z9 => ?_) ?_
   ·replace har := har.mono lF
    replace hov := hov.mono lF
    refine qk (qY [ii (0), sN] qX rfl ?_)
    intro b9
    exact ⟨rfl, rfl⟩
   refine gD (fun W Fs R lF z9 => ?_) ?_
   ·obtain ⟨e7, f7_2hr⟩ := z9 7 rfl
    have e9 : W 9 = (.agg #[ii ((addX (c, os) ((((formL ar ps ((l.getD k []))).getD (0, [])).1), (((formL ar ps ((l.getD k []))).getD (0, [])).2)) (pf.getD k 0)).1.1), ((aggAt (tupAt (W 7) 0) 1))] : Value) := z9 9 rfl
    have e11 : W 11 = ptr (blk (W 11)) 0 := z9 11 rfl
    replace hov := hov.mono lF
    rw [eS (l := [(7, (.tuple #[.agg #[ii ((addX (c, os) ((((formL ar ps ((l.getD k []))).getD (0, [])).1), (((formL ar ps ((l.getD k []))).getD (0, [])).2)) (pf.getD k 0)).1.1), ((aggAt (tupAt (W 7) 0) 1))], .bool ((addX (c, os) ((((formL ar ps ((l.getD k []))).getD (0, [])).1), (((formL ar ps ((l.getD k []))).getD (0, [])).2)) (pf.getD k 0)).2)])), (9, (.agg #[ii ((addX (c, os) ((((formL ar ps ((l.getD k []))).getD (0, [])).1), (((formL ar ps ((l.getD k []))).getD (0, [])).2)) (pf.getD k 0)).1.1), ((aggAt (tupAt (W 7) 0) 1))])), (11, ptr (blk (W 11)) 0)]) ⟨(e7).symm, e9, e11, ⟨⟩⟩]
    show XG _ _ _ _ _ (cellsH (blk (W 11)) [ii (0), sN] 128 :: ([cellsH b7 [ii (((formL ar ps ((l.getD k []))).getD (0, [])).1), u1] 128, cellsH b4 [ii (c), ov] 128, cellsH b3 [ii (0), sN] 128, cellsH b2 [ii (pc), pfv] 128, cellsH b1 [arv] 36] ++ R)) _
    refine qk (qL [] _ [ii ((addX (c, os) ((((formL ar ps ((l.getD k []))).getD (0, [])).1), (((formL ar ps ((l.getD k []))).getD (0, [])).2)) (pf.getD k 0)).1.1), ((aggAt (tupAt (W 7) 0) 1))] qE rfl rfl rfl (qz rfl (qz (qW (qM f7_2hr)) qS)) rfl rfl rfl ?_)
    exact ⟨trivial, rfl⟩
   exact stepsG.nil
  intro W F6 le6 hphi
  obtain ⟨e7, f7_2hr⟩ := hphi 7 (by decide)
  have e8 : W 8 = (.tuple #[.agg #[ii ((addX (c, os) ((((formL ar ps ((l.getD k []))).getD (0, [])).1), (((formL ar ps ((l.getD k []))).getD (0, [])).2)) (pf.getD k 0)).1.1), ((aggAt (tupAt (W 7) 0) 1))], .bool ((addX (c, os) ((((formL ar ps ((l.getD k []))).getD (0, [])).1), (((formL ar ps ((l.getD k []))).getD (0, [])).2)) (pf.getD k 0)).2)] : Value) := hphi 8 (by decide)
  have e9 : W 9 = (.agg #[ii ((addX (c, os) ((((formL ar ps ((l.getD k []))).getD (0, [])).1), (((formL ar ps ((l.getD k []))).getD (0, [])).2)) (pf.getD k 0)).1.1), ((aggAt (tupAt (W 7) 0) 1))] : Value) := hphi 9 (by decide)
  have e11 : W 11 = ptr (blk (W 11)) 0 := hphi 11 (by decide)
  generalize hu3 : ((aggAt (tupAt (W 7) 0) 1)) = u2 at e7 f7_2hr e8 e9 e11
  generalize hu4 : blk (W 11) = b10 at e7 f7_2hr e8 e9 e11
  rw [eS (l := [(7, (.tuple #[.agg #[ii ((addX (c, os) ((((formL ar ps ((l.getD k []))).getD (0, [])).1), (((formL ar ps ((l.getD k []))).getD (0, [])).2)) (pf.getD k 0)).1.1), u2], .bool ((addX (c, os) ((((formL ar ps ((l.getD k []))).getD (0, [])).1), (((formL ar ps ((l.getD k []))).getD (0, [])).2)) (pf.getD k 0)).2)])), (10, _), (11, ptr b10 0)]) ⟨(e7).symm, (hphi 10 (by decide)), e11, ⟨⟩⟩]
  replace hov := hov.mono le6
  show XL _ _ _ _ _ _ _ (cellsH b10 [ii ((addX (c, os) ((((formL ar ps ((l.getD k []))).getD (0, [])).1), (((formL ar ps ((l.getD k []))).getD (0, [])).2)) (pf.getD k 0)).1.1), u2] 128 :: cellsH b7 [ii (((formL ar ps ((l.getD k []))).getD (0, [])).1), u1] 128 :: cellsH b4 [ii (c), ov] 128 :: cellsH b3 [ii (0), sN] 128 :: cellsH b2 [ii (pc), pfv] 128 :: cellsH b1 [arv] 36 :: L)
  refine qd (.bool ((addX (c, os) ((((formL ar ps ((l.getD k []))).getD (0, [])).1), (((formL ar ps ((l.getD k []))).getD (0, [])).2)) (pf.getD k 0)).2)) rfl (qb (qc (qc (qa (qg (.bool ((addX (c, os) ((((formL ar ps ((l.getD k []))).getD (0, [])).1), (((formL ar ps ((l.getD k []))).getD (0, [])).2)) (pf.getD k 0)).2)) rfl (cX (jg rfl (qb ?_))))))))
  refine jF (t := !((addX (c, os) ((((formL ar ps ((l.getD k []))).getD (0, [])).1), (((formL ar ps ((l.getD k []))).getD (0, [])).2)) (pf.getD k 0)).2)) rfl (fun h3 => ?_) (fun h3 => ?_)
  ·have hx9 : (addX (c, os) ((formL ar ps (l.getD k [])).getD (0, [])) (pf.getD k 0)).2 = false := Bool.not_inj (y := false) h3
   refine qc (qa (cX (jA [ii (0), sN] [ii (0), sN] [(0, 1), (1, 1)] [] qt qX rfl (.cons rfl qy (.cons rfl qs PlacesAre.nil)) rfl CellsAre.nil (cX (qL [_, _, _] _ [ii (0), sN] qE rfl rfl rfl (qz rfl (qz rfl qS)) rfl rfl rfl (qd (.bool (false)) rfl (qb (qp (qi (qA (qi (qi (qA (qi (ql (L' := L) [.agg #[ii (0), sN], .bool (false)] (.tuple #[.agg #[ii (0), sN], .bool (false)]) (.cell rfl (jq [ii (0), sN] je qE rfl (Rd.ownN [_, _, _] rfl rfl)) (.tmp rfl .nil)) rfl (qD (qD leG1 le3) le6) rF (sD (sD (sD (sD (sD (sD sR)))))) ?_)))))))))))))))
   rw [sumO_big (j := k) hpk hok hC (by omega) (by rw [hrw]; exact addX_bad hx9)]
   exact ⟨⟨_, rfl, IntsF.nilV⟩, rfl⟩
  have hx9 : (addX (c, os) ((formL ar ps (l.getD k [])).getD (0, [])) (pf.getD k 0)).2 = true := Bool.not_inj (y := true) h3
  have hax := addX_ok hx9
  have hax2 := addX_in (N := 1000000000000) hIP (form_inD hpk (hokk (by omega))) (hC.2 k) hx9
  refine qx (qa (cX (qr [ii ((addX (c, os) ((((formL ar ps ((l.getD k []))).getD (0, [])).1), (((formL ar ps ((l.getD k []))).getD (0, [])).2)) (pf.getD k 0)).1.1), u2] je qE rfl rfl (Rd.ownN [] rfl rfl) (cX (qL [_, _] _ [ii ((addX (c, os) ((((formL ar ps ((l.getD k []))).getD (0, [])).1), (((formL ar ps ((l.getD k []))).getD (0, [])).2)) (pf.getD k 0)).1.1), u2] qE rfl rfl rfl (qz rfl (qz (qW (qM f7_2hr)) qS)) rfl rfl rfl (qb (qa (qg (ii ((k : Int))) rfl (cX (qN (((k + 1 : Nat) : Int)) rfl rfl (by omega) (by omega) (qd (ii (((k + 1 : Nat) : Int))) rfl (qb ?_))))))))))))
  exact ⟨(k + 1, (addX (c, os) ((((formL ar ps ((l.getD k []))).getD (0, [])).1), (((formL ar ps ((l.getD k []))).getD (0, [])).2)) (pf.getD k 0)).1.1, u2, (addX (c, os) ((((formL ar ps ((l.getD k []))).getD (0, [])).1), (((formL ar ps ((l.getD k []))).getD (0, [])).2)) (pf.getD k 0)).1.2, F6), _, (qD (qD leG1 le3) le6), rF, ⟨rfl, rfl, rfl, rfl, rfl, rfl, rfl, ⟨⟩⟩, (sD (sD (sC (sC (sC (sC sR)))))), ⟨rfl, (qD (qD leG1 le3) le6), (f7_2hr), (by (try dsimp only) <;> omega), (by (try dsimp only); rw [raw_next (by omega) hrw, hax.1]), (by (try dsimp only); exact hax2), (fun i hi => (Nat.lt_or_ge i k).elim (fun h => hall i h) (fun h => by obtain rfl : i = k := (by omega); exact hs9))⟩, (by omega)⟩
 refine jb (qu (qu (qJ (qc (qa (cX (qr [ii (c), ov] je qE rfl rfl (Rd.ownN [] rfl rfl) (cX (qL [_] _ [ii (c), ov] qE rfl rfl rfl (qz rfl (qz (qW (qM hov)) qS)) rfl rfl rfl (qd (.bool (true)) rfl (qb (qp (ql (L' := L) [.agg #[ii (c), ov], .bool (true)] (.tuple #[.agg #[ii (c), ov], .bool (true)]) (.cell rfl (jq [ii (c), ov] je qE rfl (Rd.ownN [_] rfl rfl)) (.tmp rfl .nil)) rfl leG1 rF (sD (sD (sD (sD sR)))) ?_)))))))))))))
 rw [sumO_done (fun i hi => hall i (by omega)) (by omega) (by omega) hrw hIP]
 exact ⟨⟨_, rfl, hov⟩, rfl⟩

/- spec.l15Form -/
set_option maxHeartbeats 2000000 in
set_option maxRecDepth 20000 in
theorem sl15Form_spec_step {d : Nat} (ih : ∀ m : Nat, m < d → ∀ {F : FH} {L : List HP}  {arv : Value} {ar : List Int} (har : IntsF F arv ar) {psv : Value} {ps : List PolyT} (hps : PolysF F psv ps) {tv : Value} {t : List Int} (ht : IntsF F tv t) (hpk : polysOk ar ps = true) (ho : TermW ar t) (hd : m = t.length), Does prog 341 [.agg #[arv], psv, tv] F L (fun v F' L' => (∃ (a : Value), (.tuple #[.agg #[ii (((formL ar ps t).getD (0, [])).1), a], .bool ((formL ar ps t).isSome)] : Value) = v ∧ (IntsF F' a ((formL ar ps t).getD (0, [])).2)) ∧ L = L')) {F : FH} {L : List HP}  {arv : Value} {ar : List Int} (har : IntsF F arv ar) {psv : Value} {ps : List PolyT} (hps : PolysF F psv ps) {tv : Value} {t : List Int} (ht : IntsF F tv t) (hpk : polysOk ar ps = true) (ho : TermW ar t) (hd : d = t.length) :
    Does prog 341 [.agg #[arv], psv, tv] F (L) (fun v F' L' => (∃ (a : Value), (.tuple #[.agg #[ii (((formL ar ps t).getD (0, [])).1), a], .bool ((formL ar ps t).isSome)] : Value) = v ∧ (IntsF F' a ((formL ar ps t).getD (0, [])).2)) ∧ L = L') := by
 refine qC func341 rfl rfl rfl ?_
 have hsl := sigOk_spec ho.sig
 have htl := ho.len
 have hpl := polysOk_len hpk
 have hlt0 := ho.lt (p := 0) (by omega)
 have hge0 := ho.geD (p := 0) (by omega)
 have hm9 : t.getD 0 0 < 0 → -(t.getD 0 0) = (((-1 - (t.getD 0 0)).toNat + 1 : Nat) : Int) := fun h => by omega
 refine qc (qa (cX (qI [arv] rfl rfl ?_)))
 intro b1
 refine cX (qY [ii (0), sN] qX rfl ?_)
 intro b2
 refine qd (.bool (false)) rfl (qb (qc (qc (qa (qg (tv) rfl (cX (qv 0 qf qy rfl rfl rfl ht.slv (by omega) (Nat.mul_one _) (cX (qh qQ rfl (ht.rd (by omega)) (cX (qK rfl rfl (qb ?_))))))))))))
 refine qw (p := (t.getD 0 0 : Int) < 0) rfl (fun h1 => ?_) (fun h1 => ?_)
 ·refine qc (qa (qg (tv) rfl (cX (qv 0 qf qy rfl rfl rfl ht.slv (by omega) (Nat.mul_one _) (cX (qh qQ rfl (ht.rd (by omega)) (cX (XOp.negR (a := t.getD 0 0) ((((-1 - (t.getD 0 0)).toNat + 1 : Nat) : Int)) rfl (by omega) (by omega) (cX (XOp.makeSlice (n := (-1 - (t.getD 0 0)).toNat + 1) (bytes := 8) [ii (0)] qf qy typeInfo2 rfl jr rfl rfl rfl rfl (by omega) (by omega) ?_))))))))))
  intro v1 hv1
  rw [intsH_zeros]
  refine cX (jA [ii (0), v1] [ii (0), sN] [(0, 1), (1, 1)] [(1, [v1])] qt qX rfl (.cons rfl qy (.cons rfl qs PlacesAre.nil)) rfl (.cons (cells_one (isSl_lit hv1)) CellsAre.nil) (cX (qY [ii (0), sN] qX rfl ?_)))
  intro b3
  refine cX (qL [] _ [ii (0), v1] qE rfl rfl rfl (qz rfl (qz (qW (isSl_lit hv1)) qS)) rfl rfl rfl (qb (qc ?_)))
  refine jB [cellsH b3 [ii (0), v1] 128, intsH 2 v1 ((List.replicate ((-1 - (t.getD 0 0)).toNat + 1) 0)), cellsH b2 [ii (0), sN] 128, cellsH b1 [arv] 36] L 6 [] [[], [0], [], [2], [3], [4]] (phiL [qe (ptr b3 1), qe v1, qe tv, qe (.pointer (some (elemA tv (0)))), qe (ii (t.getD 0 0)), qe (ii ((((-1 - (t.getD 0 0)).toNat : Nat) : Int)) : Value)]) (ownL []) mixed rfl rfl (by kernel_rfl) ?_ ?_
  ·refine pD (fun W R z9 => ?_) ?_
   ·refine qk (qj (1) qt rfl qs (by decide) rfl rfl ?_)
    exact ⟨rfl, rfl, rfl⟩
   refine pD (fun W R z9 => ?_) ?_
   ·rw [eS (l := [(0, _)]) ⟨z9 0 rfl, ⟨⟩⟩]
    refine qk (qh qF rfl (Rd.own [] rfl rfl) ?_)
    exact ⟨rfl, rfl, rfl⟩
   refine pD (fun W R z9 => ?_) ?_
   ·refine qk (qo (tv) rfl ?_)
    exact ⟨rfl, rfl, rfl⟩
   refine pD (fun W R z9 => ?_) ?_
   ·rw [eS (l := [(2, _)]) ⟨z9 2 rfl, ⟨⟩⟩]
    refine qk (qv 0 qf qy rfl rfl rfl ht.slv (by omega) (Nat.mul_one _) ?_)
    exact ⟨rfl, rfl, rfl⟩
   refine pD (fun W R z9 => ?_) ?_
   ·rw [eS (l := [(3, _)]) ⟨z9 3 rfl, ⟨⟩⟩]
    refine qk (qh qQ rfl (ht.rd (by omega)) ?_)
    exact ⟨rfl, rfl, rfl⟩
   refine pD (fun W R z9 => ?_) ?_
   ·rw [eS (l := [(4, _)]) ⟨z9 4 rfl, ⟨⟩⟩]
    refine qk (jo ((((-1 - (t.getD 0 0)).toNat : Nat) : Int)) rfl rfl (by omega) (by omega) ?_)
    exact ⟨rfl, rfl, rfl⟩
   exact stepsP.nil
  intro W hphi
  rw [eS (l := [(1, _), (5, _)]) ⟨(hphi 1 (by decide)), (hphi 5 (by decide)), ⟨⟩⟩]
  show XL _ _ _ _ _ _ _ (cellsH b3 [ii (0), v1] 128 :: intsH 2 v1 ((List.replicate ((-1 - (t.getD 0 0)).toNat + 1) 0)) :: cellsH b2 [ii (0), sN] 128 :: cellsH b1 [arv] 36 :: L)
  refine cX (qv ((-1 - (t.getD 0 0)).toNat) qf qy rfl rfl rfl (intsH.slv [_] rfl) (by simp) (Nat.mul_one _) (cX (intsH.storeX (i := (-1 - (t.getD 0 0)).toNat) (v := v1) [_] _ (((List.replicate ((-1 - (t.getD 0 0)).toNat + 1) 0)).set ((-1 - (t.getD 0 0)).toNat) 1) qy rfl rfl rfl (by simp) rfl (qb (qc (qa (cX (qr [ii (0), v1] je qE rfl rfl (Rd.ownN [] rfl rfl) (cX (qL [_, _] _ [ii (0), v1] qE rfl rfl rfl (qz rfl (qz (qW (isSl_lit hv1)) qS)) rfl rfl rfl (qd (.bool (true)) rfl (qb (ju [_] _ _ rfl (fun F1 le1 hz1 => ?_))))))))))))))
  replace har := har.mono le1
  replace hps := hps.mono le1
  replace ht := ht.mono le1
  have hf1 : IntsF F1 v1 ((((List.replicate ((-1 - (t.getD 0 0)).toNat + 1) 0)).set ((-1 - (t.getD 0 0)).toNat) 1)) := intsH.fz (xs := (((List.replicate ((-1 - (t.getD 0 0)).toNat + 1) 0)).set ((-1 - (t.getD 0 0)).toNat) 1)) hz1.fz
  refine qp (qi (ql (L' := L) [.agg #[ii (0), v1], .bool (true)] (.tuple #[.agg #[ii (0), v1], .bool (true)]) (.cell rfl (jq [ii (0), v1] je qE rfl (Rd.ownN [_] rfl rfl)) (.tmp rfl .nil)) rfl le1 rF (sD (sD (sD sR))) ?_))
  have e8 : -1 - (((-1 - (t.getD 0 0)).toNat : Nat) : Int) = t.getD 0 0 := by omega
  have e9 : (formL ar ps t) = some (varP (t.getD 0 0)) := formL_var ho (by omega)
  have hs9 := set_last ((-1 - (t.getD 0 0)).toNat)
  rw [e8] at hs9
  rw [e9]
  refine ⟨⟨_, rfl, ?_⟩, rfl⟩
  show IntsF _ _ (varP (t.getD 0 0)).2
  rw [← hs9]
  exact hf1
 have hpo9 := polysOk_at hpk (i := (t.getD 0 0).toNat) (by omega)
 have hpn9 : ((partsL ar t).length : Int) = ar.getD (t.getD 0 0).toNat 0 := by rw [parts_len]; unfold arity; rw [if_neg (by omega)]; have := hsl.2.2 (t.getD 0 0).toNat (by omega); omega
 have hpr9 := hsl.2.2 (t.getD 0 0).toNat (by omega)
 refine qx (qc ?_)
 obtain ⟨a1, ha1, hrg1, hq1⟩ := hps.rd (i := (t.getD 0 0).toNat) (by omega)
 refine X.drawG [cellsH b2 [ii (0), sN] 128, cellsH b1 [arv] 36] L 14 [[], [], [], [], [], [], [], [], [], [], [], [], [11]] [[], [], [], [], [3], [4], [2, 5], [6], [], [], [8, 9], [0, 1, 7, 10], [11], [11]] [] (phiG [pe (.agg #[arv]), pe psv, pe psv, pe tv, pe (.pointer (some (elemA tv (0)))), pe (ii (t.getD 0 0)), pe (.pointer (some (elemA psv (((t.getD 0 0).toNat) * 2)))), pe (.agg #[ii ((ps.getD ((t.getD 0 0).toNat) (0, [])).1), a1]), pe (.agg #[arv]), pe tv, fun FF us v => ((v) : Value) = v ∧ (RowsF FF (v) (partsL ar t)), fun FF us v => (.tuple #[.agg #[ii (((sumO ar ps (((ps.getD ((t.getD 0 0).toNat) (0, [])).1), ((ps.getD ((t.getD 0 0).toNat) (0, [])).2)) (partsL ar t)).getD (0, [])).1), ((aggAt (tupAt v 0) 1))], .bool ((sumO ar ps (((ps.getD ((t.getD 0 0).toNat) (0, [])).1), ((ps.getD ((t.getD 0 0).toNat) (0, [])).2)) (partsL ar t)).isSome)] : Value) = v ∧ (IntsF FF ((aggAt (tupAt v 0) 1)) ((sumO ar ps (((ps.getD ((t.getD 0 0).toNat) (0, [])).1), ((ps.getD ((t.getD 0 0).toNat) (0, [])).2)) (partsL ar t)).getD (0, [])).2), fun FF us v => v = (.agg #[ii (((sumO ar ps (((ps.getD ((t.getD 0 0).toNat) (0, [])).1), ((ps.getD ((t.getD 0 0).toNat) (0, [])).2)) (partsL ar t)).getD (0, [])).1), ((aggAt (tupAt (us.getD 0 undef) 0) 1))] : Value), pe (.bool ((sumO ar ps (((ps.getD ((t.getD 0 0).toNat) (0, [])).1), ((ps.getD ((t.getD 0 0).toNat) (0, [])).2)) (partsL ar t)).isSome))]) (ownL []) mixed rfl rfl (by kernel_rfl) (by kernel_rfl) (MonoG.get (m1 (m1 (m1 (m1 (m1 (m1 (m1 (m1 (m1 (m1 (mC (fun le h => ⟨h.1, h.2.mono le⟩) (mC (fun le h => ⟨h.1, h.2.mono le⟩) (mC (fun le h => h) (m1 MonoG.nil))))))))))))))) ?_ ?_
 ·refine gD (fun W Fs R lF z9 => ?_) ?_
  ·replace har := har.mono lF
   replace hps := hps.mono lF
   replace ht := ht.mono lF
   replace ha1 := ha1.mono lF
   replace hrg1 := fun L9 j9 u9 h9 => Rd.mono (hrg1 L9 j9 u9 h9) lF
   refine qk (qr [arv] qZ qH rfl rfl (Rd.ownN [_] rfl rfl) ?_)
   exact ⟨rfl, rfl⟩
  refine gD (fun W Fs R lF z9 => ?_) ?_
  ·refine qk (qo (psv) rfl ?_)
   exact ⟨rfl, rfl⟩
  refine gD (fun W Fs R lF z9 => ?_) ?_
  ·refine qk (qo (psv) rfl ?_)
   exact ⟨rfl, rfl⟩
  refine gD (fun W Fs R lF z9 => ?_) ?_
  ·refine qk (qo (tv) rfl ?_)
   exact ⟨rfl, rfl⟩
  refine gD (fun W Fs R lF z9 => ?_) ?_
  ·replace har := har.mono lF
   replace hps := hps.mono lF
   replace ht := ht.mono lF
   replace ha1 := ha1.mono lF
   replace hrg1 := fun L9 j9 u9 h9 => Rd.mono (hrg1 L9 j9 u9 h9) lF
   rw [eS (l := [(3, _)]) ⟨z9 3 rfl, ⟨⟩⟩]
   refine qk (qv 0 qf qy rfl rfl rfl ht.slv (by omega) (Nat.mul_one _) ?_)
   exact ⟨rfl, rfl⟩
  refine gD (fun W Fs R lF z9 => ?_) ?_
  ·replace har := har.mono lF
   replace hps := hps.mono lF
   replace ht := ht.mono lF
   replace ha1 := ha1.mono lF
   replace hrg1 := fun L9 j9 u9 h9 => Rd.mono (hrg1 L9 j9 u9 h9) lF
   rw [eS (l := [(4, _)]) ⟨z9 4 rfl, ⟨⟩⟩]
   refine qk (qh qQ rfl (ht.rd (by omega)) ?_)
   exact ⟨rfl, rfl⟩
  refine gD (fun W Fs R lF z9 => ?_) ?_
  ·replace har := har.mono lF
   replace hps := hps.mono lF
   replace ht := ht.mono lF
   replace ha1 := ha1.mono lF
   replace hrg1 := fun L9 j9 u9 h9 => Rd.mono (hrg1 L9 j9 u9 h9) lF
   rw [eS (l := [(2, _), (5, _)]) ⟨z9 2 rfl, z9 5 rfl, ⟨⟩⟩]
   refine qk (qv ((t.getD 0 0).toNat) jh qE rfl rfl (by omega) hps.slv (by omega) rfl ?_)
   exact ⟨rfl, rfl⟩
  refine gD (fun W Fs R lF z9 => ?_) ?_
  ·replace har := har.mono lF
   replace hps := hps.mono lF
   replace ht := ht.mono lF
   replace ha1 := ha1.mono lF
   replace hrg1 := fun L9 j9 u9 h9 => Rd.mono (hrg1 L9 j9 u9 h9) lF
   rw [eS (l := [(6, _)]) ⟨z9 6 rfl, ⟨⟩⟩]
   refine qk (qr [ii ((ps.getD ((t.getD 0 0).toNat) (0, [])).1), a1] je qE rfl rfl (Rd.all (hrg1 _)) ?_)
   exact ⟨rfl, rfl⟩
  refine gD (fun W Fs R lF z9 => ?_) ?_
  ·replace har := har.mono lF
   replace hps := hps.mono lF
   replace ht := ht.mono lF
   replace ha1 := ha1.mono lF
   refine qk (qr [arv] qZ qH rfl rfl (Rd.ownN [_] rfl rfl) ?_)
   exact ⟨rfl, rfl⟩
  refine gD (fun W Fs R lF z9 => ?_) ?_
  ·refine qk (qo (tv) rfl ?_)
   exact ⟨rfl, rfl⟩
  refine gD (fun W Fs R lF z9 => ?_) ?_
  ·replace har := har.mono lF
   replace hps := hps.mono lF
   replace ht := ht.mono lF
   replace ha1 := ha1.mono lF
   rw [eS (l := [(8, _), (9, _)]) ⟨z9 8 rfl, z9 9 rfl, ⟨⟩⟩]
   refine qk (qq (args := [.agg #[arv], tv]) call371 rfl (l13Parts_spec har ht (ho := (ho))) ?_)
   rintro _ F4 _ le4 ⟨x3, rfl, hr3, rfl⟩
   replace har := har.mono le4
   replace hps := hps.mono le4
   replace ha1 := ha1.mono le4
   exact ⟨⟨rfl, hr3⟩, rfl⟩
  refine gD (fun W Fs R lF z9 => ?_) ?_
  ·obtain ⟨e10, f10_2hr⟩ := z9 10 rfl
   replace har := har.mono lF
   replace hps := hps.mono lF
   replace ha1 := ha1.mono lF
   rw [eS (l := [(0, _), (1, _), (7, _), (10, ((W 10)))]) ⟨z9 0 rfl, z9 1 rfl, z9 7 rfl, (e10).symm, ⟨⟩⟩]
   refine qk (qq (args := [.agg #[arv], psv, .agg #[ii ((ps.getD ((t.getD 0 0).toNat) (0, [])).1), a1], ((W 10))]) call370 rfl (sl15Sum_spec_step ih har hps ha1 f10_2hr (hpk := (hpk)) (hok := (parts_wf ho)) (hC := (hpo9.1)) (hlf := (by omega)) (hl3 := (by omega)) (hd := ((by rw [hd]; exact (parts_flen ho).symm)))) ?_)
   rintro _ F5 _ le5 ⟨⟨x4, rfl, hr4⟩, rfl⟩
   replace f10_2hr := f10_2hr.mono le5
   exact ⟨⟨rfl, hr4⟩, rfl⟩
  refine gD (fun W Fs R lF z9 => ?_) ?_
  ·obtain ⟨e11, f11_2hr⟩ := z9 11 rfl
   rw [eS (l := [(11, (.tuple #[.agg #[ii (((sumO ar ps (((ps.getD ((t.getD 0 0).toNat) (0, [])).1), ((ps.getD ((t.getD 0 0).toNat) (0, [])).2)) (partsL ar t)).getD (0, [])).1), ((aggAt (tupAt (W 11) 0) 1))], .bool ((sumO ar ps (((ps.getD ((t.getD 0 0).toNat) (0, [])).1), ((ps.getD ((t.getD 0 0).toNat) (0, [])).2)) (partsL ar t)).isSome)]))]) ⟨(e11).symm, ⟨⟩⟩]
   refine qk (qO (.agg #[ii (((sumO ar ps (((ps.getD ((t.getD 0 0).toNat) (0, [])).1), ((ps.getD ((t.getD 0 0).toNat) (0, [])).2)) (partsL ar t)).getD (0, [])).1), ((aggAt (tupAt (W 11) 0) 1))]) rfl rfl ?_)
   exact ⟨rfl, rfl⟩
  refine gD (fun W Fs R lF z9 => ?_) ?_
  ·obtain ⟨e11, f11_2hr⟩ := z9 11 rfl
   rw [eS (l := [(11, (.tuple #[.agg #[ii (((sumO ar ps (((ps.getD ((t.getD 0 0).toNat) (0, [])).1), ((ps.getD ((t.getD 0 0).toNat) (0, [])).2)) (partsL ar t)).getD (0, [])).1), ((aggAt (tupAt (W 11) 0) 1))], .bool ((sumO ar ps (((ps.getD ((t.getD 0 0).toNat) (0, [])).1), ((ps.getD ((t.getD 0 0).toNat) (0, [])).2)) (partsL ar t)).isSome)]))]) ⟨(e11).symm, ⟨⟩⟩]
   refine qk (qO (.bool ((sumO ar ps (((ps.getD ((t.getD 0 0).toNat) (0, [])).1), ((ps.getD ((t.getD 0 0).toNat) (0, [])).2)) (partsL ar t)).isSome)) rfl rfl ?_)
   exact ⟨rfl, rfl⟩
  exact stepsG.nil
 intro W F6 le6 hphi
 obtain ⟨e10, f10_2hr⟩ := hphi 10 (by decide)
 obtain ⟨e11, f11_2hr⟩ := hphi 11 (by decide)
 have e12 : W 12 = (.agg #[ii (((sumO ar ps (((ps.getD ((t.getD 0 0).toNat) (0, [])).1), ((ps.getD ((t.getD 0 0).toNat) (0, [])).2)) (partsL ar t)).getD (0, [])).1), ((aggAt (tupAt (W 11) 0) 1))] : Value) := hphi 12 (by decide)
 generalize hu1 : ((W 10)) = u1 at e10 f10_2hr e11 f11_2hr e12
 generalize hu2 : ((aggAt (tupAt (W 11) 0) 1)) = u2 at e10 f10_2hr e11 f11_2hr e12
 rw [eS (l := [(11, (.tuple #[.agg #[ii (((sumO ar ps (((ps.getD ((t.getD 0 0).toNat) (0, [])).1), ((ps.getD ((t.getD 0 0).toNat) (0, [])).2)) (partsL ar t)).getD (0, [])).1), u2], .bool ((sumO ar ps (((ps.getD ((t.getD 0 0).toNat) (0, [])).1), ((ps.getD ((t.getD 0 0).toNat) (0, [])).2)) (partsL ar t)).isSome)])), (12, (.agg #[ii (((sumO ar ps (((ps.getD ((t.getD 0 0).toNat) (0, [])).1), ((ps.getD ((t.getD 0 0).toNat) (0, [])).2)) (partsL ar t)).getD (0, [])).1), u2])), (13, _)]) ⟨(e11).symm, e12, (hphi 13 (by decide)), ⟨⟩⟩]
 show XL _ _ _ _ _ _ _ (cellsH b2 [ii (0), sN] 128 :: cellsH b1 [arv] 36 :: L)
 refine cX (qL [] _ [ii (((sumO ar ps (((ps.getD ((t.getD 0 0).toNat) (0, [])).1), ((ps.getD ((t.getD 0 0).toNat) (0, [])).2)) (partsL ar t)).getD (0, [])).1), u2] qE rfl rfl rfl (qz rfl (qz (qW (qM f11_2hr)) qS)) rfl rfl rfl (qd (.bool ((sumO ar ps (((ps.getD ((t.getD 0 0).toNat) (0, [])).1), ((ps.getD ((t.getD 0 0).toNat) (0, [])).2)) (partsL ar t)).isSome)) rfl (qb (qp (ql (L' := L) [.agg #[ii (((sumO ar ps (((ps.getD ((t.getD 0 0).toNat) (0, [])).1), ((ps.getD ((t.getD 0 0).toNat) (0, [])).2)) (partsL ar t)).getD (0, [])).1), u2], .bool ((sumO ar ps (((ps.getD ((t.getD 0 0).toNat) (0, [])).1), ((ps.getD ((t.getD 0 0).toNat) (0, [])).2)) (partsL ar t)).isSome)] (.tuple #[.agg #[ii (((sumO ar ps (((ps.getD ((t.getD 0 0).toNat) (0, [])).1), ((ps.getD ((t.getD 0 0).toNat) (0, [])).2)) (partsL ar t)).getD (0, [])).1), u2], .bool ((sumO ar ps (((ps.getD ((t.getD 0 0).toNat) (0, [])).1), ((ps.getD ((t.getD 0 0).toNat) (0, [])).2)) (partsL ar t)).isSome)]) (.cell rfl (jq [ii (((sumO ar ps (((ps.getD ((t.getD 0 0).toNat) (0, [])).1), ((ps.getD ((t.getD 0 0).toNat) (0, [])).2)) (partsL ar t)).getD (0, [])).1), u2] je qE rfl (Rd.ownN [] rfl rfl)) (.tmp rfl .nil)) rfl le6 rF (sD (sD sR)) ?_)))))
 have e9 : (formL ar ps t) = sumO ar ps (ps.getD (t.getD 0 0).toNat (0, [])) (partsL ar t) := formL_sum ho (by omega)
 rw [e9]
 exact ⟨⟨_, rfl, f11_2hr⟩, rfl⟩

theorem sl15Form_spec (d : Nat) : ∀ {F : FH} {L : List HP}  {arv : Value} {ar : List Int} (har : IntsF F arv ar) {psv : Value} {ps : List PolyT} (hps : PolysF F psv ps) {tv : Value} {t : List Int} (ht : IntsF F tv t) (hpk : polysOk ar ps = true) (ho : TermW ar t) (hd : d = t.length), Does prog 341 [.agg #[arv], psv, tv] F L (fun v F' L' => (∃ (a : Value), (.tuple #[.agg #[ii (((formL ar ps t).getD (0, [])).1), a], .bool ((formL ar ps t).isSome)] : Value) = v ∧ (IntsF F' a ((formL ar ps t).getD (0, [])).2)) ∧ L = L') := by
  induction d using Nat.strongRecOn with
  | _ d ih =>
    intros
    exact sl15Form_spec_step ih (by assumption) (by assumption) (by assumption) (by assumption) (by assumption) (by assumption)
end Go.Proofs.YtjpfankibmeaaaaGreat
