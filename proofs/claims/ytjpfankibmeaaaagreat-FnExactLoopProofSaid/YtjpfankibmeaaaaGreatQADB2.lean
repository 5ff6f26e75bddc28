/-
  Walks, one after the other (part 3).
-/
import Derived.Test.YtjpfankibmeaaaaGreatQADL1
import Derived.Test.YtjpfankibmeaaaaGreatQADB1
set_option linter.unusedSimpArgs false
set_option linter.unusedVariables false
namespace Go.Proofs.YtjpfankibmeaaaaGreat
open Go X M Tryz

/- impl.plain -/
theorem plainZ_spec {F : FH} {L : List HP} {sv : Value} {s : List (List Int)} (hs : RowsF F sv s) (hsl : s.length ≤ 24) (hsb : ∀ i, i < s.length → (s.getD i []).length ≤ 4000000) :
    Does prog 193 [.agg #[sv]] F (L) (fun v F' L' => ∃ (a : Value), (.agg #[a] : Value) = v ∧ (RowsF F' a (plainL s)) ∧ (Fresh F F' (star [rowsD 2 22 a (plainL s)])) ∧ L = L') := by
 refine qz func193 rfl rfl rfl (qc (qa (cX (qW [sv] rfl rfl ?_))))
 intro b1
 refine cX (qS [sN] ji rfl ?_)
 intro b2
 refine qb (qc (qa (cX (qS [sN] ji rfl ?_))))
 intro b3
 refine qb (qc (qc (qa (cX (qk (0) qO rfl qP (by decide) rfl rfl (cX (qh jg rfl (Rd.own [_, _] rfl rfl) (cX (qA qs rfl hs.slv (qd (ii (0)) rfl (qb (qG (jc (α := Nat × Value × RowL × List Value × List HP × Nat × FH) (fun xQ => [(2, ptr b2 0), (3, ptr b3 0), (7, sv), (8, ii ((s.length : Int))), (9, ii (((xQ.1 : Nat) : Int)))]) (fun xQ => slH 22 1 xQ.2.1 xQ.2.2.2.2.2.1 xQ.2.2.2.1 :: cellsH b3 [xQ.2.1] 137 :: cellsH b2 [sN] 137 :: cellsH b1 [sv] 137 :: L) (fun xQ F' => xQ.2.2.2.2.2.2 = F' ∧ F ≤ xQ.2.2.2.2.2.2 ∧ (IsSl xQ.2.1) ∧ (RowsC xQ.2.2.2.2.2.2 xQ.2.2.2.1 xQ.2.2.1) ∧ (xQ.2.2.2.2.2.1 = xQ.2.2.1.length) ∧ (DeepL 1 (RowO 2) xQ.2.2.2.1 xQ.2.2.1 xQ.2.2.2.2.1) ∧ (Fresh F xQ.2.2.2.2.2.2 (star xQ.2.2.2.2.1)) ∧ (xQ.2.2.1 = trim ((plainGo 0 s).take xQ.1)) ∧ (xQ.1 ≤ s.length)) (fun xQ => s.length - xQ.1) (0, sN, [], [], [], 0, F) ⟨rfl, rfl, rfl, rfl, rfl, ⟨⟩⟩ (qQ (Sub.addNil 22 1 _ _) (sC (sC (sC (sC sR))))) ⟨rfl, FLe.refl _, (⟨_, _, _, rfl⟩), (CO.nil), (rfl), (DeepL.nil), (Fresh.nilL), (rfl), (by (try dsimp only) <;> omega)⟩ ?_)))))))))))))
 rintro ⟨k, ov, os, ocs, Us, m, G1⟩ rE _ _ ⟨rfl, leG, hov, hC, hm, hD, hZ, hos, hk⟩
 show X _ _ _ _ (envs [(2, ptr b2 0), (3, ptr b3 0), (7, sv), (8, ii ((s.length : Int))), (9, ii ((k : Int)))] rE) _ (slH 22 1 ov m ocs :: cellsH b3 [ov] 137 :: cellsH b2 [sN] 137 :: cellsH b1 [sv] 137 :: L)
 replace leG : F ≤ G1 := leG
 dsimp only at hov hC hm hD hZ hos hk
 have leG1 := leG
 replace hs := hs.mono leG1
 refine qc (qa (cX (qT rfl rfl (qb (qc ?_)))))
 refine qx (p := (k : Int) < (s.length : Int)) rfl (fun h1 => ?_) (fun h1 => ?_)
 ·refine qw (qc (qG (qc (qa (qd (ii ((k : Int))) rfl (cX (qy k qs qt rfl rfl rfl hs.slv (by omega) (Nat.mul_one _) ?_)))))))
  obtain ⟨a1, ha1, hr1⟩ := hs.rd (i := k) (by omega)
  refine cX (qh qM rfl (hr1 _) (qf (ii ((k : Int))) rfl (qf (a1) rfl (qb (qc (qc (qa (qd (a1) rfl (cX (qA qg rfl ha1.slv (cX (XOp.eql rfl rfl (qd (.bool (decide ((((((s.getD k [])).length : Nat) : Int) : Int) = 0))) rfl ?_)))))))))))))
  by_cases h2 : (((((s.getD k [])).length : Nat) : Int) : Int) = 0
  ·refine qE (t := 17) rfl (vT h2) (qE (t := 17) rfl (vT h2) (qE (t := 17) rfl (vT h2) (qE (t := 17) rfl (vT h2) (cX (jk (.bool (true)) (vT h2) rfl (qb (X.condT rfl (jb (qo (qI (qa (cX (qN (((k + 1 : Nat) : Int)) rfl rfl (by omega) (by omega) ?_)))))))))))))
   refine qd (ii (((k + 1 : Nat) : Int))) rfl (qb ?_)
   exact ⟨(k + 1, ov, os, ocs, Us, m, G1), _, leG1, rF, ⟨rfl, rfl, rfl, rfl, rfl, ⟨⟩⟩, (sC (sC (sC (sC sR)))), ⟨rfl, leG1, (hov), (hC), (hm), (hD), (hZ), (hos.trans (plain_skip (by omega) (by first | (left; exact List.eq_nil_of_length_eq_zero (by omega)) | (right; assumption))).symm), (by (try dsimp only) <;> omega)⟩, (by omega)⟩
  refine qu (t := 17) rfl (vF h2) (qr (a1) rfl (qu (t := 17) rfl (vF h2) (qr (ii ((k : Int))) rfl (qu (t := 17) rfl (vF h2) (jM <| qn (args := [ii (k : Int)]) call194 rfl (variable_spec (i := k) (hi := (by first | assumption | rfl | omega | simp))) ?_)))))
  rintro v1 _ _ _ ⟨rfl, hs1, rfl⟩
  refine ⟨_, _, rfl, fun F1 le1 hz1 => ?_⟩
  replace hs := hs.mono le1
  replace hC := hC.mono le1
  replace ha1 := ha1.mono le1
  have hf1 : IntsF F1 v1 (([-1 - (k : Int)])) := intsH.fz (xs := ([-1 - (k : Int)])) hz1.fz
  refine qu (t := 17) rfl (vF h2) (qn (args := [a1, v1]) call236 rfl (Equal_spec ha1 hf1 (hbd := (by first | assumption | rfl | omega | (left; simp; done) | (right; simp; done)))) ?_)
  rintro _ _ _ _ ⟨rfl, rfl, rfl⟩
  refine cX (ja (.bool (decide (((s.getD k [])) = (([-1 - (k : Int)]))))) (vF h2) rfl (qb ?_))
  refine qx (p := ((s.getD k [])) = (([-1 - (k : Int)]))) rfl (fun h3 => ?_) (fun h3 => ?_)
  ·refine jb (qo (qI (qa (cX (qN (((k + 1 : Nat) : Int)) rfl rfl (by omega) (by omega) (qd (ii (((k + 1 : Nat) : Int))) rfl (qb ?_)))))))
   exact ⟨(k + 1, ov, os, ocs, Us, m, F1), _, (qm leG1 le1), rF, ⟨rfl, rfl, rfl, rfl, rfl, ⟨⟩⟩, (sC (sC (sC (sC sR)))), ⟨rfl, (qm leG1 le1), (hov), (hC), (hm), (hD), ((hZ.mono le1)), (hos.trans (plain_skip (by omega) (by first | (left; exact List.eq_nil_of_length_eq_zero (by omega)) | (right; assumption))).symm), (by (try dsimp only) <;> omega)⟩, (by omega)⟩
  refine qw (qc (qG (jc (α := Nat × Value × RowL × List Value × List HP × Nat × FH) (fun xQ => [(2, ptr b2 0), (3, ptr b3 0), (4, ii ((k : Int))), (5, a1), (7, sv), (8, ii ((s.length : Int))), (9, ii ((k : Int)))]) (fun xQ => slH 22 1 xQ.2.1 xQ.2.2.2.2.2.1 xQ.2.2.2.1 :: cellsH b3 [xQ.2.1] 137 :: cellsH b2 [sN] 137 :: cellsH b1 [sv] 137 :: L) (fun xQ F' => xQ.2.2.2.2.2.2 = F' ∧ F1 ≤ xQ.2.2.2.2.2.2 ∧ (IsSl xQ.2.1) ∧ (RowsC xQ.2.2.2.2.2.2 xQ.2.2.2.1 xQ.2.2.1) ∧ (xQ.2.2.2.2.2.1 = xQ.2.2.1.length) ∧ (DeepL 1 (RowO 2) xQ.2.2.2.1 xQ.2.2.1 xQ.2.2.2.2.1) ∧ (Fresh F xQ.2.2.2.2.2.2 (star xQ.2.2.2.2.1)) ∧ (xQ.2.2.1 = os ++ List.replicate xQ.1 []) ∧ (xQ.2.2.1.length ≤ k)) (fun xQ => k - xQ.2.2.1.length) (0, ov, os, ocs, Us, m, F1) ⟨rfl, rfl, rfl, rfl, rfl, rfl, rfl, ⟨⟩⟩ (sC (sC (sC (sC sR)))) ⟨rfl, FLe.refl _, (hov), (hC), (hm), (hD), ((hZ.mono le1)), (by simp), (by have := trim_le ((plainGo 0 s).take k); rw [← hos, List.length_take] at this; (try dsimp only); omega)⟩ ?_)))
  rintro ⟨j, ov2, os2, ocs2, Vs, m2, G2⟩ rE _ _ ⟨rfl, leG, hov2, hC2, hm2, hD2, hZ2, hos2, hl2⟩
  show X _ _ _ _ (envs [(2, ptr b2 0), (3, ptr b3 0), (4, ii ((k : Int))), (5, a1), (7, sv), (8, ii ((s.length : Int))), (9, ii ((k : Int)))] rE) _ (slH 22 1 ov2 m2 ocs2 :: cellsH b3 [ov2] 137 :: cellsH b2 [sN] 137 :: cellsH b1 [sv] 137 :: L)
  replace leG : F1 ≤ G2 := leG
  dsimp only at hov2 hC2 hm2 hD2 hZ2 hos2 hl2
  have leG2 := leG
  replace hs := hs.mono leG2
  replace hC := hC.mono leG2
  replace ha1 := ha1.mono leG2
  refine qc (qc (qa (cX (qk (0) qO rfl qP (by decide) rfl rfl (cX (qh jg rfl (Rd.own [_] rfl rfl) (cX (qA qs rfl (SlV.own [] rfl) (qd (ii ((k : Int))) rfl (cX (qT rfl rfl (qb ?_))))))))))))
  refine qx (p := (m2 : Int) < (k : Int)) rfl (fun h4 => ?_) (fun h4 => ?_)
  ·refine qw (qG (qa (cX (qk (0) qO rfl qP (by decide) rfl rfl (cX (qh jg rfl (Rd.own [_] rfl rfl) (cX (qL (s := 1) [sN] [sN] [(0, [sN])] qs qt jP rfl (by decide) rfl (.cons rfl CellsAre.nil) rfl ?_))))))))
   intro v2 hv1
   refine cX (jQ (m := 1) (bytes := 24) (cs := ocs2) [_] _ [sN] qs typeInfo22 rfl rfl rfl rfl rfl rfl rfl (SlV.own [] rfl) rfl (Rd.lit [] rfl) (qi rfl qH) (by (try simp only [List.length_append, List.length_nil, List.length_cons, List.length_singleton]); omega) (by (try simp only [List.length_append, List.length_nil, List.length_cons, List.length_singleton]); omega) ?_)
   intro v3 hs2 hn1 hm1
   have hc1 := RowsC.snoc hC2 IntsF.nilV
   refine cX (qk (0) qO rfl qP (by decide) rfl rfl (cX (jw [_, _] _ [v3] qP rfl rfl (qC hs2) rfl rfl rfl (qb ?_))))
   exact ⟨(j + 1, v3, os2 ++ [[]], ocs2 ++ [(sN)], Vs ++ [intsH 2 sN []], (m2) + 1, G2), _, leG2, rF, ⟨rfl, rfl, rfl, rfl, rfl, rfl, rfl, ⟨⟩⟩, (sD (sC (sC (sC (sC sR))))), ⟨rfl, leG2, (hs2), (hc1), (by (try dsimp only); rw [List.length_append, List.length_singleton]; omega), (DeepL.snoc hD2 rfl ⟨_, rfl, rfl⟩), ((Fresh.app hZ2 (qm (qm leG1 le1) leG2) (Fresh.one (Fresh.empty nilLeaf)) rF)), (by dsimp only; rw [hos2, List.append_assoc, List.replicate_succ']), (by dsimp only; rw [List.length_append]; simp only [List.length_singleton]; omega)⟩, (by dsimp only; rw [List.length_append]; simp only [List.length_singleton]; omega)⟩
  refine jb (qo (qo (qI ?_)))
  refine yd [slH 22 1 ov2 m2 ocs2, cellsH b3 [ov2] 137, cellsH b2 [sN] 137, cellsH b1 [sv] 137] L 5 [[], [], [], [], [3]] [[], [0], [], [2], [3]] [] (phiG [pe (ptr b3 0), pe ov2, pe a1, fun FF us v => ((v) : Value) = v ∧ (IntsF FF (v) (((s.getD k [])))) ∧ (FrIntsF G2 FF 2 (v) (((s.getD k [])))), fun FF us v => ∃ b, v = .slice (some ⟨b, 0, none⟩) 1 1]) (ownL [o0, o0, o0, o0, fun us v => [slH 22 1 v 1 [((us.getD 0 undef))]]]) mixed rfl rfl (by kernel_rfl) (by kernel_rfl) (MonoG.get (m1 (m1 (m1 (mC (fun le h => ⟨h.1, h.2.1.mono le, h.2.2.mono le⟩) (mC (fun le h => h) MonoG.nil)))))) ?_ ?_
  ·refine gD (fun W Fs R lF z9 => ?_) ?_
   ·refine qj (qk (0) qO rfl qP (by decide) rfl rfl ?_)
    exact ⟨rfl, rfl⟩
   refine gD (fun W Fs R lF z9 => ?_) ?_
   ·replace hs := hs.mono lF
    replace hC := hC.mono lF
    replace ha1 := ha1.mono lF
    replace hC2 := hC2.mono lF
    rw [zA 0 (z9 0 rfl)]
    refine qj (qh jg rfl (Rd.own [_] rfl rfl) ?_)
    exact ⟨rfl, rfl⟩
   refine gD (fun W Fs R lF z9 => ?_) ?_
   ·refine qj (qr (a1) rfl ?_)
    exact ⟨rfl, rfl⟩
   refine gD (fun W Fs R lF z9 => ?_) ?_
   ·replace hs := hs.mono lF
    replace hC := hC.mono lF
    replace ha1 := ha1.mono lF
    replace hC2 := hC2.mono lF
    rw [zA 2 (z9 2 rfl)]
    refine qj (jM <| qn (args := [a1]) call96 rfl (Clone_spec ha1 (hlt := (hsb k (by omega)))) ?_)
    rintro v6 _ _ _ ⟨rfl, hs4, rfl⟩
    refine ⟨_, _, rfl, fun F2 le2 hz2 => ?_⟩
    replace hC := hC.mono le2
    replace hC2 := hC2.mono le2
    have hf2 : IntsF F2 v6 ((((s.getD k [])))) := intsH.fz (xs := (((s.getD k [])))) hz2.fz
    exact ⟨⟨rfl, hf2, (hz2.base lF)⟩, rfl⟩
   refine gD (fun W Fs R lF z9 => ?_) ?_
   ·obtain ⟨e3, f3_1ha, f3_1hz⟩ := z9 3 rfl
    replace hC := hC.mono lF
    replace hC2 := hC2.mono lF
    rw [eS (l := [(3, ((W 3)))]) ⟨(e3).symm, ⟨⟩⟩]
    refine qj (qL (s := 1) [((W 3))] [sN] [(0, [((W 3))])] qs qt jP rfl (by decide) rfl (.cons (cells_one (qB f3_1ha)) CellsAre.nil) rfl ?_)
    intro v7 hv3
    exact ⟨hv3, rfl⟩
   exact stepsG.nil
  intro W F3 le3 hphi
  obtain ⟨e3, f3_1ha, f3_1hz⟩ := hphi 3 (by decide)
  have f4 : ∃ b, (W 4) = .slice (some ⟨b, 0, none⟩) 1 1 := hphi 4 (by decide)
  generalize hu1 : ((W 3)) = u1 at e3 f3_1ha f3_1hz f4
  generalize huu4 : W 4 = u2 at e3 f3_1ha f3_1hz f4
  rw [eS (l := [(1, _), (3, u1), (4, u2)]) ⟨(hphi 1 (by decide)), hu1, huu4, ⟨⟩⟩]
  replace hC := hC.mono le3
  replace hC2 := hC2.mono le3
  show XL _ _ _ _ _ _ _ (slH 22 1 u2 1 [u1] :: slH 22 1 ov2 m2 ocs2 :: cellsH b3 [ov2] 137 :: cellsH b2 [sN] 137 :: cellsH b1 [sv] 137 :: L)
  refine cX (jQ (m := 1) (bytes := 24) (cs := ocs2) [_] _ [u1] qs typeInfo22 rfl rfl rfl rfl rfl rfl rfl (SlV.own [] rfl) rfl (Rd.lit [] rfl) (qi (qC (qB f3_1ha)) qH) (by (try simp only [List.length_append, List.length_nil, List.length_cons, List.length_singleton]); omega) (by (try simp only [List.length_append, List.length_nil, List.length_cons, List.length_singleton]); omega) ?_)
  intro v8 hs5 hn2 hm2
  have hc2 := RowsC.snoc hC2 f3_1ha
  skip
  refine cX (qk (0) qO rfl qP (by decide) rfl rfl (cX (jw [_, _] _ [v8] qP rfl rfl (qC hs5) rfl rfl rfl (qb (qa (cX (qN (((k + 1 : Nat) : Int)) rfl rfl (by omega) (by omega) (qd (ii (((k + 1 : Nat) : Int))) rfl (qb ?_)))))))))
  exact ⟨(k + 1, v8, os2 ++ [(((s.getD k [])))], ocs2 ++ [u1], Vs ++ [intsH 2 u1 ((((s.getD k []))))], (m2) + 1, F3), _, (qm (qm (qm leG1 le1) leG2) le3), rF, ⟨rfl, rfl, rfl, rfl, rfl, ⟨⟩⟩, (sD (sC (sC (sC (sC sR))))), ⟨rfl, (qm (qm (qm leG1 le1) leG2) le3), (hs5), (hc2), (by (try dsimp only); rw [List.length_append, List.length_singleton]; omega), (DeepL.snoc hD2 rfl ⟨_, rfl, rfl⟩), ((Fresh.app hZ2 (qm (qm leG1 le1) leG2) (Fresh.one f3_1hz) le3)), (plain_put (m := os2) (by omega) (by intro e; have := congrArg List.length e; simp only [List.length_nil] at this; omega) (by assumption) (by rw [hos2, hos]; exact plain_padded (by rw [← hos, ← hos2, List.length_take, plainGo_length]; omega))), (by (try dsimp only) <;> omega)⟩, (by omega)⟩
 refine jb (qo (qo (qI (qc (qa (cX (qq [ov] jv qR rfl rfl (Rd.ownN [_] rfl rfl) (cX (qD [_, _] _ [ov] qR rfl rfl rfl (qi (qC hov) qH) rfl rfl rfl (qb (jl [] _ _ rfl (fun F4 le4 hz3 => ?_))))))))))))
 replace hC := hC.mono le4
 have hf3 : RowsF F4 ov os := CO.fz hC (by first | rfl | omega | (rw [List.length_set]; omega) | (simp; done)) hz3.fz
 refine qv (qp (L' := L) [.agg #[ov]] (.agg #[ov]) (.cell rfl (jo [ov] jv qR rfl (Rd.ownN [_] rfl rfl)) .nil) rfl (qm leG1 le4) rF (sD (sD (sD sR))) ?_)
 have e : os = plainL s := by rw [hos, show k = s.length from by omega, plain_all]
 exact ⟨_, rfl, by rw [← e]; exact hf3, by rw [← e]; exact (Fresh.one (Fresh.deep hD hZ leG1 hz3 (by omega) le4)), rfl⟩

/- impl.match -/
theorem matchZ_spec {F : FH} {L : List HP} {arv : Value} {ar : List Int} (har : IntsF F arv ar) {pv : Value} {p : List Int} (hp : IntsF F pv p) {tv : Value} {t : List Int} (ht : IntsF F tv t) (ho : termOk ar t = true) (hpo : termOk ar p = true) :
    Does prog 144 [.agg #[arv], pv, tv] F (L) (fun v F' L' => ∃ (a : Value), (.tuple #[.agg #[a], .bool ((matchB ar p t).isSome)] : Value) = v ∧ (RowsF F' a (matchP ar p t)) ∧ (Fresh F F' (star [rowsD 2 22 a (matchP ar p t)])) ∧ L = L') := by
 refine qz func144 rfl rfl rfl ?_
 have hpl := termOk_len hpo
 have hpg := fun k (hk : k < p.length) => termOk_ge hpo hk
 refine qc (qa (cX (qW [arv] rfl rfl ?_)))
 intro b1
 refine cX (qS [sN] ji rfl ?_)
 intro b2
 refine qf (.bool (false)) rfl (qb (qc (qa (cX (qq [arv] jq qX rfl rfl (Rd.ownN [_] rfl rfl) (qd (pv) rfl (qd (tv) rfl (cX (XOp.build0 (List.replicate 24 (sN)) runUnderlying259 ⟨_, qt⟩ zeroValue259 rfl ?_)))))))))
 have hc1 : BindC F _ _ := BindC.nils 24
 refine cX (qn (args := [.agg #[arv], pv, tv, .agg (List.replicate 24 (sN)).toArray]) call214 rfl (matchInto_spec har hp ht hc1 ((by first | assumption | rfl | simp | omega)) (ho := (by first | assumption | rfl | omega | simp)) (hpl := (by first | assumption | rfl | omega | simp)) (hpg := (by first | assumption | rfl | omega | simp))) ?_)
 rintro _ _ _ _ ⟨rfl, x1, x2, rfl, hr1, hr2, hr3, rfl⟩
 have hbl24 := hr2
 refine qd (.tuple #[.agg (x1).toArray, .bool ((mGo ar t p 0 (List.replicate 24 ([] : List Int))).isSome)]) rfl (cX (qU (.agg (x1).toArray) rfl rfl (cX (qU (.bool ((mGo ar t p 0 (List.replicate 24 ([] : List Int))).isSome)) rfl rfl (cX (qS (List.replicate 24 (sN)) zeroValue259 rfl ?_))))))
 intro b3
 have hc2 : BindC F _ _ := BindC.nils 24
 refine cX (qD [] _ x1 yf rfl rfl (by have := CO.len hr1; (try simp only [List.length_set, List.length_replicate] at this ⊢) <;> omega) hr1.ones rfl (Nat.ble_eq_true_of_le (Nat.le_of_eq (by have := CO.len hc2; (try simp only [List.length_set, List.length_replicate] at this ⊢) <;> omega))) (arr_over (by have := CO.len hc2; (try simp only [List.length_set, List.length_replicate] at this ⊢) <;> omega)) (qf (.bool ((mGo ar t p 0 (List.replicate 24 ([] : List Int))).isSome)) rfl (qb (qc (qc (qa (qd (.bool ((mGo ar t p 0 (List.replicate 24 ([] : List Int))).isSome)) rfl (cX (jx rfl (qb ?_))))))))))
 refine ya (t := !((mGo ar t p 0 (List.replicate 24 ([] : List Int))).isSome)) rfl (fun h1 => ?_) (fun h1 => ?_)
 ·refine qc (qa (cX (jf [sN] [sN] [(0, 1)] [] qO ji rfl (.cons rfl qP PlacesAre.nil) rfl CellsAre.nil (cX (qD [_] _ [sN] qR rfl rfl rfl (qi rfl qH) rfl rfl rfl (qf (.bool (false)) rfl (qb (qv (ql (qp (L' := L) [.agg #[sN], .bool (false)] (.tuple #[.agg #[sN], .bool (false)]) (.cell rfl (jo [sN] jv qR rfl (Rd.ownN [_] rfl rfl)) (.tmp rfl .nil)) rfl rF rF (sD (sD (sD sR))) ?_))))))))))
  have hz : matchB ar p t = none := by have h0 := h1; simpa [matchB] using h0
  exact ⟨_, by rw [hz]; rfl, by rw [matchP, hz]; exact SlOf.nilV, by rw [matchP, hz]; exact Fresh.empty nilRowsD, rfl⟩
 have hz : ∃ r, matchB ar p t = some r := Option.isSome_iff_exists.1 (by have h0 := h1; simpa [matchB] using h0)
 have hmb : ∀ i, (x2.getD i []).length ≤ t.length := by obtain ⟨r, hz⟩ := hz; have e := hr3 _ hz; rw [e]; exact (matchB_len hz).2
 have htl := termOk_len ho
 refine qw (qc (qa (cX (qq x1 isAgg259 yf (by have := CO.len hr1; (try simp only [List.length_set, List.length_replicate] at this ⊢) <;> omega) rfl (Rd.ownN [] rfl take_all) (cX (qn (args := [.agg (x1).toArray]) call215 rfl (subst_spec hr1 ((by first | assumption | rfl | simp | omega))) ?_))))))
 rintro _ F2 _ le2 ⟨x3, rfl, hr4, rfl⟩
 refine cX (qn (args := [.agg #[x3]]) call193 rfl (plainZ_spec hr4 (hsl := (by first | assumption | rfl | omega | simp)) (hsb := (fun i hi => by have := hmb i; omega))) ?_)
 rintro _ F3 _ le3 ⟨x4, rfl, hr5, hr6, rfl⟩
 refine cX (qD [_] _ [x4] qR rfl rfl rfl (qi (qC (RowsF.isSl hr5)) qH) rfl rfl rfl (qf (.bool (true)) rfl (qb (qv (qp (L' := L) [.agg #[x4], .bool (true)] (.tuple #[.agg #[x4], .bool (true)]) (.cell rfl (jo [x4] jv qR rfl (Rd.ownN [_] rfl rfl)) (.tmp rfl .nil)) rfl (qm le2 le3) rF (sD (sD (sD sR))) ?_)))))
 obtain ⟨b0, hz⟩ := Option.isSome_iff_exists.1 (show (matchB ar p t).isSome = true from by have h0 := h1; simpa [matchB] using h0)
 have hb0 := hr3 _ hz
 exact ⟨_, by rw [hz]; rfl, by rw [matchP, hz]; subst hb0; exact hr5, by rw [matchP, hz]; subst hb0; exact (hr6.base le2), rfl⟩

/- impl.loopFrom$1 -/
theorem loopFrom1_spec {F : FH} {L : List HP} {p : Nat} {arv : Value} {ar : List Int} (har : IntsF F arv ar) {rsv : Value} {rs : List (List Int × List Int)} (hrs : PairsF F rsv rs) {bs : Nat} (hzbs : FzC F bs [arv, rsv]) {tv : Value} {t : List Int} (ht : IntsF F tv t) {bt : Nat} (hzbt : FzC F bt [tv]) {i1 : Int} {i2 : Int} {uv : Value} {u : List Int} (hu : IntsF F uv u) {bu : Nat} (hzbu : FzC F bu [ii (i1), ii (i2), uv]) (ho : termOk ar t = true) (huo : termOk ar u = true) (hp : p < u.length) :
    Does prog 288 [ii ((p : Int)), ptr bs 0, ptr bt 0, ptr bu 0] F (L) (fun v F' L' => ∃ (a : Value), (.tuple #[.agg #[a], .bool ((matchB ar t (sub ar u p)).isSome)] : Value) = v ∧ (RowsF F' a (matchP ar t (sub ar u p))) ∧ (Fresh F F' (star [rowsD 2 22 a (matchP ar t (sub ar u p))])) ∧ L = L') := by
 refine qz func288 rfl rfl rfl ?_
 have hun := yb hu (by have := termOk_len huo; omega)
 have hso := sub_ok huo hp
 refine qc (qa (cX (qS [sN] ji rfl ?_)))
 intro b1
 refine qf (.bool (false)) rfl (qb (qc ?_))
 refine yd [cellsH b1 [sN] 137] L 12 [[], [], [], [], [], [], [], [], [], [], [9]] [[], [0], [], [], [3], [], [5], [], [4, 6, 7], [1, 2, 8], [9], [9]] [] (phiG [pe (ptr bs 0), pe (.agg #[arv]), pe tv, pe (ptr bs 0), pe (.agg #[arv]), pe (ptr bu 2), pe uv, pe (ii ((p : Int)) : Value), fun FF us v => ((v) : Value) = v ∧ (IntsF FF (v) (sub ar u p)) ∧ (isNil (v) = false), fun FF us v => (.tuple #[.agg #[((aggAt (tupAt v 0) 0))], .bool ((matchB ar t ((sub ar u p))).isSome)] : Value) = v ∧ (RowsF FF ((aggAt (tupAt v 0) 0)) (matchP ar t ((sub ar u p)))) ∧ (FreshsF F FF (star [rowsD 2 22 ((aggAt (tupAt v 0) 0)) (matchP ar t ((sub ar u p)))])), fun FF us v => v = (.agg #[((aggAt (tupAt (us.getD 0 undef) 0) 0))] : Value), pe (.bool ((matchB ar t ((sub ar u p))).isSome))]) (ownL []) mixed rfl rfl (by kernel_rfl) (by kernel_rfl) (MonoG.get (m1 (m1 (m1 (m1 (m1 (m1 (m1 (m1 (mC (fun le h => ⟨h.1, h.2.1.mono le, h.2.2⟩) (mC (fun le h => ⟨h.1, h.2.1.mono le, h.2.2.mono le⟩) (mC (fun le h => h) (m1 MonoG.nil))))))))))))) ?_ ?_
 ·refine gD (fun W Fs R lF z9 => ?_) ?_
  ·refine qj (qk (0) qY rfl qX (by decide) rfl rfl ?_)
   exact ⟨rfl, rfl⟩
  refine gD (fun W Fs R lF z9 => ?_) ?_
  ·replace har := har.mono lF
   replace hzbs := hzbs.mono lF
   replace ht := ht.mono lF
   replace hzbt := hzbt.mono lF
   replace hu := hu.mono lF
   replace hzbu := hzbu.mono lF
   rw [zA 0 (z9 0 rfl)]
   refine qj (qq [arv] jq qX rfl rfl (FzC.rdN (o := 0) hzbs rfl) ?_)
   exact ⟨rfl, rfl⟩
  refine gD (fun W Fs R lF z9 => ?_) ?_
  ·replace har := har.mono lF
   replace hzbs := hzbs.mono lF
   replace ht := ht.mono lF
   replace hzbt := hzbt.mono lF
   replace hu := hu.mono lF
   replace hzbu := hzbu.mono lF
   refine qj (qh qM rfl (FzC.rd1 hzbt rfl) ?_)
   exact ⟨rfl, rfl⟩
  refine gD (fun W Fs R lF z9 => ?_) ?_
  ·refine qj (qk (0) qY rfl qX (by decide) rfl rfl ?_)
   exact ⟨rfl, rfl⟩
  refine gD (fun W Fs R lF z9 => ?_) ?_
  ·replace har := har.mono lF
   replace hzbs := hzbs.mono lF
   replace ht := ht.mono lF
   replace hu := hu.mono lF
   replace hzbu := hzbu.mono lF
   rw [zA 3 (z9 3 rfl)]
   refine qj (qq [arv] jq qX rfl rfl (FzC.rdN (o := 0) hzbs rfl) ?_)
   exact ⟨rfl, rfl⟩
  refine gD (fun W Fs R lF z9 => ?_) ?_
  ·refine qj (qk (2) jp rfl qt (by decide) rfl rfl ?_)
   exact ⟨rfl, rfl⟩
  refine gD (fun W Fs R lF z9 => ?_) ?_
  ·replace har := har.mono lF
   replace ht := ht.mono lF
   replace hu := hu.mono lF
   replace hzbu := hzbu.mono lF
   rw [zA 5 (z9 5 rfl)]
   refine qj (qh qM rfl (FzC.rd1 hzbu rfl) ?_)
   exact ⟨rfl, rfl⟩
  refine gD (fun W Fs R lF z9 => ?_) ?_
  ·refine qj (qr (ii ((p : Int))) rfl ?_)
   exact ⟨rfl, rfl⟩
  refine gD (fun W Fs R lF z9 => ?_) ?_
  ·replace har := har.mono lF
   replace ht := ht.mono lF
   replace hu := hu.mono lF
   rw [eS (l := [(4, _), (6, _), (7, _)]) ⟨z9 4 rfl, z9 6 rfl, z9 7 rfl, ⟨⟩⟩]
   refine qj (qn (args := [.agg #[arv], uv, ii (p : Int)]) call142 rfl (subAt_spec (p := p) har hu (ho := (huo)) (hp := (hp)) (hnn := (by first | assumption | exact hun))) ?_)
   rintro v2 _ _ _ ⟨rfl, rfl, hv2, hn2⟩
   exact ⟨⟨rfl, hv2, hn2⟩, rfl⟩
  refine gD (fun W Fs R lF z9 => ?_) ?_
  ·obtain ⟨e8, f8_1ha, f8_1hn⟩ := z9 8 rfl
   replace har := har.mono lF
   replace ht := ht.mono lF
   rw [eS (l := [(1, _), (2, _), (8, ((W 8)))]) ⟨z9 1 rfl, z9 2 rfl, (e8).symm, ⟨⟩⟩]
   refine qj (qn (args := [.agg #[arv], tv, ((W 8))]) call144 rfl (matchZ_spec har ht f8_1ha (ho := (hso)) (hpo := (ho))) ?_)
   rintro _ F2 _ le2 ⟨x2, rfl, hr3, hr4, rfl⟩
   replace f8_1ha := f8_1ha.mono le2
   exact ⟨⟨rfl, hr3, (hr4.base lF)⟩, rfl⟩
  refine gD (fun W Fs R lF z9 => ?_) ?_
  ·obtain ⟨e9, f9_1hr, f9_1hz⟩ := z9 9 rfl
   rw [eS (l := [(9, (.tuple #[.agg #[((aggAt (tupAt (W 9) 0) 0))], .bool ((matchB ar t ((sub ar u p))).isSome)]))]) ⟨(e9).symm, ⟨⟩⟩]
   refine qj (qU (.agg #[((aggAt (tupAt (W 9) 0) 0))]) rfl rfl ?_)
   exact ⟨rfl, rfl⟩
  refine gD (fun W Fs R lF z9 => ?_) ?_
  ·obtain ⟨e9, f9_1hr, f9_1hz⟩ := z9 9 rfl
   rw [eS (l := [(9, (.tuple #[.agg #[((aggAt (tupAt (W 9) 0) 0))], .bool ((matchB ar t ((sub ar u p))).isSome)]))]) ⟨(e9).symm, ⟨⟩⟩]
   refine qj (qU (.bool ((matchB ar t ((sub ar u p))).isSome)) rfl rfl ?_)
   exact ⟨rfl, rfl⟩
  exact stepsG.nil
 intro W F3 le3 hphi
 obtain ⟨e8, f8_1ha, f8_1hn⟩ := hphi 8 (by decide)
 obtain ⟨e9, f9_1hr, f9_1hz⟩ := hphi 9 (by decide)
 have e10 : W 10 = (.agg #[((aggAt (tupAt (W 9) 0) 0))] : Value) := hphi 10 (by decide)
 generalize hu1 : ((W 8)) = u1 at e8 f8_1ha f8_1hn e9 f9_1hr f9_1hz e10
 generalize hu2 : ((aggAt (tupAt (W 9) 0) 0)) = u2 at e8 f8_1ha f8_1hn e9 f9_1hr f9_1hz e10
 rw [eS (l := [(9, (.tuple #[.agg #[u2], .bool ((matchB ar t ((sub ar u p))).isSome)])), (10, (.agg #[u2])), (11, _)]) ⟨(e9).symm, e10, (hphi 11 (by decide)), ⟨⟩⟩]
 show XL _ _ _ _ _ _ _ (cellsH b1 [sN] 137 :: L)
 refine cX (qD [] _ [u2] qR rfl rfl rfl (qi (qC (RowsF.isSl f9_1hr)) qH) rfl rfl rfl (qf (.bool ((matchB ar t ((sub ar u p))).isSome)) rfl (qb (qv (qp (L' := L) [.agg #[u2], .bool ((matchB ar t ((sub ar u p))).isSome)] (.tuple #[.agg #[u2], .bool ((matchB ar t ((sub ar u p))).isSome)]) (.cell rfl (jo [u2] jv qR rfl (Rd.ownN [] rfl rfl)) (.tmp rfl .nil)) rfl le3 rF (sD sR) ?_)))))
 exact ⟨_, rfl, f9_1hr, f9_1hz, rfl⟩

/- impl.firstPlace -/
theorem firstPlace_spec {F : FH} {L : List HP} {wv : Value} {w : List Int} (hw : IntsF F wv w) {arv : Value} {ar : List Int} (har : IntsF F arv ar) {rsv : Value} {rs : List (List Int × List Int)} (hrs : PairsF F rsv rs) {bs : Nat} (hzbs : FzC F bs [arv, rsv]) {tv : Value} {t : List Int} (ht : IntsF F tv t) {bt : Nat} (hzbt : FzC F bt [tv]) {i1 : Int} {i2 : Int} {uv : Value} {u : List Int} (hu : IntsF F uv u) {bu : Nat} (hzbu : FzC F bu [ii (i1), ii (i2), uv]) (ho : termOk ar t = true) (huo : termOk ar u = true) (hwl : w.length = u.length) :
    Does prog 287 [wv, .func (.func 288) #[] #[ptr bs 0, ptr bt 0, ptr bu 0]] F (L) (fun v F' L' => ∃ (a : Value), (.tuple #[ii (instI ar t u), .agg #[a]] : Value) = v ∧ (RowsF F' a (placeS ar t u)) ∧ (Fresh F F' (star [rowsD 2 22 a (placeS ar t u)])) ∧ L = L') := by
 refine qz func287 rfl rfl rfl ?_
 have hul := termOk_len huo
 refine qc (qa (qf (ii (0)) rfl (cX (qS [sN] ji rfl ?_))))
 intro b1
 refine qb (qc (qc (qa (qd (wv) rfl (cX (qA qg rfl hw.slv (qd (ii (0)) rfl (qb (qG (jc (α := Nat × FH) (fun xQ => [(1, .func (.func 288) #[] #[ptr bs 0, ptr bt 0, ptr bu 0]), (5, ptr b1 0), (10, ii ((w.length : Int))), (11, ii (((xQ.1 : Nat) : Int)))]) (fun xQ => cellsH b1 [sN] 137 :: L) (fun xQ F' => xQ.2 = F' ∧ F ≤ xQ.2 ∧ (xQ.1 ≤ u.length) ∧ (∀ i, i < xQ.1 → (matchB ar t (sub ar u i)).isSome = false)) (fun xQ => u.length - xQ.1) (0, F) ⟨rfl, rfl, rfl, rfl, ⟨⟩⟩ (sC sR) ⟨rfl, FLe.refl _, (by (try dsimp only) <;> omega), (fun i hi => absurd hi (by omega))⟩ ?_))))))))))
 rintro ⟨k, G1⟩ rE _ _ ⟨rfl, leG, hk, hall⟩
 show X _ _ _ _ (envs [(1, .func (.func 288) #[] #[ptr bs 0, ptr bt 0, ptr bu 0]), (5, ptr b1 0), (10, ii ((w.length : Int))), (11, ii ((k : Int)))] rE) _ (cellsH b1 [sN] 137 :: L)
 replace leG : F ≤ G1 := leG
 dsimp only at hk hall
 have leG1 := leG
 replace har := har.mono leG1
 replace hrs := hrs.mono leG1
 replace hzbs := hzbs.mono leG1
 replace ht := ht.mono leG1
 replace hzbt := hzbt.mono leG1
 replace hu := hu.mono leG1
 replace hzbu := hzbu.mono leG1
 refine qc (qa (cX (qT rfl rfl (qb (qc ?_)))))
 refine qx (p := (k : Int) < (w.length : Int)) rfl (fun h1 => ?_) (fun h1 => ?_)
 ·refine qw (qc (qG (qc (qa (qd (ii ((k : Int))) rfl (qf (ii ((k : Int))) rfl (qb (qc (qa (qd (.func (.func 288) #[] #[ptr bs 0, ptr bt 0, ptr bu 0]) rfl (qd (ii ((k : Int))) rfl (cX (XOp.callV (first := []) (captured := [ptr bs 0, ptr bt 0, ptr bu 0]) (args := [ii (k : Int), ptr bs 0, ptr bt 0, ptr bu 0]) call288 rfl rfl (loopFrom1_spec (p := k) har hrs hzbs ht hzbt hu hzbu (ho := (by first | assumption | rfl | omega | simp)) (huo := (by first | assumption | rfl | omega | simp)) (hp := (by first | assumption | rfl | omega | simp))) ?_)))))))))))))
  rintro _ F1 _ le1 ⟨x1, rfl, hr1, hr2, rfl⟩
  refine qd (.tuple #[.agg #[x1], .bool ((matchB ar t (sub ar u k)).isSome)]) rfl (cX (qU (.agg #[x1]) rfl rfl (cX (qU (.bool ((matchB ar t (sub ar u k)).isSome)) rfl rfl (cX (qS [sN] ji rfl ?_))))))
  intro b2
  refine cX (qD [] _ [x1] qR rfl rfl rfl (qi (qC (RowsF.isSl hr1)) qH) rfl rfl rfl (qf (.bool ((matchB ar t (sub ar u k)).isSome)) rfl (qb (qc (qa (qd (.bool ((matchB ar t (sub ar u k)).isSome)) rfl (qb ?_)))))))
  refine ya (t := (matchB ar t (sub ar u k)).isSome) rfl (fun h2 => ?_) (fun h2 => ?_)
  ·refine qc ?_
   refine jV [cellsH b2 [x1] 137, cellsH b1 [sN] 137] L 3 [] [[], [], [0]] (phiL [qe (ii ((k : Int)) : Value), qe (.agg #[x1]), qe (ii ((k : Int)) : Value)]) (ownL []) mixed rfl rfl (by kernel_rfl) ?_ ?_
   ·refine pD (fun W R z9 => ?_) ?_
    ·refine qj (qr (ii ((k : Int))) rfl ?_)
     exact ⟨rfl, rfl, rfl⟩
    refine pD (fun W R z9 => ?_) ?_
    ·refine qj (qq [x1] jv qR rfl rfl (Rd.ownN [] rfl rfl) ?_)
     exact ⟨rfl, rfl, rfl⟩
    refine pD (fun W R z9 => ?_) ?_
    ·rw [zA 0 (z9 0 rfl)]
     refine qj (XOp.assign (ii ((k : Int))) rfl ?_)
     exact ⟨rfl, rfl, rfl⟩
    exact stepsP.nil
   intro W hphi
   rw [zB 1 2 (hphi 1 (by decide)) (hphi 2 (by decide))]
   show XL _ _ _ _ _ _ _ (cellsH b2 [x1] 137 :: cellsH b1 [sN] 137 :: L)
   refine cX (qD [_] _ [x1] qR rfl rfl rfl (qi (qC (RowsF.isSl hr1)) qH) rfl rfl rfl (qb (qv (qF (ql (ql (qF (ql (qp (L' := L) [ii ((k : Int)), .agg #[x1]] (.tuple #[ii ((k : Int)), .agg #[x1]]) (.tmp rfl (.cell rfl (jo [x1] jv qR rfl (Rd.ownN [_] rfl rfl)) .nil)) rfl (qm leG1 le1) rF (sD (sD sR)) ?_)))))))))
   have e := instI_at (by omega) (by assumption) hall
   have e2 := placeS_at e
   exact ⟨_, by rw [e], by rw [e2]; exact hr1, by rw [e2]; exact (hr2.base leG1), rfl⟩
  refine qw (qa (cX (qN (((k + 1 : Nat) : Int)) rfl rfl (by omega) (by omega) (qd (ii (((k + 1 : Nat) : Int))) rfl (qb ?_)))))
  exact ⟨(k + 1, F1), _, (qm leG1 le1), rF, ⟨rfl, rfl, rfl, rfl, ⟨⟩⟩, (sD (sC sR)), ⟨rfl, (qm leG1 le1), (by (try dsimp only) <;> omega), (fun i hi => (Nat.lt_or_ge i k).elim (fun h => hall i h) (fun h => by obtain rfl : i = k := (by omega); assumption))⟩, (by omega)⟩
 refine jb (qo (qo (qI (qc (qa (cX (jf [sN] [sN] [(0, 1)] [] qO ji rfl (.cons rfl qP PlacesAre.nil) rfl CellsAre.nil (qf (ii (-1)) rfl (cX (qD [] _ [sN] qR rfl rfl rfl (qi rfl qH) rfl rfl rfl (qb (qv (qp (L' := L) [ii (-1), .agg #[sN]] (.tuple #[ii (-1), .agg #[sN]]) (.tmp rfl (.cell rfl (jo [sN] jv qR rfl (Rd.ownN [] rfl rfl)) .nil)) rfl leG1 rF (sD sR) ?_)))))))))))))
 have e := instI_none (fun i hi => hall i (by omega))
 have e2 := placeS_none e
 exact ⟨_, by rw [e], by rw [e2]; exact SlOf.nilV, by rw [e2]; exact Fresh.empty nilRowsD, rfl⟩

/- impl.loopFrom -/
set_option maxHeartbeats 1000000 in
set_option maxRecDepth 20000 in
theorem loopFrom_spec {F : FH} {L : List HP} {arv : Value} {ar : List Int} (har : IntsF F arv ar) {rsv : Value} {rs : List (List Int × List Int)} (hrs : PairsF F rsv rs) {tv : Value} {t : List Int} (ht : IntsF F tv t) {n : Int} (hsys : sysOk ar rs = true) (ho : termOk ar t = true) (hn20 : 1 ≤ n ∧ n ≤ 20) :
    Does prog 187 [.agg #[arv, rsv], tv, ii (n)] F (L) (fun v F' L' => ∃ (a : Value), ∃ (b : Value), ∃ (c : Value), (.tuple #[.agg #[a, b, ii ((loop0 ar rs t (reachL ar rs t (n - 1)).1).2.2.1), c], .bool ((loop0 ar rs t (reachL ar rs t (n - 1)).1).2.2.2.2)] : Value) = v ∧ (IntsF F' a (loop0 ar rs t (reachL ar rs t (n - 1)).1).1) ∧ (StepsF F' b (loop0 ar rs t (reachL ar rs t (n - 1)).1).2.1) ∧ (RowsF F' c (loop0 ar rs t (reachL ar rs t (n - 1)).1).2.2.2.1) ∧ (Fresh F F' (star [intsH 2 a (loop0 ar rs t (reachL ar rs t (n - 1)).1).1, stepsD 2 192 b (loop0 ar rs t (reachL ar rs t (n - 1)).1).2.1, rowsD 2 22 c (loop0 ar rs t (reachL ar rs t (n - 1)).1).2.2.2.1])) ∧ L = L') := by
 refine qz func187 rfl rfl rfl ?_
 have hgd := reachL_good (ar := ar) (rs := rs) (t := t) (n := n - 1) (by omega)
 have hrk := reachL_ok (n := n - 1) hsys ho
 have hrl := hrk.1
 have hrd : ∀ i, i < (reachL ar rs t (n - 1)).1.length → (EL (reachL ar rs t (n - 1)).1 i).1.length ≤ 60 := fun i hi => (termOk_len (hrk.2 i hi)).2
 have hrs12 := (sysOk_iff.1 hsys).2.1
 refine qc (qa (cX (qW [arv, rsv] rfl rfl ?_)))
 intro b1
 refine cX (qW [tv] rfl (cells_one (qB ht)) ?_)
 intro b2
 refine cX (qS [sN, sN, ii (0), sN] jJ rfl ?_)
 intro b3
 refine qf (.bool (false)) rfl (qb (qc (qa (cX (qq [arv, rsv] jL jy rfl rfl (Rd.ownN [_, _] rfl rfl) (cX (qh qM rfl (Rd.own [_] rfl rfl) (qd (ii (n)) rfl (cX (jG (n - 1) rfl rfl (by omega) (by omega) (cX (qn (args := [.agg #[arv, rsv], tv, ii (n - 1)]) call131 rfl (reach_spec (n := n - 1) har hrs ht (hsys := (by first | assumption | rfl | omega | (left; simp; done) | (right; simp; done))) (ho := (by first | assumption | rfl | omega | (left; simp; done) | (right; simp; done))) (hn20 := (by first | assumption | rfl | omega | (left; simp; done) | (right; simp; done)))) ?_))))))))))))
 rintro _ F1 _ le1 ⟨x1, xcs1, xLs1, rfl, hx1, hxD1, hxZ1, rfl⟩
 replace har := har.mono le1
 replace hrs := hrs.mono le1
 replace ht := ht.mono le1
 refine qd (.tuple #[x1, .bool ((reachL ar rs t (n - 1)).2)]) rfl (cX (qU (x1) rfl rfl (cX (qU (.bool ((reachL ar rs t (n - 1)).2)) rfl rfl (qf (x1) rfl (qf (.bool ((reachL ar rs t (n - 1)).2)) rfl (qb (qc (qc (qa (XL.freeze [_, _] _ _ rfl (fun F2 le2 hz1 => ?_))))))))))))
 replace har := har.mono le2
 replace hrs := hrs.mono le2
 replace ht := ht.mono le2
 replace hx1 := hx1.mono le2
 have hf1 : FzC F2 b1 [arv, rsv] := Fz.cells hz1
 refine XL.freeze [_] _ _ rfl (fun F3 le3 hz2 => ?_)
 replace har := har.mono le3
 replace hrs := hrs.mono le3
 replace ht := ht.mono le3
 replace hx1 := hx1.mono le3
 replace hf1 := hf1.mono le3
 have hf2 : FzC F3 b2 [tv] := Fz.cells hz2
 skip
 refine qd (x1) rfl (cX (qA jI rfl hx1.slv (qd (ii (0)) rfl (qb (qG (jc (α := Nat × FH) (fun xQ => [(3, ptr b1 0), (4, ptr b2 0), (6, ptr b3 0), (8, x1), (27, x1), (28, ii (((((reachL ar rs t (n - 1)).1).length : Nat) : Int))), (29, ii (((xQ.1 : Nat) : Int)))]) (fun xQ => cellsH b3 [sN, sN, ii (0), sN] 139 :: L) (fun xQ F' => xQ.2 = F' ∧ F3 ≤ xQ.2 ∧ (xQ.1 ≤ (reachL ar rs t (n - 1)).1.length) ∧ (∀ i, i < xQ.1 → nextI ar t (stepsL ar rs (EL (reachL ar rs t (n - 1)).1 i).1) < 0)) (fun xQ => (reachL ar rs t (n - 1)).1.length - xQ.1) (0, F3) ⟨rfl, rfl, rfl, rfl, rfl, rfl, rfl, ⟨⟩⟩ (sC sR) ⟨rfl, FLe.refl _, (by (try dsimp only) <;> omega), (fun i hi => absurd hi (by omega))⟩ ?_))))))
 rintro ⟨k, G1⟩ rE _ _ ⟨rfl, leG, hk, hno⟩
 show X _ _ _ _ (envs [(3, ptr b1 0), (4, ptr b2 0), (6, ptr b3 0), (8, x1), (27, x1), (28, ii (((((reachL ar rs t (n - 1)).1).length : Nat) : Int))), (29, ii ((k : Int)))] rE) _ (cellsH b3 [sN, sN, ii (0), sN] 139 :: L)
 replace leG : F3 ≤ G1 := leG
 dsimp only at hk hno
 have hka := fun (h : k < (reachL ar rs t (n - 1)).1.length) => (show termOk ar ((reachL ar rs t (n - 1)).1.getD k ([], 0, (0, 0, []), 0)).1 = true from hrk.2 k h)
 have hkl := fun (h : k < (reachL ar rs t (n - 1)).1.length) => termOk_len (hka h)
 have leG1 := leG
 replace har := har.mono leG1
 replace hrs := hrs.mono leG1
 replace ht := ht.mono leG1
 replace hx1 := hx1.mono leG1
 replace hf1 := hf1.mono leG1
 replace hf2 := hf2.mono leG1
 refine qc (qa (cX (qT rfl rfl (qb (qc ?_)))))
 refine qx (p := (k : Int) < ((((reachL ar rs t (n - 1)).1).length : Nat) : Int)) rfl (fun h1 => ?_) (fun h1 => ?_)
 ·refine qw (qc (qG (qc (qa (qd (ii ((k : Int))) rfl (cX (qy k jI sizeOf194 rfl rfl rfl hx1.slv (by omega) rfl ?_)))))))
  obtain ⟨a1, a2, ha1, ha2, hrg1, hq1⟩ := hx1.rd (i := k) (by omega)
  refine cX (qq [a1, ii ((((reachL ar rs t (n - 1)).1).getD k ([], 0, (0, 0, []), 0)).2.1), ii ((((reachL ar rs t (n - 1)).1).getD k ([], 0, (0, 0, []), 0)).2.2.1.1), ii ((((reachL ar rs t (n - 1)).1).getD k ([], 0, (0, 0, []), 0)).2.2.1.2.1), a2, ii ((((reachL ar rs t (n - 1)).1).getD k ([], 0, (0, 0, []), 0)).2.2.2)] isAgg194 sizeOf194 rfl rfl (Rd.all (hrg1 _)) (cX (qS [sN, ii (0), ii (0), ii (0), sN, ii (0)] zeroValue194 rfl ?_)))
  intro b4
  refine qf (ii ((k : Int))) rfl (cX (qD [] _ [a1, ii ((((reachL ar rs t (n - 1)).1).getD k ([], 0, (0, 0, []), 0)).2.1), ii ((((reachL ar rs t (n - 1)).1).getD k ([], 0, (0, 0, []), 0)).2.2.1.1), ii ((((reachL ar rs t (n - 1)).1).getD k ([], 0, (0, 0, []), 0)).2.2.1.2.1), a2, ii ((((reachL ar rs t (n - 1)).1).getD k ([], 0, (0, 0, []), 0)).2.2.2)] sizeOf194 rfl rfl rfl (qi (qC (qB ha1)) (qi rfl (qi rfl (qi rfl (qi (qC (qB ha2)) (qi rfl qH)))))) rfl rfl rfl (qb (qc (qa (cX (qq [arv, rsv] jL jy rfl rfl (FzC.rd hf1 rfl) (cX (qk (0) jZ rfl qt (by decide) rfl rfl (cX (qh qM rfl (Rd.own [] rfl rfl) (cX (qn (args := [.agg #[arv, rsv], a1]) call241 rfl (stepsFrom_spec har hrs ha1 (hsys := (hsys)) (ho := (hka (by omega)))) ?_)))))))))))))
  rintro _ F4 _ le4 ⟨x2, rfl, hx2, rfl⟩
  replace har := har.mono le4
  replace hrs := hrs.mono le4
  replace ht := ht.mono le4
  replace hx1 := hx1.mono le4
  replace hf1 := hf1.mono le4
  replace hf2 := hf2.mono le4
  refine qd (.tuple #[x2, .bool (longL ar rs ((((reachL ar rs t (n - 1)).1).getD k ([], 0, (0, 0, []), 0)).1))]) rfl (cX (qU (x2) rfl rfl (cX (qU (.bool (longL ar rs ((((reachL ar rs t (n - 1)).1).getD k ([], 0, (0, 0, []), 0)).1))) rfl rfl (qf (x2) rfl (qf (.bool (longL ar rs ((((reachL ar rs t (n - 1)).1).getD k ([], 0, (0, 0, []), 0)).1))) rfl (qb (qc (qa ?_)))))))))
  obtain ⟨cso1, Lso1, hXo1, hDo1, hZo1⟩ := hx2
  skip
  refine qd (x2) rfl (cX (qA qV rfl hXo1.slv (qd (ii (0)) rfl (qb (qG (jc (α := Nat × FH) (fun xQ => [(3, ptr b1 0), (4, ptr b2 0), (6, ptr b3 0), (8, x1), (10, ii ((k : Int))), (27, x1), (28, ii (((((reachL ar rs t (n - 1)).1).length : Nat) : Int))), (29, ii ((k : Int))), (41, x2), (42, ii (((((stepsL ar rs ((((reachL ar rs t (n - 1)).1).getD k ([], 0, (0, 0, []), 0)).1))).length : Nat) : Int))), (43, ii (((xQ.1 : Nat) : Int)))]) (fun xQ => cellsH b4 [a1, ii ((((reachL ar rs t (n - 1)).1).getD k ([], 0, (0, 0, []), 0)).2.1), ii ((((reachL ar rs t (n - 1)).1).getD k ([], 0, (0, 0, []), 0)).2.2.1.1), ii ((((reachL ar rs t (n - 1)).1).getD k ([], 0, (0, 0, []), 0)).2.2.1.2.1), a2, ii ((((reachL ar rs t (n - 1)).1).getD k ([], 0, (0, 0, []), 0)).2.2.2)] 194 :: cellsH b3 [sN, sN, ii (0), sN] 139 :: L) (fun xQ F' => xQ.2 = F' ∧ F4 ≤ xQ.2 ∧ (xQ.1 ≤ (stepsL ar rs ((reachL ar rs t (n - 1)).1.getD k ([], 0, (0, 0, []), 0)).1).length) ∧ (∀ i, i < xQ.1 → instI ar t ((stepsL ar rs ((reachL ar rs t (n - 1)).1.getD k ([], 0, (0, 0, []), 0)).1).getD i (0, 0, [])).2.2 < 0)) (fun xQ => (stepsL ar rs ((reachL ar rs t (n - 1)).1.getD k ([], 0, (0, 0, []), 0)).1).length - xQ.1) (0, F4) ⟨rfl, rfl, rfl, rfl, rfl, rfl, rfl, rfl, rfl, rfl, rfl, ⟨⟩⟩ (sC (sC sR)) ⟨rfl, FLe.refl _, (by (try dsimp only) <;> omega), (fun i hi => absurd hi (by omega))⟩ ?_))))))
  rintro ⟨q, G2⟩ rE _ _ ⟨rfl, leG, hq, hnq⟩
  show X _ _ _ _ (envs [(3, ptr b1 0), (4, ptr b2 0), (6, ptr b3 0), (8, x1), (10, ii ((k : Int))), (27, x1), (28, ii (((((reachL ar rs t (n - 1)).1).length : Nat) : Int))), (29, ii ((k : Int))), (41, x2), (42, ii (((((stepsL ar rs ((((reachL ar rs t (n - 1)).1).getD k ([], 0, (0, 0, []), 0)).1))).length : Nat) : Int))), (43, ii ((q : Int)))] rE) _ (cellsH b4 [a1, ii ((((reachL ar rs t (n - 1)).1).getD k ([], 0, (0, 0, []), 0)).2.1), ii ((((reachL ar rs t (n - 1)).1).getD k ([], 0, (0, 0, []), 0)).2.2.1.1), ii ((((reachL ar rs t (n - 1)).1).getD k ([], 0, (0, 0, []), 0)).2.2.1.2.1), a2, ii ((((reachL ar rs t (n - 1)).1).getD k ([], 0, (0, 0, []), 0)).2.2.2)] 194 :: cellsH b3 [sN, sN, ii (0), sN] 139 :: L)
  replace leG : F4 ≤ G2 := leG
  dsimp only at hq hnq
  have hnl : (stepsL ar rs ((reachL ar rs t (n - 1)).1.getD k ([], 0, (0, 0, []), 0)).1).length ≤ 1000 := by have h9 := stepsTo_len (ar := ar) (t := ((reachL ar rs t (n - 1)).1.getD k ([], 0, (0, 0, []), 0)).1) (rs := rs) hrs12 ((reachL ar rs t (n - 1)).1.getD k ([], 0, (0, 0, []), 0)).1.length; have h8 := hkl (by omega); show (stepsTo ar rs ((reachL ar rs t (n - 1)).1.getD k ([], 0, (0, 0, []), 0)).1 ((reachL ar rs t (n - 1)).1.getD k ([], 0, (0, 0, []), 0)).1.length).length ≤ 1000; omega
  have hqo := fun (h : q < (stepsL ar rs ((reachL ar rs t (n - 1)).1.getD k ([], 0, (0, 0, []), 0)).1).length) => steps_ok hsys (hka (by omega)) h
  have hql := fun (h : q < (stepsL ar rs ((reachL ar rs t (n - 1)).1.getD k ([], 0, (0, 0, []), 0)).1).length) => termOk_len (hqo h)
  have leG2 := leG
  replace har := har.mono leG2
  replace hrs := hrs.mono leG2
  replace ht := ht.mono leG2
  replace hx1 := hx1.mono leG2
  replace hf1 := hf1.mono leG2
  replace hf2 := hf2.mono leG2
  replace hXo1 := hXo1.mono leG2
  refine qc (qa (cX (qT rfl rfl (qb (qc ?_)))))
  refine qx (p := (q : Int) < ((((stepsL ar rs ((((reachL ar rs t (n - 1)).1).getD k ([], 0, (0, 0, []), 0)).1))).length : Nat) : Int)) rfl (fun h2 => ?_) (fun h2 => ?_)
  ·refine qw (qc (qG (qc (qa (cX (qy q qV jd rfl rfl rfl hXo1.slv (by omega) rfl ?_))))))
   obtain ⟨a3, ha3, hr1, hr2, hr3, hq2⟩ := hXo1.rd (i := q) (by omega)
   refine cX (qq [ii ((((stepsL ar rs ((((reachL ar rs t (n - 1)).1).getD k ([], 0, (0, 0, []), 0)).1))).getD q (0, 0, [])).1), ii ((((stepsL ar rs ((((reachL ar rs t (n - 1)).1).getD k ([], 0, (0, 0, []), 0)).1))).getD q (0, 0, [])).2.1), a3] isAgg192 jd rfl rfl (Rd.three (hr1 _) (hr2 _) (hr3 _)) (cX (qS [ii (0), ii (0), sN] jE rfl ?_)))
   intro b5
   refine cX (qD [] _ [ii ((((stepsL ar rs ((((reachL ar rs t (n - 1)).1).getD k ([], 0, (0, 0, []), 0)).1))).getD q (0, 0, [])).1), ii ((((stepsL ar rs ((((reachL ar rs t (n - 1)).1).getD k ([], 0, (0, 0, []), 0)).1))).getD q (0, 0, [])).2.1), a3] jd rfl rfl rfl (qi rfl (qi rfl (qi (qC (qB ha3)) qH))) rfl rfl rfl (qb (qc (qa (cX (qk (2) jp rfl qt (by decide) rfl rfl (cX (qh qM rfl (Rd.own [] rfl rfl) (cX (XOp.makeFuncL [] [ptr b1 0, ptr b2 0, ptr b5 0] rfl rfl (XL.freeze [] _ _ rfl (fun F5 le5 hz3 => ?_))))))))))))
   replace har := har.mono le5
   replace hrs := hrs.mono le5
   replace ht := ht.mono le5
   replace hx1 := hx1.mono le5
   replace hf1 := hf1.mono le5
   replace hf2 := hf2.mono le5
   replace ha3 := ha3.mono le5
   have hf3 : FzC F5 b5 [ii ((((stepsL ar rs ((((reachL ar rs t (n - 1)).1).getD k ([], 0, (0, 0, []), 0)).1))).getD q (0, 0, [])).1), ii ((((stepsL ar rs ((((reachL ar rs t (n - 1)).1).getD k ([], 0, (0, 0, []), 0)).1))).getD q (0, 0, [])).2.1), a3] := Fz.cells hz3
   refine cX (qn (args := [a3, .func (.func 288) #[] #[ptr b1 0, ptr b2 0, ptr b5 0]]) call287 rfl (firstPlace_spec ha3 har hrs hf1 ht hf2 ha3 hf3 (ho := (ho)) (huo := (hqo (by omega))) (hwl := (rfl))) ?_)
   rintro _ F6 _ le6 ⟨x3, rfl, hr4, hr5, rfl⟩
   replace hx1 := hx1.mono le6
   replace ha3 := ha3.mono le6
   replace hf3 := hf3.mono le6
   refine qd (.tuple #[ii (instI ar t ((((stepsL ar rs ((((reachL ar rs t (n - 1)).1).getD k ([], 0, (0, 0, []), 0)).1))).getD q (0, 0, [])).2.2)), .agg #[x3]]) rfl (cX (qU (ii (instI ar t ((((stepsL ar rs ((((reachL ar rs t (n - 1)).1).getD k ([], 0, (0, 0, []), 0)).1))).getD q (0, 0, [])).2.2))) rfl rfl (cX (qU (.agg #[x3]) rfl rfl (cX (qS [sN] ji rfl ?_))))))
   intro b6
   refine qf (ii (instI ar t ((((stepsL ar rs ((((reachL ar rs t (n - 1)).1).getD k ([], 0, (0, 0, []), 0)).1))).getD q (0, 0, [])).2.2))) rfl (cX (qD [] _ [x3] qR rfl rfl rfl (qi (qC (RowsF.isSl hr4)) qH) rfl rfl rfl (qb (qc (qa (qd (ii (instI ar t ((((stepsL ar rs ((((reachL ar rs t (n - 1)).1).getD k ([], 0, (0, 0, []), 0)).1))).getD q (0, 0, [])).2.2))) rfl (cX (jY rfl rfl (qb ?_)))))))))
   refine qx (p := (instI ar t ((((stepsL ar rs ((((reachL ar rs t (n - 1)).1).getD k ([], 0, (0, 0, []), 0)).1))).getD q (0, 0, [])).2.2) : Int) ≥ 0) rfl (fun h3 => ?_) (fun h3 => ?_)
   ·have hwl9 := (walkL_len hgd.1 hgd.2.2.1 (k := k) (by omega)).2
    have hql9 := hql (by omega)
    refine qc (qa (qd (x1) rfl (qd (ii ((k : Int))) rfl (cX (XOp.thawL (id (qn (args := [x1, ii (k : Int)]) call289 rfl (walkBack_spec (k := k) hx1 (hk := (by omega)) (hll := (hrl)) (hlk := (hgd.1)) (hbd := (hrd))) ?_)))))))
    rintro _ F7 _ le7 ⟨x4, x5, rfl, hr6, hr7, hr8, rfl⟩
    refine ⟨[intsH 2 x4 ((EL ((reachL ar rs t (n - 1)).1) 0).1), stepsD 2 192 x5 (walkL ((reachL ar rs t (n - 1)).1) k)], hr8, ?_⟩
    show XL _ _ _ _ _ _ _ (intsH 2 x4 ((EL ((reachL ar rs t (n - 1)).1) 0).1) :: stepsD 2 192 x5 (walkL ((reachL ar rs t (n - 1)).1) k) :: cellsH b6 [x3] 137 :: cellsH b4 [a1, ii ((((reachL ar rs t (n - 1)).1).getD k ([], 0, (0, 0, []), 0)).2.1), ii ((((reachL ar rs t (n - 1)).1).getD k ([], 0, (0, 0, []), 0)).2.2.1.1), ii ((((reachL ar rs t (n - 1)).1).getD k ([], 0, (0, 0, []), 0)).2.2.1.2.1), a2, ii ((((reachL ar rs t (n - 1)).1).getD k ([], 0, (0, 0, []), 0)).2.2.2)] 194 :: cellsH b3 [sN, sN, ii (0), sN] 139 :: L)
    refine cX (qS [sN, sN] zeroValue45 rfl ?_)
    intro b7
    refine cX (qD [] _ [x4, x5] jr rfl rfl rfl (qi (qC (qB hr6)) (qi (qC (StepsF.isSl hr7)) qH)) rfl rfl rfl (qb (qc (qa (XL.openD [_, _] _ rfl (fun cs1 Ls1 F8 le8 hs1 hD1 hZ1 => ?_))))))
    replace ha3 := ha3.mono le8
    replace hf3 := hf3.mono le8
    replace hr4 := hr4.mono le8
    have hc1 := hD1.steps hZ1
    show XL _ _ _ _ _ _ _ (cellsH b7 [x4, x5] 45 :: intsH 2 x4 ((EL ((reachL ar rs t (n - 1)).1) 0).1) :: slH 192 3 x5 ((walkL ((reachL ar rs t (n - 1)).1) k).length) cs1 :: cellsH b6 [x3] 137 :: cellsH b4 [a1, ii ((((reachL ar rs t (n - 1)).1).getD k ([], 0, (0, 0, []), 0)).2.1), ii ((((reachL ar rs t (n - 1)).1).getD k ([], 0, (0, 0, []), 0)).2.2.1.1), ii ((((reachL ar rs t (n - 1)).1).getD k ([], 0, (0, 0, []), 0)).2.2.1.2.1), a2, ii ((((reachL ar rs t (n - 1)).1).getD k ([], 0, (0, 0, []), 0)).2.2.2)] 194 :: cellsH b3 [sN, sN, ii (0), sN] 139 :: L)
    skip
    refine cX (qq [ii ((((stepsL ar rs ((((reachL ar rs t (n - 1)).1).getD k ([], 0, (0, 0, []), 0)).1))).getD q (0, 0, [])).1), ii ((((stepsL ar rs ((((reachL ar rs t (n - 1)).1).getD k ([], 0, (0, 0, []), 0)).1))).getD q (0, 0, [])).2.1), a3] isAgg192 jd rfl rfl (FzC.rd hf3 rfl) (jT (qK (A := [_, _])) ?_))
    show XL _ _ _ _ _ _ _ (slH 192 3 x5 ((walkL ((reachL ar rs t (n - 1)).1) k).length) cs1 :: cellsH b7 [x4, x5] 45 :: intsH 2 x4 ((EL ((reachL ar rs t (n - 1)).1) 0).1) :: cellsH b6 [x3] 137 :: cellsH b4 [a1, ii ((((reachL ar rs t (n - 1)).1).getD k ([], 0, (0, 0, []), 0)).2.1), ii ((((reachL ar rs t (n - 1)).1).getD k ([], 0, (0, 0, []), 0)).2.2.1.1), ii ((((reachL ar rs t (n - 1)).1).getD k ([], 0, (0, 0, []), 0)).2.2.1.2.1), a2, ii ((((reachL ar rs t (n - 1)).1).getD k ([], 0, (0, 0, []), 0)).2.2.2)] 194 :: cellsH b3 [sN, sN, ii (0), sN] 139 :: L)
    refine jT (qK (A := [_])) ?_
    show XL _ _ _ _ _ _ _ (cellsH b7 [x4, x5] 45 :: slH 192 3 x5 ((walkL ((reachL ar rs t (n - 1)).1) k).length) cs1 :: intsH 2 x4 ((EL ((reachL ar rs t (n - 1)).1) 0).1) :: cellsH b6 [x3] 137 :: cellsH b4 [a1, ii ((((reachL ar rs t (n - 1)).1).getD k ([], 0, (0, 0, []), 0)).2.1), ii ((((reachL ar rs t (n - 1)).1).getD k ([], 0, (0, 0, []), 0)).2.2.1.1), ii ((((reachL ar rs t (n - 1)).1).getD k ([], 0, (0, 0, []), 0)).2.2.1.2.1), a2, ii ((((reachL ar rs t (n - 1)).1).getD k ([], 0, (0, 0, []), 0)).2.2.2)] 194 :: cellsH b3 [sN, sN, ii (0), sN] 139 :: L)
    refine cX (qn (args := [ptr b7 0, .agg #[ii ((((stepsL ar rs ((((reachL ar rs t (n - 1)).1).getD k ([], 0, (0, 0, []), 0)).1))).getD q (0, 0, [])).1), ii ((((stepsL ar rs ((((reachL ar rs t (n - 1)).1).getD k ([], 0, (0, 0, []), 0)).1))).getD q (0, 0, [])).2.1), a3]]) call290 rfl (walkAdd_spec ha3 hs1 hc1 (by first | rfl | assumption | omega) (by omega) (by omega)) ?_)
    rintro _ F9 _ le9 ⟨sw1, cw1, hs2, hw1, hf4, rfl⟩
    replace hr4 := hr4.mono le9
    replace hc1 := hc1.mono le9
    have hc2 := StepsC.snoc hc1 (i := (((stepsL ar rs ((((reachL ar rs t (n - 1)).1).getD k ([], 0, (0, 0, []), 0)).1))).getD q (0, 0, [])).1) (j := (((stepsL ar rs ((((reachL ar rs t (n - 1)).1).getD k ([], 0, (0, 0, []), 0)).1))).getD q (0, 0, [])).2.1) hw1
    show XL _ _ _ _ _ _ _ (cellsH b7 [x4, sw1] 45 :: slH 192 3 sw1 (((walkL ((reachL ar rs t (n - 1)).1) k).length) + 1) ((cs1 ++ [ii ((((stepsL ar rs ((((reachL ar rs t (n - 1)).1).getD k ([], 0, (0, 0, []), 0)).1))).getD q (0, 0, [])).1), ii ((((stepsL ar rs ((((reachL ar rs t (n - 1)).1).getD k ([], 0, (0, 0, []), 0)).1))).getD q (0, 0, [])).2.1), cw1])) :: intsH 2 x4 ((EL ((reachL ar rs t (n - 1)).1) 0).1) :: cellsH b6 [x3] 137 :: cellsH b4 [a1, ii ((((reachL ar rs t (n - 1)).1).getD k ([], 0, (0, 0, []), 0)).2.1), ii ((((reachL ar rs t (n - 1)).1).getD k ([], 0, (0, 0, []), 0)).2.2.1.1), ii ((((reachL ar rs t (n - 1)).1).getD k ([], 0, (0, 0, []), 0)).2.2.1.2.1), a2, ii ((((reachL ar rs t (n - 1)).1).getD k ([], 0, (0, 0, []), 0)).2.2.2)] 194 :: cellsH b3 [sN, sN, ii (0), sN] 139 :: L)
    refine qb (qc (qa (cX (qq [x4, sw1] isAgg45 jr rfl rfl (Rd.ownN [] rfl rfl) (qd (ii (instI ar t ((((stepsL ar rs ((((reachL ar rs t (n - 1)).1).getD k ([], 0, (0, 0, []), 0)).1))).getD q (0, 0, [])).2.2))) rfl (cX (qq [x3] jv qR rfl rfl (Rd.ownN [_, _, _] rfl rfl) (cX (jf [x4, sw1, ii (instI ar t ((((stepsL ar rs ((((reachL ar rs t (n - 1)).1).getD k ([], 0, (0, 0, []), 0)).1))).getD q (0, 0, [])).2.2)), x3] [sN, sN, ii (0), sN] [(0, 2), (2, 1), (3, 1)] [(0, [x4, sw1]), (1, [ii (instI ar t ((((stepsL ar rs ((((reachL ar rs t (n - 1)).1).getD k ([], 0, (0, 0, []), 0)).1))).getD q (0, 0, [])).2.2))]), (2, [x3])] jh jJ rfl (.cons rfl jr (.cons rfl qJ (.cons rfl qR PlacesAre.nil))) rfl (.cons rfl (.cons rfl (.cons rfl CellsAre.nil))) (cX (qD [_, _, _, _, _] _ [x4, sw1, ii (instI ar t ((((stepsL ar rs ((((reachL ar rs t (n - 1)).1).getD k ([], 0, (0, 0, []), 0)).1))).getD q (0, 0, [])).2.2)), x3] ju rfl rfl rfl (qi (qC (qB hr6)) (qi (qC hs2) (qi rfl (qi (qC (RowsF.isSl hr4)) qH)))) rfl rfl rfl (qf (.bool (true)) rfl (qb (jl [_, _] _ _ rfl (fun F10 le10 hz4 => ?_)))))))))))))))
    replace hr4 := hr4.mono le10
    replace hc2 := hc2.mono le10
    have hf5 : IntsF F10 x4 ((EL ((reachL ar rs t (n - 1)).1) 0).1) := intsH.fz (xs := (EL ((reachL ar rs t (n - 1)).1) 0).1) hz4.fz
    refine jl [_] _ _ rfl (fun F11 le11 hz5 => ?_)
    replace hr4 := hr4.mono le11
    replace hc2 := hc2.mono le11
    replace hf5 := hf5.mono le11
    have hf6 : StepsF F11 sw1 ((walkL ((reachL ar rs t (n - 1)).1) k ++ [((((stepsL ar rs ((((reachL ar rs t (n - 1)).1).getD k ([], 0, (0, 0, []), 0)).1))).getD q (0, 0, [])).1, (((stepsL ar rs ((((reachL ar rs t (n - 1)).1).getD k ([], 0, (0, 0, []), 0)).1))).getD q (0, 0, [])).2.1, (((stepsL ar rs ((((reachL ar rs t (n - 1)).1).getD k ([], 0, (0, 0, []), 0)).1))).getD q (0, 0, [])).2.2)])) := CO.fz hc2 (by first | rfl | omega | (rw [List.length_set]; omega) | (simp; done)) hz5.fz
    refine qv (qF (ql (ql (qF (qF (ql (ql (qF (ql (qp (L' := L) [.agg #[x4, sw1, ii (instI ar t ((((stepsL ar rs ((((reachL ar rs t (n - 1)).1).getD k ([], 0, (0, 0, []), 0)).1))).getD q (0, 0, [])).2.2)), x3], .bool (true)] (.tuple #[.agg #[x4, sw1, ii (instI ar t ((((stepsL ar rs ((((reachL ar rs t (n - 1)).1).getD k ([], 0, (0, 0, []), 0)).1))).getD q (0, 0, [])).2.2)), x3], .bool (true)]) (.cell rfl (jo [x4, sw1, ii (instI ar t ((((stepsL ar rs ((((reachL ar rs t (n - 1)).1).getD k ([], 0, (0, 0, []), 0)).1))).getD q (0, 0, [])).2.2)), x3] yg ju rfl (Rd.ownN [_, _, _] rfl rfl)) (.tmp rfl .nil)) rfl (qm (qm (qm (qm (qm (qm (qm (qm (qm (qm (qm le1 le2) le3) leG1) le4) leG2) le5) le6) le8) le9) le10) le11) rF (sD (sD (sD (sD sR)))) ?_))))))))))
    have hk9 : k < (reachL ar rs t (n - 1)).1.length := by omega
    have hq9 : q < (stepsL ar rs ((reachL ar rs t (n - 1)).1.getD k ([], 0, (0, 0, []), 0)).1).length := by omega
    have hi9 : 0 ≤ instI ar t ((stepsL ar rs ((reachL ar rs t (n - 1)).1.getD k ([], 0, (0, 0, []), 0)).1).getD q (0, 0, [])).2.2 := by omega
    have e : loop0 ar rs t (reachL ar rs t (n - 1)).1 = ((EL (reachL ar rs t (n - 1)).1 0).1, walkL (reachL ar rs t (n - 1)).1 k ++ [(((stepsL ar rs ((reachL ar rs t (n - 1)).1.getD k ([], 0, (0, 0, []), 0)).1).getD q (0, 0, [])).1, ((stepsL ar rs ((reachL ar rs t (n - 1)).1.getD k ([], 0, (0, 0, []), 0)).1).getD q (0, 0, [])).2.1, ((stepsL ar rs ((reachL ar rs t (n - 1)).1.getD k ([], 0, (0, 0, []), 0)).1).getD q (0, 0, [])).2.2)], instI ar t ((stepsL ar rs ((reachL ar rs t (n - 1)).1.getD k ([], 0, (0, 0, []), 0)).1).getD q (0, 0, [])).2.2, placeS ar t ((stepsL ar rs ((reachL ar rs t (n - 1)).1.getD k ([], 0, (0, 0, []), 0)).1).getD q (0, 0, [])).2.2, true) := by rw [loop0_at (k := k) (q := q) hk9 hno hq9 hi9 hnq, loopAt, hgd.2.2.2, placeS_yes hi9]
    exact ⟨_, _, _, by rw [e], by rw [e]; exact hf5, by rw [e]; exact hf6, by rw [e]; exact hr4, by rw [e]; exact (((Fresh.app hr5 le6 (Fresh.deepM (M := [_]) (DeepL.snoc hD1 rfl ⟨_, rfl, rfl⟩) (Fresh.cons (Fresh.app (M := Ls1) hZ1 le8 (Fresh.one hf4) le9) (qm le8 le9) hz4 le10) (qm (qm le8 le9) le10) hz5 (by first | rfl | omega | (rw [List.length_append]; rfl)) le11) (qm (qm (qm le8 le9) le10) le11)).perm (List.perm_append_comm (l₁ := [_]) (l₂ := [_, _]))).base (qm (qm (qm (qm (qm (qm le1 le2) le3) leG1) le4) leG2) le5)), rfl⟩
   refine qw (qa (cX (qN (((q + 1 : Nat) : Int)) rfl rfl (by omega) (by omega) (qd (ii (((q + 1 : Nat) : Int))) rfl (qb ?_)))))
   exact ⟨(q + 1, F6), _, (qm (qm leG2 le5) le6), rF, ⟨rfl, rfl, rfl, rfl, rfl, rfl, rfl, rfl, rfl, rfl, rfl, ⟨⟩⟩, (sD (sC (sC sR))), ⟨rfl, (qm (qm leG2 le5) le6), (by (try dsimp only) <;> omega), (fun i hi => (Nat.lt_or_ge i q).elim (fun h => hnq i h) (fun h => by obtain rfl : i = q := (by omega); omega))⟩, (by omega)⟩
  refine jb (qo (qo (qI (qa (cX (qN (((k + 1 : Nat) : Int)) rfl rfl (by omega) (by omega) (qd (ii (((k + 1 : Nat) : Int))) rfl (qb ?_))))))))
  exact ⟨(k + 1, G2), _, (qm (qm leG1 le4) leG2), rF, ⟨rfl, rfl, rfl, rfl, rfl, rfl, rfl, ⟨⟩⟩, (sD (sC sR)), ⟨rfl, (qm (qm leG1 le4) leG2), (by (try dsimp only) <;> omega), (fun i hi => (Nat.lt_or_ge i k).elim (fun h => hno i h) (fun h => by obtain rfl : i = k := (by omega); have h9 := nextI_none (ar := ar) (t := t) (ss := stepsL ar rs (EL (reachL ar rs t (n - 1)).1 i).1) (fun j hj => hnq j (by have h8 : j < (stepsL ar rs ((reachL ar rs t (n - 1)).1.getD i ([], 0, (0, 0, []), 0)).1).length := hj; omega)); omega))⟩, (by omega)⟩
 refine jb (qo (qo (qI (qc (qa (cX (jf [sN, sN, ii (0), sN] [sN, sN, ii (0), sN] [(0, 2), (2, 1), (3, 1)] [] jh jJ rfl (.cons rfl jr (.cons rfl qJ (.cons rfl qR PlacesAre.nil))) rfl CellsAre.nil (cX (qD [] _ [sN, sN, ii (0), sN] ju rfl rfl rfl (qi rfl (qi rfl (qi rfl (qi rfl qH)))) rfl rfl rfl (qf (.bool (false)) rfl (qb (qv (qp (L' := L) [.agg #[sN, sN, ii (0), sN], .bool (false)] (.tuple #[.agg #[sN, sN, ii (0), sN], .bool (false)]) (.cell rfl (jo [sN, sN, ii (0), sN] yg ju rfl (Rd.ownN [] rfl rfl)) (.tmp rfl .nil)) rfl (qm (qm (qm le1 le2) le3) leG1) rF (sD sR) ?_)))))))))))))
 have e : loop0 ar rs t (reachL ar rs t (n - 1)).1 = noLoop := loop0_none (fun i hi => hno i (by omega))
 exact ⟨_, _, _, by rw [e], by rw [e]; exact IntsF.nilV, by rw [e]; exact SlOf.nilV, by rw [e]; exact SlOf.nilV, by rw [e]; exact Fresh.empty nilLoop, rfl⟩

/- impl.loopSteps -/
theorem loopSteps_spec {F : FH} {L : List HP} {n : Int} :
    Does prog 186 [ii (n)] F (L) (fun v F' L' => (.bool (decide (1 ≤ n ∧ n ≤ 20)) : Value) = v ∧ F = F' ∧ L = L') := by
 refine qz func186 rfl rfl rfl (qc (qa (qf (.bool (false)) rfl (qb (qc (qa (qd (ii (n)) rfl (cX (jY rfl rfl (qd (.bool (decide ((n : Int) ≥ 1))) rfl ?_))))))))))
 by_cases h1 : (n : Int) ≥ 1
 ·refine qu (t := 5) rfl (vT h1) (qr (ii (n)) rfl (qu (t := 5) rfl (vT h1) (XOp.leq rfl rfl (cX (jk (.bool (decide ((n : Int) ≤ 20))) (vT h1) rfl (qf (.bool (decide ((n : Int) ≤ 20))) rfl (qb (qv (qp (L' := L) [.bool (decide ((n : Int) ≤ 20))] (.bool (decide ((n : Int) ≤ 20))) (.tmp rfl .nil) rfl rF rF sR ?_)))))))))
  exact ⟨(vB (by simp_all <;> omega)), rfl, rfl⟩
 refine qE (t := 5) rfl (vF h1) (qE (t := 5) rfl (vF h1) (cX (ja (.bool (false)) (vF h1) rfl (qf (.bool (false)) rfl (qb (qv (qp (L' := L) [.bool (false)] (.bool (false)) (.tmp rfl .nil) rfl rF rF sR ?_)))))))
 exact ⟨(vB (by simp_all <;> omega)), rfl, rfl⟩

/- impl.FirstLoop -/
set_option maxRecDepth 20000 in
theorem FirstLoop_spec {F : FH} {L : List HP} {arv : Value} {ar : List Int} (har : IntsF F arv ar) {rsv : Value} {rs : List (List Int × List Int)} (hrs : PairsF F rsv rs) {n : Int} :
    Does prog 85 [.agg #[arv, rsv], ii (n)] F (L) (fun v F' L' => ∃ (a : Value), ∃ (b : Value), ∃ (c : Value), (.tuple #[.agg #[a, b, ii ((firstF ar rs n).2.2.1), c], .bool ((firstF ar rs n).2.2.2.2)] : Value) = v ∧ (IntsF F' a (firstF ar rs n).1) ∧ (StepsF F' b (firstF ar rs n).2.1) ∧ (RowsF F' c (firstF ar rs n).2.2.2.1) ∧ (Fresh F F' (star [intsH 2 a (firstF ar rs n).1, stepsD 2 192 b (firstF ar rs n).2.1, rowsD 2 22 c (firstF ar rs n).2.2.2.1])) ∧ L = L') := by
 refine qz func85 rfl rfl rfl (qc (qa (cX (qW [arv, rsv] rfl rfl ?_))))
 intro b1
 refine cX (qS [sN, sN, ii (0), sN] jJ rfl ?_)
 intro b2
 refine qf (.bool (false)) rfl (qb (qc (qc (qa (cX (qq [arv, rsv] jL jy rfl rfl (Rd.ownN [_] rfl rfl) (cX (qn (args := [.agg #[arv, rsv]]) call172 rfl (SystemOk_spec har hrs) ?_))))))))
 rintro _ _ _ _ ⟨rfl, rfl, rfl⟩
 refine cX (jx rfl (qd (.bool (!(sysOk ar rs))) rfl ?_))
 by_cases h1 : (!(sysOk ar rs)) = true
 ·refine qE (t := 13) rfl (vB h1) (qE (t := 13) rfl (vB h1) (qE (t := 13) rfl (vB h1) (cX (jk (.bool (true)) (vB h1) rfl (qb (X.condT rfl (qc (qa (cX (jf [sN, sN, ii (0), sN] [sN, sN, ii (0), sN] [(0, 2), (2, 1), (3, 1)] [] jh jJ rfl (.cons rfl jr (.cons rfl qJ (.cons rfl qR PlacesAre.nil))) rfl CellsAre.nil (cX (qD [] _ [sN, sN, ii (0), sN] ju rfl rfl rfl (qi rfl (qi rfl (qi rfl (qi rfl qH)))) rfl rfl rfl (qf (.bool (false)) rfl ?_)))))))))))))
  refine qb (qv (ql (qp (L' := L) [.agg #[sN, sN, ii (0), sN], .bool (false)] (.tuple #[.agg #[sN, sN, ii (0), sN], .bool (false)]) (.cell rfl (jo [sN, sN, ii (0), sN] yg ju rfl (Rd.ownN [] rfl rfl)) (.tmp rfl .nil)) rfl rF rF (sD (sD sR)) ?_)))
  have e : firstF ar rs n = noLoop := firstF_no (by simp_all)
  exact ⟨_, _, _, by rw [e], by rw [e]; exact IntsF.nilV, by rw [e]; exact SlOf.nilV, by rw [e]; exact SlOf.nilV, by rw [e]; exact Fresh.empty nilLoop, rfl⟩
 rw [Bool.not_eq_true] at h1
 have hsys : sysOk ar rs = true := by simpa using h1
 have hrs12 := (sysOk_iff.1 hsys).2.1
 refine qu (t := 13) rfl (vB h1) (qr (ii (n)) rfl (qu (t := 13) rfl (vB h1) (qn (args := [ii (n)]) call186 rfl (loopSteps_spec (n := n)) ?_)))
 rintro _ _ _ _ ⟨rfl, rfl, rfl⟩
 refine qu (t := 13) rfl (vB h1) (jH rfl (cX (ja (.bool (decide (¬(1 ≤ n ∧ n ≤ 20)))) (vB h1) rfl (qb ?_))))
 refine qx (p := ¬(1 ≤ n ∧ n ≤ 20)) rfl (fun h2 => ?_) (fun h2 => ?_)
 ·refine qc (qa (cX (jf [sN, sN, ii (0), sN] [sN, sN, ii (0), sN] [(0, 2), (2, 1), (3, 1)] [] jh jJ rfl (.cons rfl jr (.cons rfl qJ (.cons rfl qR PlacesAre.nil))) rfl CellsAre.nil (cX (qD [] _ [sN, sN, ii (0), sN] ju rfl rfl rfl (qi rfl (qi rfl (qi rfl (qi rfl qH)))) rfl rfl rfl (qf (.bool (false)) rfl (qb (qv (ql (qp (L' := L) [.agg #[sN, sN, ii (0), sN], .bool (false)] (.tuple #[.agg #[sN, sN, ii (0), sN], .bool (false)]) (.cell rfl (jo [sN, sN, ii (0), sN] yg ju rfl (Rd.ownN [] rfl rfl)) (.tmp rfl .nil)) rfl rF rF (sD (sD sR)) ?_))))))))))
  have e : firstF ar rs n = noLoop := firstF_no (by simp_all)
  exact ⟨_, _, _, by rw [e], by rw [e]; exact IntsF.nilV, by rw [e]; exact SlOf.nilV, by rw [e]; exact SlOf.nilV, by rw [e]; exact Fresh.empty nilLoop, rfl⟩
 have hn20 : 1 ≤ n ∧ n ≤ 20 := by first | exact Classical.not_not.1 h2 | simpa using h2
 refine qw (qc (qc (qa (cX (qk (1) qY rfl yc (by decide) rfl rfl (cX (qh isAgg37 rfl (Rd.own [_] rfl rfl) (cX (qA jj rfl hrs.slv (qd (ii (0)) rfl (qb (qG (jc (α := Nat × FH) (fun xQ => [(1, ii (n)), (2, ptr b1 0), (4, ptr b2 0), (20, rsv), (21, ii ((rs.length : Int))), (22, ii (((xQ.1 : Nat) : Int)))]) (fun xQ => cellsH b2 [sN, sN, ii (0), sN] 139 :: cellsH b1 [arv, rsv] 39 :: L) (fun xQ F' => xQ.2 = F' ∧ F ≤ xQ.2 ∧ (xQ.1 ≤ rs.length) ∧ (∀ i, i < xQ.1 → (loopF ar rs (rs.getD i ([], [])).1 n).2.2.2.2 = false)) (fun xQ => rs.length - xQ.1) (0, F) ⟨rfl, rfl, rfl, rfl, rfl, rfl, ⟨⟩⟩ (sC (sC sR)) ⟨rfl, FLe.refl _, (by (try dsimp only) <;> omega), (fun i hi => absurd hi (by omega))⟩ ?_)))))))))))))
 rintro ⟨k, G1⟩ rE _ _ ⟨rfl, leG, hk, hall⟩
 show X _ _ _ _ (envs [(1, ii (n)), (2, ptr b1 0), (4, ptr b2 0), (20, rsv), (21, ii ((rs.length : Int))), (22, ii ((k : Int)))] rE) _ (cellsH b2 [sN, sN, ii (0), sN] 139 :: cellsH b1 [arv, rsv] 39 :: L)
 replace leG : F ≤ G1 := leG
 dsimp only at hk hall
 have hrl := fun (h : k < rs.length) => (ruleOk_iff.1 ((sysOk_iff.1 hsys).2.2 k h)).left
 have hlf := fun (h : k < rs.length) => loopF_yes (ar := ar) (rs := rs) (t := (rs.getD k ([], [])).1) (n := n) ⟨⟨hsys, hrl h⟩, hn20⟩
 have leG1 := leG
 replace har := har.mono leG1
 replace hrs := hrs.mono leG1
 refine qc (qa (cX (qT rfl rfl (qb (qc ?_)))))
 refine qx (p := (k : Int) < (rs.length : Int)) rfl (fun h3 => ?_) (fun h3 => ?_)
 ·refine qw (qc (qG (qc (qa (cX (qy k jj jO rfl rfl rfl hrs.slv (by omega) rfl ?_))))))
  obtain ⟨a1, a2, ha1, ha2, hr1, hr2⟩ := hrs.rd (i := k) (by omega)
  refine cX (qq [a1, a2] isAgg76 jO rfl rfl (Rd.two (hr1 _) (hr2 _)) (cX (qS [sN, sN] zeroValue76 rfl ?_)))
  intro b3
  refine cX (qD [] _ [a1, a2] jO rfl rfl rfl (qi (qC (qB ha1)) (qi (qC (qB ha2)) qH)) rfl rfl rfl (qb (qc (qa (cX (qq [arv, rsv] jL jy rfl rfl (Rd.ownN [_, _] rfl rfl) (cX (qk (0) je rfl qt (by decide) rfl rfl (cX (qh qM rfl (Rd.own [] rfl rfl) (qd (ii (n)) rfl (cX (qn (args := [.agg #[arv, rsv], a1, ii (n)]) call187 rfl (loopFrom_spec (n := n) har hrs ha1 (hsys := (hsys)) (ho := (hrl (by omega))) (hn20 := (hn20))) ?_)))))))))))))
  rintro _ F1 _ le1 ⟨x1, x2, x3, rfl, hr3, hr4, hr5, hr6, rfl⟩
  refine qd (.tuple #[.agg #[x1, x2, ii ((loop0 ar rs ((rs.getD k ([], [])).1) (reachL ar rs ((rs.getD k ([], [])).1) (n - 1)).1).2.2.1), x3], .bool ((loop0 ar rs ((rs.getD k ([], [])).1) (reachL ar rs ((rs.getD k ([], [])).1) (n - 1)).1).2.2.2.2)]) rfl (cX (qU (.agg #[x1, x2, ii ((loop0 ar rs ((rs.getD k ([], [])).1) (reachL ar rs ((rs.getD k ([], [])).1) (n - 1)).1).2.2.1), x3]) rfl rfl (cX (qU (.bool ((loop0 ar rs ((rs.getD k ([], [])).1) (reachL ar rs ((rs.getD k ([], [])).1) (n - 1)).1).2.2.2.2)) rfl rfl (cX (qS [sN, sN, ii (0), sN] jJ rfl ?_))))))
  intro b4
  refine cX (qD [] _ [x1, x2, ii ((loop0 ar rs ((rs.getD k ([], [])).1) (reachL ar rs ((rs.getD k ([], [])).1) (n - 1)).1).2.2.1), x3] ju rfl rfl rfl (qi (qC (qB hr3)) (qi (qC (StepsF.isSl hr4)) (qi rfl (qi (qC (RowsF.isSl hr5)) qH)))) rfl rfl rfl (qf (.bool ((loop0 ar rs ((rs.getD k ([], [])).1) (reachL ar rs ((rs.getD k ([], [])).1) (n - 1)).1).2.2.2.2)) rfl (qb (qc (qa (qd (.bool ((loop0 ar rs ((rs.getD k ([], [])).1) (reachL ar rs ((rs.getD k ([], [])).1) (n - 1)).1).2.2.2.2)) rfl (qb ?_)))))))
  refine ya (t := (loop0 ar rs ((rs.getD k ([], [])).1) (reachL ar rs ((rs.getD k ([], [])).1) (n - 1)).1).2.2.2.2) rfl (fun h4 => ?_) (fun h4 => ?_)
  ·have hb9 : (loopF ar rs (rs.getD k ([], [])).1 n).2.2.2.2 = true := by rw [hlf (by omega)]; exact h4
   refine qc (qa (cX (qq [x1, x2, ii ((loop0 ar rs ((rs.getD k ([], [])).1) (reachL ar rs ((rs.getD k ([], [])).1) (n - 1)).1).2.2.1), x3] yg ju rfl rfl (Rd.ownN [] rfl rfl) (cX (qD [_, _] _ [x1, x2, ii ((loop0 ar rs ((rs.getD k ([], [])).1) (reachL ar rs ((rs.getD k ([], [])).1) (n - 1)).1).2.2.1), x3] ju rfl rfl rfl (qi (qC (qB hr3)) (qi (qC (StepsF.isSl hr4)) (qi rfl (qi (qC (RowsF.isSl hr5)) qH)))) rfl rfl rfl (qf (.bool (true)) rfl (qb (qv (qF (ql (ql (qF (ql (qp (L' := L) [.agg #[x1, x2, ii ((loop0 ar rs ((rs.getD k ([], [])).1) (reachL ar rs ((rs.getD k ([], [])).1) (n - 1)).1).2.2.1), x3], .bool (true)] (.tuple #[.agg #[x1, x2, ii ((loop0 ar rs ((rs.getD k ([], [])).1) (reachL ar rs ((rs.getD k ([], [])).1) (n - 1)).1).2.2.1), x3], .bool (true)]) (.cell rfl (jo [x1, x2, ii ((loop0 ar rs ((rs.getD k ([], [])).1) (reachL ar rs ((rs.getD k ([], [])).1) (n - 1)).1).2.2.1), x3] yg ju rfl (Rd.ownN [_, _] rfl rfl)) (.tmp rfl .nil)) rfl (qm leG1 le1) rF (sD (sD (sD (sD sR)))) ?_))))))))))))))
   have e := (firstF_at ⟨hsys, hn20⟩ (k := k) (by omega) hb9 hall).trans (hlf (by omega))
   have hb8 := hb9
   rw [hlf (by omega)] at hb8
   exact ⟨_, _, _, by rw [e, hb8], by rw [e]; exact hr3, by rw [e]; exact hr4, by rw [e]; exact hr5, by rw [e]; exact (hr6.base leG1), rfl⟩
  have hb9 : (loopF ar rs (rs.getD k ([], [])).1 n).2.2.2.2 = false := by rw [hlf (by omega)]; exact h4
  refine qw (qa (cX (qN (((k + 1 : Nat) : Int)) rfl rfl (by omega) (by omega) (qd (ii (((k + 1 : Nat) : Int))) rfl (qb ?_)))))
  exact ⟨(k + 1, F1), _, (qm leG1 le1), rF, ⟨rfl, rfl, rfl, rfl, rfl, rfl, ⟨⟩⟩, (sD (sD (sC (sC sR)))), ⟨rfl, (qm leG1 le1), (by (try dsimp only) <;> omega), (fun i hi => (Nat.lt_or_ge i k).elim (fun h => hall i h) (fun h => by obtain rfl : i = k := (by omega); exact hb9))⟩, (by omega)⟩
 refine jb (qo (qo (qI (qc (qa (cX (jf [sN, sN, ii (0), sN] [sN, sN, ii (0), sN] [(0, 2), (2, 1), (3, 1)] [] jh jJ rfl (.cons rfl jr (.cons rfl qJ (.cons rfl qR PlacesAre.nil))) rfl CellsAre.nil (cX (qD [] _ [sN, sN, ii (0), sN] ju rfl rfl rfl (qi rfl (qi rfl (qi rfl (qi rfl qH)))) rfl rfl rfl (qf (.bool (false)) rfl (qb (qv (qp (L' := L) [.agg #[sN, sN, ii (0), sN], .bool (false)] (.tuple #[.agg #[sN, sN, ii (0), sN], .bool (false)]) (.cell rfl (jo [sN, sN, ii (0), sN] yg ju rfl (Rd.ownN [] rfl rfl)) (.tmp rfl .nil)) rfl leG1 rF (sD (sD sR)) ?_)))))))))))))
 have e : firstF ar rs n = noLoop := firstF_none (fun i hi => hall i (by omega))
 exact ⟨_, _, _, by rw [e], by rw [e]; exact IntsF.nilV, by rw [e]; exact SlOf.nilV, by rw [e]; exact SlOf.nilV, by rw [e]; exact Fresh.empty nilLoop, rfl⟩

/- spec.l7Steps -/
theorem l7Steps_spec {F : FH} {L : List HP} {arv : Value} {ar : List Int} (har : IntsF F arv ar) {rsv : Value} {rs : List (List Int × List Int)} (hrs : PairsF F rsv rs) {tv : Value} {t : List Int} (ht : IntsF F tv t) (hsys : sysOk ar rs = true) (ho : termOk ar t = true) :
    Does prog 243 [.agg #[arv, rsv], tv] F (L) (fun v F' L' => ∃ (a : Value), (a : Value) = v ∧ (StepsF F' a (stepsL ar rs t)) ∧ L = L') := by
 refine qz func243 rfl rfl rfl ?_
 have hnn := yb ht (by have := termOk_len ho; omega)
 have htl := termOk_len ho
 have hrl := (sysOk_iff.1 hsys).2.1
 have hsig := (sysOk_iff.1 hsys).1
 have hsl := sigOk_spec hsig
 refine qc (qa (cX (qW [arv, rsv] rfl rfl ?_)))
 intro b1
 refine qf (sN) rfl (qb (qc (qa (cX (qL (s := 3) [] [ii (0), ii (0), sN] [] qV jd jE rfl (by decide) rfl CellsAre.nil rfl ?_)))))
 intro v1 hv1
 refine qf (v1) rfl (qb (qc (qc (qa (qf (ii (0)) rfl (qb (qG (jc (α := Nat × Value × List StepT × List Value × Nat × FH) (fun xQ => [(1, tv), (2, ptr b1 0), (5, xQ.2.1), (6, ii (((xQ.1 : Nat) : Int)))]) (fun xQ => slH 192 3 xQ.2.1 xQ.2.2.2.2.1 xQ.2.2.2.1 :: cellsH b1 [arv, rsv] 39 :: L) (fun xQ F' => xQ.2.2.2.2.2 = F' ∧ F ≤ xQ.2.2.2.2.2 ∧ (xQ.1 ≤ t.length) ∧ (IsSl xQ.2.1) ∧ (StepsC xQ.2.2.2.2.2 xQ.2.2.2.1 xQ.2.2.1) ∧ (xQ.2.2.2.2.1 = xQ.2.2.1.length) ∧ (xQ.2.2.1 = stepsTo ar rs t xQ.1)) (fun xQ => t.length - xQ.1) (0, v1, [], [], 0, F) ⟨rfl, rfl, rfl, rfl, ⟨⟩⟩ (sC (sC sR)) ⟨rfl, FLe.refl _, (by (try dsimp only) <;> omega), ((jD hv1)), (CO.nil), (rfl), (rfl)⟩ ?_))))))))
 rintro ⟨k, sv, ss, cs, m, G1⟩ rE _ _ ⟨rfl, leG, hk, hsv, hC, hm, hss⟩
 show X _ _ _ _ (envs [(1, tv), (2, ptr b1 0), (5, sv), (6, ii ((k : Int)))] rE) _ (slH 192 3 sv m cs :: cellsH b1 [arv, rsv] 39 :: L)
 replace leG : F ≤ G1 := leG
 dsimp only at hk hsv hC hm hss
 have hsl1 := stepsTo_len (ar := ar) (t := t) (rs := rs) hrl k
 have hss0 := hss
 have leG1 := leG
 replace har := har.mono leG1
 replace hrs := hrs.mono leG1
 replace ht := ht.mono leG1
 refine qc (qc (qa (qd (ii ((k : Int))) rfl (qd (tv) rfl (cX (qA qg rfl ht.slv (cX (qT rfl rfl (qb ?_)))))))))
 refine qx (p := (k : Int) < (t.length : Int)) rfl (fun h1 => ?_) (fun h1 => ?_)
 ·refine qw (qc (qG (qc (qa (qf (ii (0)) rfl (qb (qG (jc (α := Nat × Value × List StepT × List Value × Nat × FH) (fun xQ => [(1, tv), (2, ptr b1 0), (5, xQ.2.1), (6, ii ((k : Int))), (7, ii (((xQ.1 : Nat) : Int)))]) (fun xQ => slH 192 3 xQ.2.1 xQ.2.2.2.2.1 xQ.2.2.2.1 :: cellsH b1 [arv, rsv] 39 :: L) (fun xQ F' => xQ.2.2.2.2.2 = F' ∧ G1 ≤ xQ.2.2.2.2.2 ∧ (xQ.1 ≤ rs.length) ∧ (IsSl xQ.2.1) ∧ (StepsC xQ.2.2.2.2.2 xQ.2.2.2.1 xQ.2.2.1) ∧ (xQ.2.2.2.2.1 = xQ.2.2.1.length) ∧ (xQ.2.2.1 = stepsTo ar rs t k ++ stepsRow ar rs t k xQ.1)) (fun xQ => rs.length - xQ.1) (0, sv, ss, cs, m, G1) ⟨rfl, rfl, rfl, rfl, rfl, ⟨⟩⟩ (sC (sC sR)) ⟨rfl, FLe.refl _, (by (try dsimp only) <;> omega), (hsv), (hC), (hm), (by (try dsimp only); rw [hss0]; simp [stepsRow])⟩ ?_))))))))
  rintro ⟨r, sv, ss, cs, m, G2⟩ rE _ _ ⟨rfl, leG, hr, hsvi, hCi, hmi, hssi⟩
  show X _ _ _ _ (envs [(1, tv), (2, ptr b1 0), (5, sv), (6, ii ((k : Int))), (7, ii ((r : Int)))] rE) _ (slH 192 3 sv m cs :: cellsH b1 [arv, rsv] 39 :: L)
  replace leG : G1 ≤ G2 := leG
  dsimp only at hr hsvi hCi hmi hssi
  have hsl2 := stepsRow_len (ar := ar) (rs := rs) (t := t) (p := k) r
  have hssl : ss.length ≤ 1000 := by rw [hssi, List.length_append]; omega
  have leG2 := leG
  replace har := har.mono leG2
  replace hrs := hrs.mono leG2
  replace ht := ht.mono leG2
  replace hC := hC.mono leG2
  refine qc (qc (qa (qd (ii ((r : Int))) rfl (cX (qk (1) qY rfl yc (by decide) rfl rfl (cX (qh isAgg37 rfl (Rd.own [_] rfl rfl) (cX (qA jj rfl hrs.slv (cX (qT rfl rfl (qb ?_))))))))))))
  refine qx (p := (r : Int) < (rs.length : Int)) rfl (fun h2 => ?_) (fun h2 => ?_)
  ·refine qw (qc (qG (qc (qa (cX (qq [arv, rsv] jL jy rfl rfl (Rd.ownN [_] rfl rfl) (qd (tv) rfl (qd (ii ((k : Int))) rfl (qd (ii ((r : Int))) rfl (cX (qn (args := [.agg #[arv, rsv], tv, ii (k : Int), ii (r : Int)]) call110 rfl (l7Step_spec (p := k) (r := r) har hrs ht (hsys := (by first | assumption | rfl | omega | simp)) (ho := (by first | assumption | rfl | omega | simp)) (hp := (by first | assumption | rfl | omega | simp)) (hr := (by first | assumption | rfl | omega | simp))) ?_)))))))))))
   rintro _ F1 _ le1 ⟨x1, rfl, hr1, rfl⟩
   replace hC := hC.mono le1
   replace hCi := hCi.mono le1
   refine qd (.tuple #[x1, .bool ((stepL ar rs t k r).isSome)]) rfl (cX (qU (x1) rfl rfl (cX (qU (.bool ((stepL ar rs t k r).isSome)) rfl rfl (qf (x1) rfl (qf (.bool ((stepL ar rs t k r).isSome)) rfl (qb (qc (qa (qd (.bool ((stepL ar rs t k r).isSome)) rfl (qb ?_)))))))))))
   refine ya (t := (stepL ar rs t k r).isSome) rfl (fun h3 => ?_) (fun h3 => ?_)
   ·have hone : stepOne ar rs t k r = [((k : Int), (r : Int), (stepL ar rs t k r).getD [])] := (one_some h3).1
    refine qa (qd (sv) rfl (qd (ii ((k : Int))) rfl (qd (ii ((r : Int))) rfl (qd (x1) rfl (cX (jf [ii ((k : Int)), ii ((r : Int)), x1] [ii (0), ii (0), sN] [(0, 1), (1, 1), (2, 1)] [(0, [ii ((k : Int))]), (1, [ii ((r : Int))]), (2, [x1])] jp jE rfl (.cons rfl qJ (.cons rfl qJ (.cons rfl qt PlacesAre.nil))) rfl (.cons rfl (.cons rfl (.cons (cells_one (qB hr1)) CellsAre.nil))) (cX (qL (s := 3) [ii ((k : Int)), ii ((r : Int)), x1] [ii (0), ii (0), sN] [(0, [ii ((k : Int)), ii ((r : Int)), x1])] qV jd jE rfl (by decide) rfl (.cons rfl CellsAre.nil) rfl ?_))))))))
    intro v2 hv2
    refine cX (jQ (m := 1) (bytes := 40) (cs := cs) [_] _ [ii ((k : Int)), ii ((r : Int)), x1] qV typeInfo192 rfl rfl rfl rfl rfl rfl rfl (SlV.own [] rfl) rfl (Rd.lit [] rfl) (qi rfl (qi rfl (qi (qC (qB hr1)) qH))) (by (try simp only [List.length_append, List.length_nil, List.length_cons, List.length_singleton]); omega) (by (try simp only [List.length_append, List.length_nil, List.length_cons, List.length_singleton]); omega) ?_)
    intro v3 hs1 hn1 hm1
    have hc1 := StepsC.snoc hCi (i := (k : Int)) (j := (r : Int)) hr1
    refine qf (v3) rfl (qb (qa (qd (ii ((r : Int))) rfl (cX (qN (((r + 1 : Nat) : Int)) rfl rfl (by omega) (by omega) (qf (ii (((r + 1 : Nat) : Int))) rfl (qb ?_)))))))
    exact ⟨(r + 1, v3, ss ++ [((k : Int), (r : Int), (stepL ar rs t k r).getD [])], cs ++ [ii ((k : Int)), ii ((r : Int)), x1], (m) + 1, F1), _, (qm leG2 le1), rF, ⟨rfl, rfl, rfl, rfl, rfl, ⟨⟩⟩, (sD (sC (sC sR))), ⟨rfl, (qm leG2 le1), (by (try dsimp only) <;> omega), (hs1), (hc1), (by (try dsimp only); (try rw [List.length_append, List.length_singleton]); omega), (by (try dsimp only); rw [hssi, stepsRow_succ, hone]; simp)⟩, (by omega)⟩
   have hone : stepOne ar rs t k r = [] := stepOne_no h3
   refine qw (qa (qd (ii ((r : Int))) rfl (cX (qN (((r + 1 : Nat) : Int)) rfl rfl (by omega) (by omega) (qf (ii (((r + 1 : Nat) : Int))) rfl (qb ?_))))))
   exact ⟨(r + 1, sv, ss, cs, m, F1), _, (qm leG2 le1), rF, ⟨rfl, rfl, rfl, rfl, rfl, ⟨⟩⟩, (sC (sC sR)), ⟨rfl, (qm leG2 le1), (by (try dsimp only) <;> omega), (hsvi), (hCi), (by (try dsimp only); (try rw [List.length_append, List.length_singleton]); omega), (by (try dsimp only); rw [hssi, stepsRow_succ, hone]; simp)⟩, (by omega)⟩
  refine jb (qo (qo (qI (qa (qd (ii ((k : Int))) rfl (cX (qN (((k + 1 : Nat) : Int)) rfl rfl (by omega) (by omega) (qf (ii (((k + 1 : Nat) : Int))) rfl (qb ?_)))))))))
  exact ⟨(k + 1, sv, ss, cs, m, G2), _, (qm leG1 leG2), rF, ⟨rfl, rfl, rfl, rfl, ⟨⟩⟩, (sC (sC sR)), ⟨rfl, (qm leG1 leG2), (by (try dsimp only) <;> omega), (hsvi), (hCi), (hmi), (by (try dsimp only); rw [hssi, stepsTo_succ, show r = rs.length from by omega])⟩, (by omega)⟩
 refine jb (qo (qo (qI (qc (qa (qd (sv) rfl (qf (sv) rfl (qb (jl [] _ _ rfl (fun F2 le2 hz1 => ?_))))))))))
 replace hC := hC.mono le2
 have hf1 : StepsF F2 sv ss := CO.fz hC (by first | rfl | omega | (rw [List.length_set]; omega) | (simp; done)) hz1.fz
 refine qv (qp (L' := L) [sv] (sv) (.tmp rfl .nil) rfl (qm leG1 le2) rF (sD sR) ?_)
 have e1 : stepsL ar rs t = ss := by rw [hss, show k = t.length from by omega]; rfl
 rw [e1]
 exact ⟨_, rfl, hf1, rfl⟩

/- spec.l1TermPlace -/
theorem l1TermPlace_spec {F : FH} {L : List HP} {tsv : Value} {ts : List (List Int)} (hts : RowsF F tsv ts) {xv : Value} {x : List Int} (hx : IntsF F xv x) (hlt : ts.length ≤ 4000000) (htb : ∀ i, i < ts.length → (ts.getD i []).length ≤ 4000000) (hlx : x.length ≤ 4000000) :
    Does prog 245 [tsv, xv] F (L) (fun v F' L' => (ii (badG (fun y => !decide (y = x)) ts) : Value) = v ∧ F = F' ∧ L = L') := by
 refine qz func245 rfl rfl rfl (qc (qa (qf (ii (0)) rfl (qb (qc (qc (qa (qf (ii (0)) rfl (qb (qG (jc (α := Nat) (fun k => [(0, tsv), (1, xv), (5, ii ((k : Int)))]) (fun k => L) (fun k F' => F = F' ∧ (k ≤ ts.length) ∧ (∀ i, i < k → (fun y => !decide (y = x)) (ts.getD i []) = true)) (fun k => ts.length - k) 0 ⟨rfl, rfl, rfl, ⟨⟩⟩ sR ⟨rfl, (by (try dsimp only) <;> omega), (fun i hi => absurd hi (by omega))⟩ ?_)))))))))))
 rintro k rE _ _ ⟨rfl, hk, hall⟩
 show X _ _ _ _ (envs [(0, tsv), (1, xv), (5, ii ((k : Int)))] rE) _ (L)
 have htbk := htb k
 refine qc (qc (qa (qd (ii ((k : Int))) rfl (qd (tsv) rfl (cX (qA qs rfl hts.slv (cX (qT rfl rfl (qb ?_)))))))))
 refine qx (p := (k : Int) < (ts.length : Int)) rfl (fun h1 => ?_) (fun h1 => ?_)
 ·refine qw (qc (qG (qc (qa (qd (tsv) rfl (qd (ii ((k : Int))) rfl (cX (qy k qs qt rfl rfl rfl hts.slv (by omega) (Nat.mul_one _) ?_))))))))
  obtain ⟨a1, ha1, hr1⟩ := hts.rd (i := k) (by omega)
  refine cX (qh qM rfl (hr1 _) (qd (xv) rfl (cX (qn (args := [a1, xv]) call32 rfl (SameTerm_spec ha1 hx (hbd := (by first | assumption | rfl | omega | (left; simp; done) | (right; simp; done)))) ?_))))
  rintro _ _ _ _ ⟨rfl, rfl, rfl⟩
  refine qb ?_
  refine qx (p := ((ts.getD k [])) = x) rfl (fun h2 => ?_) (fun h2 => ?_)
  ·refine qc (qa (qd (ii ((k : Int))) rfl (qf (ii ((k : Int))) rfl (qb (qv (qF (ql (ql (qF (ql (qp (L' := L) [ii ((k : Int))] (ii ((k : Int))) (.tmp rfl .nil) rfl rF rF sR ?_)))))))))))
   exact ⟨(vI (badG_at [] (by omega) (by simp_all) hall)), rfl, rfl⟩
  refine qw (qa (qd (ii ((k : Int))) rfl (cX (qN (((k + 1 : Nat) : Int)) rfl rfl (by omega) (by omega) (qf (ii (((k + 1 : Nat) : Int))) rfl (qb ?_))))))
  exact ⟨k + 1, _, FLe.refl _, rF, ⟨rfl, rfl, rfl, ⟨⟩⟩, sR, ⟨rfl, (by (try dsimp only) <;> omega), (fun i hi => (Nat.lt_or_ge i k).elim (fun h => hall i h) (fun h => by obtain rfl : i = k := (by omega); simp_all))⟩, (by omega)⟩
 refine jb (qo (qo (qI (qc (qa (qf (ii (-1)) rfl (qb (qv (qp (L' := L) [ii (-1)] (ii (-1)) (.tmp rfl .nil) rfl rF rF sR ?_)))))))))
 exact ⟨(vI (badG_none [] (fun i hi => hall i (by omega)))), rfl, rfl⟩

/- spec.l9Right -/
theorem l9Right_spec {F : FH} {L : List HP} {arv : Value} {ar : List Int} (har : IntsF F arv ar) {rsv : Value} {rs : List (List Int × List Int)} (hrs : PairsF F rsv rs) {tv : Value} {t : List Int} (ht : IntsF F tv t) {n : Int} (hla : ar.length ≤ 4000000) (hlr : rs.length ≤ 4000000) (hrb : ∀ i, i < rs.length → (rs.getD i ([], [])).1.length ≤ 4000000 ∧ (rs.getD i ([], [])).2.length ≤ 4000000) (hlt : t.length ≤ 4000000) :
    Does prog 129 [.agg #[arv, rsv], tv, ii (n)] F (L) (fun v F' L' => (.bool (reachOkL ar rs n [t]) : Value) = v ∧ F = F' ∧ L = L') := by
 refine qz func129 rfl rfl rfl (qc (qa (cX (qW [arv, rsv] rfl rfl ?_))))
 intro b1
 refine qf (.bool (false)) rfl (qb (qc (qa (cX (qq [arv, rsv] jL jy rfl rfl (Rd.ownN [] rfl rfl) (qd (tv) rfl (cX (qn (args := [.agg #[arv, rsv], tv]) call107 rfl (l7Right_spec har hrs ht (hla := (by first | assumption | rfl | omega | simp)) (hlr := (by first | assumption | rfl | omega | simp)) (hrb := (by first | assumption | rfl | omega | simp)) (hlt := (by first | assumption | rfl | omega | simp))) ?_))))))))
 rintro _ _ _ _ ⟨rfl, rfl, rfl⟩
 refine qd (.bool (rightB ar rs t)) rfl ?_
 by_cases h1 : (rightB ar rs t) = true
 ·refine qu (t := 10) rfl (vB h1) (qr (ii (n)) rfl (qu (t := 10) rfl (vB h1) (qn (args := [ii (n), ii (0), ii (20)]) call109 rfl (l1In_spec (n := n) (a := 0) (b := 20)) ?_)))
  rintro _ _ _ _ ⟨rfl, rfl, rfl⟩
  refine cX (jk (.bool (decide (0 ≤ n ∧ n ≤ 20))) (vB h1) rfl (qf (.bool (decide (0 ≤ n ∧ n ≤ 20))) rfl (qb (qv (qp (L' := L) [.bool (decide (0 ≤ n ∧ n ≤ 20))] (.bool (decide (0 ≤ n ∧ n ≤ 20))) (.tmp rfl .nil) rfl rF rF (sD sR) ?_)))))
  exact ⟨(vB (by rw [reachOk_right]; simp_all)), rfl, rfl⟩
 rw [Bool.not_eq_true] at h1
 refine qE (t := 10) rfl (vB h1) (qE (t := 10) rfl (vB h1) (cX (ja (.bool (false)) (vB h1) rfl (qf (.bool (false)) rfl (qb (qv (qp (L' := L) [.bool (false)] (.bool (false)) (.tmp rfl .nil) rfl rF rF (sD sR) ?_)))))))
 exact ⟨(vB (by rw [reachOk_right]; simp_all)), rfl, rfl⟩

/- spec.l9Find -/
set_option maxHeartbeats 1000000 in
set_option maxRecDepth 20000 in
theorem l9Find_spec {F : FH} {L : List HP} {arv : Value} {ar : List Int} (har : IntsF F arv ar) {rsv : Value} {rs : List (List Int × List Int)} (hrs : PairsF F rsv rs) {tv : Value} {t : List Int} (ht : IntsF F tv t) {n : Int} (hsys : sysOk ar rs = true) (ho : termOk ar t = true) (hn20 : 0 ≤ n ∧ n ≤ 20) :
    Does prog 133 [.agg #[arv, rsv], tv, ii (n)] F (L) (fun v F' L' => ∃ (x1 : Value), ∃ (x2 : Value), ∃ (x3 : Value), ∃ (x4 : Value), (.agg #[x1, x2, x3, x4, .bool ((reachL ar rs t n).2)] : Value) = v ∧ (RowsF F' x1 (terms (reachL ar rs t n).1)) ∧ (IntsF F' x2 (froms (reachL ar rs t n).1)) ∧ (StepsF F' x3 (bys (reachL ar rs t n).1)) ∧ (IntsF F' x4 (deeps (reachL ar rs t n).1)) ∧ L = L') := by
 refine qz func133 rfl rfl rfl ?_
 have hnn := yb ht (by have := termOk_len ho; omega)
 have htl := termOk_len ho
 have hrl := (sysOk_iff.1 hsys).2.1
 have hsig := (sysOk_iff.1 hsys).1
 have hsl := sigOk_spec hsig
 refine qc (qa (cX (qW [arv, rsv] rfl rfl ?_)))
 intro b1
 refine cX (qS [sN, sN, sN, sN, .bool (false)] zeroValue196 rfl ?_)
 intro b2
 refine qb (qc (qa (qd (tv) rfl (cX (jM <| qn (args := [tv]) call105 rfl (l1Copy_spec ht (hlt := (by first | assumption | rfl | omega | simp))) ?_)))))
 rintro v1 _ _ _ ⟨rfl, hs1, rfl⟩
 refine ⟨_, _, rfl, fun F1 le1 hz1 => ?_⟩
 replace har := har.mono le1
 replace hrs := hrs.mono le1
 have hf1 : IntsF F1 v1 ((t)) := intsH.fz (xs := (t)) hz1.fz
 refine cX (qL (s := 1) [v1] [sN] [(0, [v1])] qs qt jP rfl (by decide) rfl (.cons (cells_one (qB hf1)) CellsAre.nil) rfl ?_)
 intro v2 hv1
 refine cX (qL (s := 1) [ii (-1)] [ii (0)] [(0, [ii (-1)])] qg qJ jC rfl (by decide) rfl (.cons rfl CellsAre.nil) rfl ?_)
 intro v3 hv2
 refine cX (jf [ii (0), ii (0), sN] [ii (0), ii (0), sN] [(0, 1), (1, 1), (2, 1)] [] jp jE rfl (.cons rfl qJ (.cons rfl qJ (.cons rfl qt PlacesAre.nil))) rfl CellsAre.nil (cX (qL (s := 3) [ii (0), ii (0), sN] [ii (0), ii (0), sN] [(0, [ii (0), ii (0), sN])] qV jd jE rfl (by decide) rfl (.cons rfl CellsAre.nil) rfl ?_)))
 intro v4 hv3
 refine cX (qL (s := 1) [ii (0)] [ii (0)] [(0, [ii (0)])] qg qJ jC rfl (by decide) rfl (.cons rfl CellsAre.nil) rfl ?_)
 intro v5 hv4
 refine cX (jf [v2, v3, v4, v5, .bool (true)] [sN, sN, sN, sN, .bool (false)] [(0, 1), (1, 1), (2, 1), (3, 1), (4, 1)] [(0, [v2]), (1, [v3]), (2, [v4]), (3, [v5]), (4, [.bool (true)])] jm zeroValue196 rfl (.cons rfl qP (.cons rfl qt (.cons rfl jR (.cons rfl qt (.cons rfl sizeOf4 PlacesAre.nil))))) rfl (.cons (cells_one (jD hv1)) (.cons (cells_one (jD hv2)) (.cons (cells_one (jD hv3)) (.cons (cells_one (jD hv4)) (.cons rfl CellsAre.nil))))) (cX (qS [sN, sN, sN, sN, .bool (false)] zeroValue196 rfl ?_)))
 intro b3
 refine cX (qD [] _ [v2, v3, v4, v5, .bool (true)] sizeOf196 rfl rfl rfl (qi (qC (jD hv1)) (qi (qC (jD hv2)) (qi (qC (jD hv3)) (qi (qC (jD hv4)) (qi rfl qH))))) rfl rfl rfl (qb (qc (qc (qa (qf (ii (0)) rfl (qb (qG ?_))))))))
 have hc1 : RowsC F1 [v1] ([(t)] : List (List Int)) := (RowsC.snoc (CO.nil : RowsC F1 [] []) hf1)
 show X _ _ _ _ _ _ (cellsH b3 [v2, v3, v4, v5, .bool (true)] 196 :: slH 2 1 v5 1 [ii (0)] :: slH 192 3 v4 1 [ii (0), ii (0), sN] :: intsH 2 v3 ([-1] : List Int) :: slH 22 1 v2 1 ([v1]) :: cellsH b2 [sN, sN, sN, sN, .bool (false)] 196 :: cellsH b1 [arv, rsv] 39 :: L)
 have hc2 : StepsC F1 [ii (0), ii (0), sN] ([(0, 0, [])] : List StepT) := (StepsC.snoc (CO.nil : StepsC F1 [] []) (i := 0) (j := 0) IntsF.nilV)
 show X _ _ _ _ _ _ (cellsH b3 [v2, v3, v4, v5, .bool (true)] 196 :: intsH 2 v5 ([0] : List Int) :: slH 192 3 v4 1 ([ii (0), ii (0), sN]) :: intsH 2 v3 ([-1] : List Int) :: slH 22 1 v2 1 ([v1]) :: cellsH b2 [sN, sN, sN, sN, .bool (false)] 196 :: cellsH b1 [arv, rsv] 39 :: L)
 refine jc (α := Nat × List FoundT × Value × RowL × List Value × Nat × Value × List Int × Value × List StepT × List Value × Nat × Value × List Int × FH) (fun xQ => [(2, ii (n)), (3, ptr b1 0), (6, ptr b2 0), (7, ptr b3 0), (8, ii (((xQ.1 : Nat) : Int)))]) (fun xQ => slH 22 1 xQ.2.2.1 xQ.2.2.2.2.2.1 xQ.2.2.2.2.1 :: intsH 2 xQ.2.2.2.2.2.2.1 xQ.2.2.2.2.2.2.2.1 :: slH 192 3 xQ.2.2.2.2.2.2.2.2.1 xQ.2.2.2.2.2.2.2.2.2.2.2.1 xQ.2.2.2.2.2.2.2.2.2.2.1 :: intsH 2 xQ.2.2.2.2.2.2.2.2.2.2.2.2.1 xQ.2.2.2.2.2.2.2.2.2.2.2.2.2.1 :: cellsH b3 [xQ.2.2.1, xQ.2.2.2.2.2.2.1, xQ.2.2.2.2.2.2.2.2.1, xQ.2.2.2.2.2.2.2.2.2.2.2.2.1, .bool (true)] 196 :: cellsH b2 [sN, sN, sN, sN, .bool (false)] 196 :: cellsH b1 [arv, rsv] 39 :: L) (fun xQ F' => xQ.2.2.2.2.2.2.2.2.2.2.2.2.2.2 = F' ∧ F1 ≤ xQ.2.2.2.2.2.2.2.2.2.2.2.2.2.2 ∧ (IsSl xQ.2.2.1) ∧ (IsSl xQ.2.2.2.2.2.2.1) ∧ (IsSl xQ.2.2.2.2.2.2.2.2.1) ∧ (IsSl xQ.2.2.2.2.2.2.2.2.2.2.2.2.1) ∧ (RowsC xQ.2.2.2.2.2.2.2.2.2.2.2.2.2.2 xQ.2.2.2.2.1 xQ.2.2.2.1) ∧ (StepsC xQ.2.2.2.2.2.2.2.2.2.2.2.2.2.2 xQ.2.2.2.2.2.2.2.2.2.2.1 xQ.2.2.2.2.2.2.2.2.2.1) ∧ (xQ.2.2.2.2.2.1 = xQ.2.2.2.1.length) ∧ (xQ.2.2.2.2.2.2.2.2.2.2.2.1 = xQ.2.2.2.2.2.2.2.2.2.1.length) ∧ (xQ.2.2.2.1 = terms xQ.2.1) ∧ (xQ.2.2.2.2.2.2.2.1 = froms xQ.2.1) ∧ (xQ.2.2.2.2.2.2.2.2.2.1 = bys xQ.2.1) ∧ (xQ.2.2.2.2.2.2.2.2.2.2.2.2.2.1 = deeps xQ.2.1) ∧ (xQ.2.1.length ≤ 60) ∧ (AllOk ar xQ.2.1) ∧ (DeepOk n xQ.2.1) ∧ (xQ.1 ≤ xQ.2.1.length) ∧ (reachL ar rs t n = reachGo ar rs n (60 - xQ.1) xQ.1 xQ.2.1)) (fun xQ => 60 - xQ.1) (0, start0 t, v2, ([(t)] : List (List Int)), [v1], 1, v3, [-1], v4, ([(0, 0, [])] : List StepT), [ii (0), ii (0), sN], 1, v5, [0], F1) ⟨rfl, rfl, rfl, rfl, rfl, ⟨⟩⟩ (qQ (qK (A := [_, _, _, _, _, _])) (qQ (qK (A := [_, _, _, _, _, _])) (qQ (qK (A := [_, _])) (qQ (qK (A := [_, _, _])) (qQ (qK (A := [_, _, _, _])) (qQ (qK (A := [_, _, _, _, _])) (qQ (qK (A := [_, _, _, _, _, _])) (sC (sC (sC (sC (sC (sC (sC sR)))))))))))))) ⟨rfl, FLe.refl _, ((jD hv1)), ((jD hv2)), ((jD hv3)), ((jD hv4)), (hc1), (hc2), (rfl), (rfl), (rfl), (rfl), (rfl), (rfl), (by simp [start0]), (AllOk.start ho), (DeepOk.start hn20.1), (by simp), (rfl)⟩ ?_
 rintro ⟨k, os, av, ts, acs, an, bv, fs, cv, bs, ccs, cn, dv, ds, G1⟩ rE _ _ ⟨rfl, leG, hav, hbv, hcv, hdv, hA, hB, han, hcn, hts, hfs, hbs, hds, hl, hok, hdo, hk, hgo⟩
 show X _ _ _ _ (envs [(2, ii (n)), (3, ptr b1 0), (6, ptr b2 0), (7, ptr b3 0), (8, ii ((k : Int)))] rE) _ (slH 22 1 av an acs :: intsH 2 bv fs :: slH 192 3 cv cn ccs :: intsH 2 dv ds :: cellsH b3 [av, bv, cv, dv, .bool (true)] 196 :: cellsH b2 [sN, sN, sN, sN, .bool (false)] 196 :: cellsH b1 [arv, rsv] 39 :: L)
 replace leG : F1 ≤ G1 := leG
 dsimp only at hav hbv hcv hdv hA hB han hcn hts hfs hbs hds hl hok hdo hk hgo
 have htl9 : ts.length = os.length := by rw [hts]; exact terms_len
 have hfl9 : fs.length = os.length := by rw [hfs]; exact froms_len
 have hbl9 : bs.length = os.length := by rw [hbs]; exact bys_len
 have hdl9 : ds.length = os.length := by rw [hds]; exact deeps_len
 have hdk := fun (h : k < os.length) => hok k h
 have hdl := fun (h : k < os.length) => termOk_len (hok k h)
 have hEt : ts.getD k [] = (EL os k).1 := by rw [hts]; exact terms_get k
 have hEd := fun (h : k < os.length) => (show ds.getD k 0 = (EL os k).2.2.2 from by rw [hds]; exact deeps_get h)
 have leG1 := leG
 replace har := har.mono leG1
 replace hrs := hrs.mono leG1
 refine qc (qc (qa (qd (ii ((k : Int))) rfl (cX (qk (0) jm rfl qP (by decide) rfl rfl (cX (qh jg rfl (Rd.own [_, _, _, _] rfl rfl) (cX (qA qs rfl (SlV.own [] rfl) (cX (qT rfl rfl (qb ?_))))))))))))
 refine qx (p := (k : Int) < ((an : Nat) : Int)) rfl (fun h1 => ?_) (fun h1 => ?_)
 ·refine qw (qc (qG (qc (qc (qa (cX (qk (3) jm rfl qt (by decide) rfl rfl (cX (qh qM rfl (Rd.own [_, _, _, _] rfl rfl) (qd (ii ((k : Int))) rfl (cX (qy k qg qJ rfl rfl rfl (intsH.slv [_, _, _] rfl) (by omega) (Nat.mul_one _) (cX (qh jn rfl (intsH.rd [_, _, _] rfl (by omega)) (qd (ii (n)) rfl (cX (XOp.eql rfl rfl (qb ?_))))))))))))))))))
  refine qx (p := (ds.getD k 0 : Int) = n) rfl (fun h2 => ?_) (fun h2 => ?_)
  ·have hdeep : (EL os k).2.2.2 = n := by rw [← hEd (by omega)]; exact h2
   refine jb (qo (qI (qa (qd (ii ((k : Int))) rfl (cX (qN (((k + 1 : Nat) : Int)) rfl rfl (by omega) (by omega) (qf (ii (((k + 1 : Nat) : Int))) rfl (qb ?_))))))))
   exact ⟨(k + 1, os, av, ts, acs, an, bv, fs, cv, bs, ccs, cn, dv, ds, G1), _, leG1, rF, ⟨rfl, rfl, rfl, rfl, rfl, ⟨⟩⟩, (sC (sC (sC (sC (sC (sC (sC sR))))))), ⟨rfl, leG1, (hav), (hbv), (hcv), (hdv), (hA), (hB), (han), (hcn), (hts), (hfs), (hbs), (hds), (hl), (hok), (hdo), (by (try dsimp only) <;> omega), (by (try dsimp only); exact hgo.trans (reach_same (f := 60 - k - 1) (by omega) (by omega) hdeep))⟩, (by (try dsimp only); omega)⟩
  have hdeep : (EL os k).2.2.2 ≠ n := by rw [← hEd (by omega)]; exact h2
  refine qw (qc ?_)
  obtain ⟨a1, ha1, he1⟩ := hA.get (i := k) (by omega)
  refine jV [slH 22 1 av an acs, intsH 2 bv fs, slH 192 3 cv cn ccs, intsH 2 dv ds, cellsH b3 [av, bv, cv, dv, .bool (true)] 196, cellsH b2 [sN, sN, sN, sN, .bool (false)] 196, cellsH b1 [arv, rsv] 39] L 6 [] [[], [], [1], [], [2, 3], [4]] (phiL [qe (.agg #[arv, rsv]), qe (ptr b3 0), qe av, qe (ii ((k : Int)) : Value), qe (.pointer (some (elemA av (k)))), qe a1]) (ownL []) mixed rfl rfl (by kernel_rfl) ?_ ?_
  ·refine pD (fun W R z9 => ?_) ?_
   ·refine qj (qq [arv, rsv] jL jy rfl rfl (Rd.ownN [_, _, _, _, _, _] rfl rfl) ?_)
    exact ⟨rfl, rfl, rfl⟩
   refine pD (fun W R z9 => ?_) ?_
   ·refine qj (qk (0) jm rfl qP (by decide) rfl rfl ?_)
    exact ⟨rfl, rfl, rfl⟩
   refine pD (fun W R z9 => ?_) ?_
   ·rw [zA 1 (z9 1 rfl)]
    refine qj (qh jg rfl (Rd.own [_, _, _, _] rfl rfl) ?_)
    exact ⟨rfl, rfl, rfl⟩
   refine pD (fun W R z9 => ?_) ?_
   ·refine qj (qr (ii ((k : Int))) rfl ?_)
    exact ⟨rfl, rfl, rfl⟩
   refine pD (fun W R z9 => ?_) ?_
   ·rw [zB 2 3 (z9 2 rfl) (z9 3 rfl)]
    refine qj (qy k qs qt rfl rfl rfl (SlV.own [] rfl) (by omega) (Nat.mul_one _) ?_)
    exact ⟨rfl, rfl, rfl⟩
   refine pD (fun W R z9 => ?_) ?_
   ·rw [zA 4 (z9 4 rfl)]
    refine qj (qh qM rfl (Rd.sl [] rfl he1) ?_)
    exact ⟨rfl, rfl, rfl⟩
   exact stepsP.nil
  intro W hphi
  rw [zB 0 5 (hphi 0 (by decide)) (hphi 5 (by decide))]
  show XL _ _ _ _ _ _ _ (slH 22 1 av an acs :: intsH 2 bv fs :: slH 192 3 cv cn ccs :: intsH 2 dv ds :: cellsH b3 [av, bv, cv, dv, .bool (true)] 196 :: cellsH b2 [sN, sN, sN, sN, .bool (false)] 196 :: cellsH b1 [arv, rsv] 39 :: L)
  refine cX (qn (args := [.agg #[arv, rsv], a1]) call243 rfl (l7Steps_spec har hrs ha1 (hsys := (hsys)) (ho := (by rw [hEt]; exact hdk (by omega)))) ?_)
  rintro _ F2 _ le2 ⟨x1, rfl, hr1, rfl⟩
  replace hA := hA.mono le2
  replace hB := hB.mono le2
  refine qf (x1) rfl (qb (qc (qa ?_)))
  have hk7 : k < os.length := by omega
  obtain ⟨nx, hnx⟩ : ∃ nx, stepsL ar rs (ts.getD k []) = nx := ⟨_, rfl⟩
  rw [hnx] at hr1
  obtain ⟨os0, hos0⟩ : ∃ o, o = os := ⟨_, rfl⟩
  have hdeep0 := hdeep
  have hgo0 := hgo
  rw [← hos0] at hdeep0 hgo0
  have hnx0 : stepsL ar rs (EL os0 k).1 = nx := by rw [hos0, ← hEt]; exact hnx
  have hdk0 := hdk hk7
  have hdo0 := hdo k hk7
  have hl0 : os0.length ≤ 60 := by rw [hos0]; exact hl
  rw [← hos0] at hdk0 hdo0
  have hk70 := hk7
  rw [← hos0] at hk70
  have hnxo : ∀ i, i < nx.length → termOk ar (nx.getD i (0, 0, [])).2.2 = true := fun i hi => by rw [← hnx0] at hi ⊢; exact steps_ok hsys hdk0 hi
  have hnxl : nx.length ≤ 1000 := by have h9 := stepsTo_len (ar := ar) (t := (EL os0 k).1) (rs := rs) hrl (EL os0 k).1.length; have h8 := termOk_len hdk0; rw [← hnx0]; show (stepsTo ar rs (EL os0 k).1 (EL os0 k).1.length).length ≤ 1000; omega
  skip
  refine qf (ii (0)) rfl (qb (qG (jc (α := Nat × List FoundT × Value × RowL × List Value × Nat × Value × List Int × Value × List StepT × List Value × Nat × Value × List Int × FH) (fun xQ => [(2, ii (n)), (3, ptr b1 0), (6, ptr b2 0), (7, ptr b3 0), (8, ii ((k : Int))), (9, x1), (10, ii (((xQ.1 : Nat) : Int)))]) (fun xQ => slH 22 1 xQ.2.2.1 xQ.2.2.2.2.2.1 xQ.2.2.2.2.1 :: intsH 2 xQ.2.2.2.2.2.2.1 xQ.2.2.2.2.2.2.2.1 :: slH 192 3 xQ.2.2.2.2.2.2.2.2.1 xQ.2.2.2.2.2.2.2.2.2.2.2.1 xQ.2.2.2.2.2.2.2.2.2.2.1 :: intsH 2 xQ.2.2.2.2.2.2.2.2.2.2.2.2.1 xQ.2.2.2.2.2.2.2.2.2.2.2.2.2.1 :: cellsH b3 [xQ.2.2.1, xQ.2.2.2.2.2.2.1, xQ.2.2.2.2.2.2.2.2.1, xQ.2.2.2.2.2.2.2.2.2.2.2.2.1, .bool (true)] 196 :: cellsH b2 [sN, sN, sN, sN, .bool (false)] 196 :: cellsH b1 [arv, rsv] 39 :: L) (fun xQ F' => xQ.2.2.2.2.2.2.2.2.2.2.2.2.2.2 = F' ∧ F2 ≤ xQ.2.2.2.2.2.2.2.2.2.2.2.2.2.2 ∧ (IsSl xQ.2.2.1) ∧ (IsSl xQ.2.2.2.2.2.2.1) ∧ (IsSl xQ.2.2.2.2.2.2.2.2.1) ∧ (IsSl xQ.2.2.2.2.2.2.2.2.2.2.2.2.1) ∧ (RowsC xQ.2.2.2.2.2.2.2.2.2.2.2.2.2.2 xQ.2.2.2.2.1 xQ.2.2.2.1) ∧ (StepsC xQ.2.2.2.2.2.2.2.2.2.2.2.2.2.2 xQ.2.2.2.2.2.2.2.2.2.2.1 xQ.2.2.2.2.2.2.2.2.2.1) ∧ (xQ.2.2.2.2.2.1 = xQ.2.2.2.1.length) ∧ (xQ.2.2.2.2.2.2.2.2.2.2.2.1 = xQ.2.2.2.2.2.2.2.2.2.1.length) ∧ (xQ.2.2.2.1 = terms xQ.2.1) ∧ (xQ.2.2.2.2.2.2.2.1 = froms xQ.2.1) ∧ (xQ.2.2.2.2.2.2.2.2.2.1 = bys xQ.2.1) ∧ (xQ.2.2.2.2.2.2.2.2.2.2.2.2.2.1 = deeps xQ.2.1) ∧ (xQ.2.1.length ≤ 60) ∧ (AllOk ar xQ.2.1) ∧ (DeepOk n xQ.2.1) ∧ (xQ.1 ≤ nx.length) ∧ (k < xQ.2.1.length) ∧ (EL xQ.2.1 k = EL os0 k) ∧ (addGo (k : Int) (EL os0 k).2.2.2 nx os0 = addGo (k : Int) (EL os0 k).2.2.2 (nx.drop xQ.1) xQ.2.1)) (fun xQ => nx.length - xQ.1) (0, os, av, ts, acs, an, bv, fs, cv, bs, ccs, cn, dv, ds, F2) ⟨rfl, rfl, rfl, rfl, rfl, rfl, rfl, ⟨⟩⟩ (sC (sC (sC (sC (sC (sC (sC sR))))))) ⟨rfl, FLe.refl _, (hav), (hbv), (hcv), (hdv), (hA), (hB), (han), (hcn), (hts), (hfs), (hbs), (hds), (hl), (hok), (hdo), (by (try dsimp only) <;> omega), (by (try dsimp only); omega), (by (try dsimp only); rw [hos0]), (by (try dsimp only); rw [hos0]; rfl)⟩ ?_)))
  rintro ⟨q, os, av, ts, acs, an, bv, fs, cv, bs, ccs, cn, dv, ds, G2⟩ rE _ _ ⟨rfl, leG, havi, hbvi, hcvi, hdvi, hAi, hBi, hani, hcni, htsi, hfsi, hbsi, hdsi, hli, hoki, hdoi, hq, hkp, hel, hgoi⟩
  show X _ _ _ _ (envs [(2, ii (n)), (3, ptr b1 0), (6, ptr b2 0), (7, ptr b3 0), (8, ii ((k : Int))), (9, x1), (10, ii ((q : Int)))] rE) _ (slH 22 1 av an acs :: intsH 2 bv fs :: slH 192 3 cv cn ccs :: intsH 2 dv ds :: cellsH b3 [av, bv, cv, dv, .bool (true)] 196 :: cellsH b2 [sN, sN, sN, sN, .bool (false)] 196 :: cellsH b1 [arv, rsv] 39 :: L)
  replace leG : F2 ≤ G2 := leG
  dsimp only at havi hbvi hcvi hdvi hAi hBi hani hcni htsi hfsi hbsi hdsi hli hoki hdoi hq hkp hel hgoi
  have htl9i : ts.length = os.length := by rw [htsi]; exact terms_len
  have hfl9i : fs.length = os.length := by rw [hfsi]; exact froms_len
  have hbl9i : bs.length = os.length := by rw [hbsi]; exact bys_len
  have hdl9i : ds.length = os.length := by rw [hdsi]; exact deeps_len
  have hsok := fun (h : q < nx.length) => termOk_len (hnxo q h)
  have hdk9 : ds.getD k 0 = (EL os0 k).2.2.2 := by rw [hdsi, deeps_get hkp, hel]
  have leG2 := leG
  replace hA := hA.mono leG2
  replace hB := hB.mono leG2
  replace hr1 := hr1.mono leG2
  refine qc (qc (qa (qd (ii ((q : Int))) rfl (qd (x1) rfl (cX (qA qV rfl hr1.slv (cX (qT rfl rfl (qb ?_)))))))))
  refine qx (p := (q : Int) < (nx.length : Int)) rfl (fun h3 => ?_) (fun h3 => ?_)
  ·refine qw (qc (qG (qc (qc ?_))))
   obtain ⟨a2, ha2, hr2, hr3, hr4⟩ := hr1.rd (i := q) (by omega)
   refine jV [slH 22 1 av an acs, intsH 2 bv fs, slH 192 3 cv cn ccs, intsH 2 dv ds, cellsH b3 [av, bv, cv, dv, .bool (true)] 196, cellsH b2 [sN, sN, sN, sN, .bool (false)] 196, cellsH b1 [arv, rsv] 39] L 7 [] [[], [0], [], [], [2, 3], [4], [5]] (phiL [qe (ptr b3 0), qe av, qe x1, qe (ii ((q : Int)) : Value), qe (.pointer (some (elemA x1 (q * 3)))), qe (.pointer (some (elemA x1 (q * 3 + 2)))), qe a2]) (ownL []) mixed rfl rfl (by kernel_rfl) ?_ ?_
   ·refine pD (fun W R z9 => ?_) ?_
    ·refine qj (qk (0) jm rfl qP (by decide) rfl rfl ?_)
     exact ⟨rfl, rfl, rfl⟩
    refine pD (fun W R z9 => ?_) ?_
    ·rw [zA 0 (z9 0 rfl)]
     refine qj (qh jg rfl (Rd.own [_, _, _, _] rfl rfl) ?_)
     exact ⟨rfl, rfl, rfl⟩
    refine pD (fun W R z9 => ?_) ?_
    ·refine qj (qr (x1) rfl ?_)
     exact ⟨rfl, rfl, rfl⟩
    refine pD (fun W R z9 => ?_) ?_
    ·refine qj (qr (ii ((q : Int))) rfl ?_)
     exact ⟨rfl, rfl, rfl⟩
    refine pD (fun W R z9 => ?_) ?_
    ·rw [zB 2 3 (z9 2 rfl) (z9 3 rfl)]
     refine qj (qy q qV jd rfl rfl rfl hr1.slv (by omega) rfl ?_)
     exact ⟨rfl, rfl, rfl⟩
    refine pD (fun W R z9 => ?_) ?_
    ·rw [zA 4 (z9 4 rfl)]
     refine qj (jA (q * 3 + 2) jp rfl qt (by decide) rfl rfl ?_)
     exact ⟨rfl, rfl, rfl⟩
    refine pD (fun W R z9 => ?_) ?_
    ·rw [zA 5 (z9 5 rfl)]
     refine qj (qh qM rfl (hr4 _) ?_)
     exact ⟨rfl, rfl, rfl⟩
    exact stepsP.nil
   intro W hphi
   rw [zB 1 6 (hphi 1 (by decide)) (hphi 6 (by decide))]
   show XL _ _ _ _ _ _ _ (slH 22 1 av an acs :: intsH 2 bv fs :: slH 192 3 cv cn ccs :: intsH 2 dv ds :: cellsH b3 [av, bv, cv, dv, .bool (true)] 196 :: cellsH b2 [sN, sN, sN, sN, .bool (false)] 196 :: cellsH b1 [arv, rsv] 39 :: L)
   refine cX (XOp.lend [] _ _ rfl (fun F3 le3 hz2 => ?_))
   have hf2 : RowsF _ av ts := (CO.fz (RowsC.mono hAi (qm le3 rF)) (by first | rfl | assumption | omega | (rw [List.length_append]; simp only [List.length_singleton]; omega)) hz2 : RowsF _ av ts)
   refine id (qn (args := [av, a2]) call245 rfl (l1TermPlace_spec hf2 ((ha2.mono le3)) (hlt := (by omega)) (htb := (fun i hi => by rw [htsi, terms_get]; have := termOk_len (hoki i (by omega)); omega)) (hlx := (by have := hsok (by omega); omega))) ?_)
   rintro _ _ _ _ ⟨rfl, rfl, rfl⟩
   show XL _ _ _ _ _ _ _ (slH 22 1 av an acs :: intsH 2 bv fs :: slH 192 3 cv cn ccs :: intsH 2 dv ds :: cellsH b3 [av, bv, cv, dv, .bool (true)] 196 :: cellsH b2 [sN, sN, sN, sN, .bool (false)] 196 :: cellsH b1 [arv, rsv] 39 :: L)
   refine cX (jY rfl rfl (qb ?_))
   refine qx (p := (badG (fun y => !decide (y = ((nx.getD q (0, 0, [])).2.2))) ts : Int) ≥ 0) rfl (fun h4 => ?_) (fun h4 => ?_)
   ·have hbg : badG (fun y => !decide (y = (nx.getD q (0, 0, [])).2.2)) ts = foundI os (nx.getD q (0, 0, [])).2.2 := by rw [htsi]; exact foundI_terms
    have hin : isIn os (nx.getD q (0, 0, [])).2.2 = true := foundI_iff.1 (by rw [← hbg]; exact h4)
    refine jb (qo (qI (qa (qd (ii ((q : Int))) rfl (cX (qN (((q + 1 : Nat) : Int)) rfl rfl (by omega) (by omega) (qf (ii (((q + 1 : Nat) : Int))) rfl (qb ?_))))))))
    exact ⟨(q + 1, os, av, ts, acs, an, bv, fs, cv, bs, ccs, cn, dv, ds, G2), _, leG2, rF, ⟨rfl, rfl, rfl, rfl, rfl, rfl, rfl, ⟨⟩⟩, (sC (sC (sC (sC (sC (sC (sC sR))))))), ⟨rfl, leG2, (havi), (hbvi), (hcvi), (hdvi), (hAi), (hBi), (hani), (hcni), (htsi), (hfsi), (hbsi), (hdsi), (hli), (hoki), (hdoi), (by (try dsimp only) <;> omega), (hkp), (hel), (by (try dsimp only); exact hgoi.trans (add_in (by omega) hin))⟩, (by omega)⟩
   have hbg : badG (fun y => !decide (y = (nx.getD q (0, 0, [])).2.2)) ts = foundI os (nx.getD q (0, 0, [])).2.2 := by rw [htsi]; exact foundI_terms
   have hnin : isIn os (nx.getD q (0, 0, [])).2.2 = false := by rw [Bool.eq_false_iff]; intro h9; exact absurd (foundI_iff.2 h9) (by rw [← hbg]; exact h4)
   refine qw (qc (qc (qa (cX (qk (0) jm rfl qP (by decide) rfl rfl (cX (qh jg rfl (Rd.own [_, _, _, _] rfl rfl) (cX (qA qs rfl (SlV.own [] rfl) (cX (XOp.eql rfl rfl (qb ?_))))))))))))
   refine qx (p := (((an : Nat) : Int) : Int) = 60) rfl (fun h5 => ?_) (fun h5 => ?_)
   ·refine qc (qa (cX (qk (4) jm rfl sizeOf4 (by decide) rfl rfl (cX (jw [_, _, _, _] _ [av, bv, cv, dv, .bool (false)] sizeOf4 rfl rfl rfl rfl rfl rfl (qb (qc (qa (cX (qq [av, bv, cv, dv, .bool (false)] isAgg196 sizeOf196 rfl rfl (Rd.ownN [_, _, _, _] rfl rfl) (cX (qD [_, _, _, _, _] _ [av, bv, cv, dv, .bool (false)] sizeOf196 rfl rfl rfl (qi (qC havi) (qi (qC hbvi) (qi (qC hcvi) (qi (qC hdvi) (qi rfl qH))))) rfl rfl rfl (qb (jl [] _ _ rfl (fun F4 le4 hz3 => ?_)))))))))))))))
    replace hA := hA.mono le4
    replace hB := hB.mono le4
    replace hr1 := hr1.mono le4
    replace hAi := hAi.mono le4
    replace hBi := hBi.mono le4
    replace ha2 := ha2.mono le4
    replace hr2 := Rd.monoA hr2 le4
    replace hr3 := Rd.monoA hr3 le4
    replace hr4 := Rd.monoA hr4 le4
    have hf3 : RowsF F4 av ts := CO.fz hAi (by first | rfl | omega | (rw [List.length_set]; omega) | (simp; done)) hz3.fz
    refine jl [] _ _ rfl (fun F5 le5 hz4 => ?_)
    replace hA := hA.mono le5
    replace hB := hB.mono le5
    replace hr1 := hr1.mono le5
    replace hAi := hAi.mono le5
    replace hBi := hBi.mono le5
    replace ha2 := ha2.mono le5
    replace hf3 := hf3.mono le5
    replace hr2 := Rd.monoA hr2 le5
    replace hr3 := Rd.monoA hr3 le5
    replace hr4 := Rd.monoA hr4 le5
    have hf4 : IntsF F5 bv fs := intsH.fz (xs := fs) hz4.fz
    refine jl [] _ _ rfl (fun F6 le6 hz5 => ?_)
    replace hA := hA.mono le6
    replace hB := hB.mono le6
    replace hr1 := hr1.mono le6
    replace hAi := hAi.mono le6
    replace hBi := hBi.mono le6
    replace ha2 := ha2.mono le6
    replace hf3 := hf3.mono le6
    replace hf4 := hf4.mono le6
    replace hr2 := Rd.monoA hr2 le6
    replace hr3 := Rd.monoA hr3 le6
    replace hr4 := Rd.monoA hr4 le6
    have hf5 : StepsF F6 cv bs := CO.fz hBi (by first | rfl | omega | (rw [List.length_set]; omega) | (simp; done)) hz5.fz
    refine jl [] _ _ rfl (fun F7 le7 hz6 => ?_)
    replace hA := hA.mono le7
    replace hB := hB.mono le7
    replace hr1 := hr1.mono le7
    replace hAi := hAi.mono le7
    replace hBi := hBi.mono le7
    replace ha2 := ha2.mono le7
    replace hf3 := hf3.mono le7
    replace hf4 := hf4.mono le7
    replace hf5 := hf5.mono le7
    replace hr2 := Rd.monoA hr2 le7
    replace hr3 := Rd.monoA hr3 le7
    replace hr4 := Rd.monoA hr4 le7
    have hf6 : IntsF F7 dv ds := intsH.fz (xs := ds) hz6.fz
    refine qv (ql (qF (ql (ql (qF (qF (ql (ql (qF (ql (qp (L' := L) [.agg #[av, bv, cv, dv, .bool (false)]] (.agg #[av, bv, cv, dv, .bool (false)]) (.cell rfl (jo [av, bv, cv, dv, .bool (false)] isAgg196 sizeOf196 rfl (Rd.ownN [_] rfl rfl)) .nil) rfl (qm (qm (qm (qm (qm (qm (qm le1 leG1) le2) leG2) le4) le5) le6) le7) rF (sD (sD (sD sR))) ?_)))))))))))
    have h9 := hgoi.trans (add_full (by omega) hnin (by omega))
    have h8 := reach_stop (ar := ar) (rs := rs) (n := n) (f := 60 - k - 1) hk70 (by omega) hdeep0 (by rw [hnx0, h9])
    rw [hnx0, h9] at h8
    have e9 : reachL ar rs t n = (os, false) := hgo0.trans h8
    rw [e9]
    exact ⟨_, _, _, _, rfl, by rw [← htsi]; exact hf3, by rw [← hfsi]; exact hf4, by rw [← hbsi]; exact hf5, by rw [← hdsi]; exact hf6, rfl⟩
   refine qw (qc ?_)
   refine jV [slH 22 1 av an acs, intsH 2 bv fs, slH 192 3 cv cn ccs, intsH 2 dv ds, cellsH b3 [av, bv, cv, dv, .bool (true)] 196, cellsH b2 [sN, sN, sN, sN, .bool (false)] 196, cellsH b1 [arv, rsv] 39] L 8 [] [[], [0], [], [], [2, 3], [4], [5], [6]] (phiL [qe (ptr b3 0), qe av, qe x1, qe (ii ((q : Int)) : Value), qe (.pointer (some (elemA x1 (q * 3)))), qe (.pointer (some (elemA x1 (q * 3 + 2)))), qe a2, fun us v => ∃ b, v = .slice (some ⟨b, 0, none⟩) 1 1]) (ownL [o0, o0, o0, o0, o0, o0, o0, fun us v => [slH 22 1 v 1 [a2]]]) mixed rfl rfl (by kernel_rfl) ?_ ?_
   ·refine pD (fun W R z9 => ?_) ?_
    ·refine qj (qk (0) jm rfl qP (by decide) rfl rfl ?_)
     exact ⟨rfl, rfl, rfl⟩
    refine pD (fun W R z9 => ?_) ?_
    ·rw [zA 0 (z9 0 rfl)]
     refine qj (qh jg rfl (Rd.own [_, _, _, _] rfl rfl) ?_)
     exact ⟨rfl, rfl, rfl⟩
    refine pD (fun W R z9 => ?_) ?_
    ·refine qj (qr (x1) rfl ?_)
     exact ⟨rfl, rfl, rfl⟩
    refine pD (fun W R z9 => ?_) ?_
    ·refine qj (qr (ii ((q : Int))) rfl ?_)
     exact ⟨rfl, rfl, rfl⟩
    refine pD (fun W R z9 => ?_) ?_
    ·rw [zB 2 3 (z9 2 rfl) (z9 3 rfl)]
     refine qj (qy q qV jd rfl rfl rfl hr1.slv (by omega) rfl ?_)
     exact ⟨rfl, rfl, rfl⟩
    refine pD (fun W R z9 => ?_) ?_
    ·rw [zA 4 (z9 4 rfl)]
     refine qj (jA (q * 3 + 2) jp rfl qt (by decide) rfl rfl ?_)
     exact ⟨rfl, rfl, rfl⟩
    refine pD (fun W R z9 => ?_) ?_
    ·rw [zA 5 (z9 5 rfl)]
     refine qj (qh qM rfl (hr4 _) ?_)
     exact ⟨rfl, rfl, rfl⟩
    refine pD (fun W R z9 => ?_) ?_
    ·rw [zA 6 (z9 6 rfl)]
     refine qj (qL (s := 1) [a2] [sN] [(0, [a2])] qs qt jP rfl (by decide) rfl (.cons (cells_one (qB ha2)) CellsAre.nil) rfl ?_)
     intro v7 hv6
     exact ⟨rfl, hv6, rfl⟩
    exact stepsP.nil
   intro W hphi
   have f7 : ∃ b, (W 7) = .slice (some ⟨b, 0, none⟩) 1 1 := hphi 7 (by decide)
   generalize huu7 : W 7 = u1 at f7
   rw [eS (l := [(1, _), (7, u1)]) ⟨(hphi 1 (by decide)), huu7, ⟨⟩⟩]
   show XL _ _ _ _ _ _ _ (slH 22 1 u1 1 [a2] :: slH 22 1 av an acs :: intsH 2 bv fs :: slH 192 3 cv cn ccs :: intsH 2 dv ds :: cellsH b3 [av, bv, cv, dv, .bool (true)] 196 :: cellsH b2 [sN, sN, sN, sN, .bool (false)] 196 :: cellsH b1 [arv, rsv] 39 :: L)
   refine cX (jQ (m := 1) (bytes := 24) (cs := acs) [_] _ [a2] qs typeInfo22 rfl rfl rfl rfl rfl rfl rfl (SlV.own [] rfl) rfl (Rd.lit [] rfl) (qi (qC (qB ha2)) qH) (by (try simp only [List.length_append, List.length_nil, List.length_cons, List.length_singleton]); omega) (by (try simp only [List.length_append, List.length_nil, List.length_cons, List.length_singleton]); omega) ?_)
   intro v8 hs2 hn1 hm1
   have hc3 := RowsC.snoc hAi ha2
   refine cX (qk (0) jm rfl qP (by decide) rfl rfl (cX (jw [_, _, _, _, _] _ [v8, bv, cv, dv, .bool (true)] qP rfl rfl (qC hs2) rfl rfl rfl (qb (qc (qa (cX (qk (1) jm rfl qt (by decide) rfl rfl (cX (qh qM rfl (Rd.own [_, _, _, _, _] rfl rfl) (qd (ii ((k : Int))) rfl (cX (qL (s := 1) [ii ((k : Int))] [ii (0)] [(0, [ii ((k : Int))])] qg qJ jC rfl (by decide) rfl (.cons rfl CellsAre.nil) rfl ?_)))))))))))))
   intro v9 hv7
   refine cX (XOp.append1 (u := (k : Int)) [_, _, _] _ qg typeInfo2 rfl rfl rfl rfl rfl rfl (SlV.own [] rfl) (Rd.sl [] rfl rfl) (by (try simp only [List.length_append, List.length_nil, List.length_cons, List.length_singleton, List.length_take, List.length_drop]); omega) ?_)
   intro v10 hs3 hn2
   refine cX (qk (1) jm rfl qt (by decide) rfl rfl (cX (jw [_, _, _, _, _, _] _ [v8, v10, cv, dv, .bool (true)] qt rfl rfl (qC hs3) rfl rfl rfl (qb (qc ?_)))))
   refine jV [slH 2 1 v9 1 [ii ((k : Int))], slH 22 1 u1 1 [a2], slH 22 1 v8 ((an) + 1) (acs ++ [a2]), intsH 2 v10 (fs ++ [(k : Int)]), slH 192 3 cv cn ccs, intsH 2 dv ds, cellsH b3 [v8, v10, cv, dv, .bool (true)] 196, cellsH b2 [sN, sN, sN, sN, .bool (false)] 196, cellsH b1 [arv, rsv] 39] L 7 [] [[], [0], [], [], [2, 3], [4], [5]] (phiL [qe (ptr b3 2), qe cv, qe x1, qe (ii ((q : Int)) : Value), qe (.pointer (some (elemA x1 (q * 3)))), qe (.agg #[ii ((nx.getD q (0, 0, [])).1), ii ((nx.getD q (0, 0, [])).2.1), a2]), fun us v => ∃ b, v = .slice (some ⟨b, 0, none⟩) 1 1]) (ownL [o0, o0, o0, o0, o0, o0, fun us v => [slH 192 3 v 1 [ii ((nx.getD q (0, 0, [])).1), ii ((nx.getD q (0, 0, [])).2.1), a2]]]) mixed rfl rfl (by kernel_rfl) ?_ ?_
   ·refine pD (fun W R z9 => ?_) ?_
    ·refine qj (qk (2) jm rfl jR (by decide) rfl rfl ?_)
     exact ⟨rfl, rfl, rfl⟩
    refine pD (fun W R z9 => ?_) ?_
    ·rw [zA 0 (z9 0 rfl)]
     refine qj (qh isAgg43 rfl (Rd.own [_, _, _, _, _, _] rfl rfl) ?_)
     exact ⟨rfl, rfl, rfl⟩
    refine pD (fun W R z9 => ?_) ?_
    ·refine qj (qr (x1) rfl ?_)
     exact ⟨rfl, rfl, rfl⟩
    refine pD (fun W R z9 => ?_) ?_
    ·refine qj (qr (ii ((q : Int))) rfl ?_)
     exact ⟨rfl, rfl, rfl⟩
    refine pD (fun W R z9 => ?_) ?_
    ·rw [zB 2 3 (z9 2 rfl) (z9 3 rfl)]
     refine qj (qy q qV jd rfl rfl rfl hr1.slv (by omega) rfl ?_)
     exact ⟨rfl, rfl, rfl⟩
    refine pD (fun W R z9 => ?_) ?_
    ·rw [zA 4 (z9 4 rfl)]
     refine qj (qq [ii ((nx.getD q (0, 0, [])).1), ii ((nx.getD q (0, 0, [])).2.1), a2] isAgg192 jd rfl rfl (Rd.three (hr2 _) (hr3 _) (hr4 _)) ?_)
     exact ⟨rfl, rfl, rfl⟩
    refine pD (fun W R z9 => ?_) ?_
    ·rw [zA 5 (z9 5 rfl)]
     refine qj (qL (s := 3) [ii ((nx.getD q (0, 0, [])).1), ii ((nx.getD q (0, 0, [])).2.1), a2] [ii (0), ii (0), sN] [(0, [ii ((nx.getD q (0, 0, [])).1), ii ((nx.getD q (0, 0, [])).2.1), a2])] qV jd jE rfl (by decide) rfl (.cons rfl CellsAre.nil) rfl ?_)
     intro v12 hv9
     exact ⟨rfl, hv9, rfl⟩
    exact stepsP.nil
   intro W hphi
   have f6 : ∃ b, (W 6) = .slice (some ⟨b, 0, none⟩) 1 1 := hphi 6 (by decide)
   generalize huu6 : W 6 = u2 at f6
   rw [eS (l := [(1, _), (6, u2)]) ⟨(hphi 1 (by decide)), huu6, ⟨⟩⟩]
   show XL _ _ _ _ _ _ _ (slH 192 3 u2 1 [ii ((nx.getD q (0, 0, [])).1), ii ((nx.getD q (0, 0, [])).2.1), a2] :: slH 2 1 v9 1 [ii ((k : Int))] :: slH 22 1 u1 1 [a2] :: slH 22 1 v8 ((an) + 1) (acs ++ [a2]) :: intsH 2 v10 (fs ++ [(k : Int)]) :: slH 192 3 cv cn ccs :: intsH 2 dv ds :: cellsH b3 [v8, v10, cv, dv, .bool (true)] 196 :: cellsH b2 [sN, sN, sN, sN, .bool (false)] 196 :: cellsH b1 [arv, rsv] 39 :: L)
   refine cX (jQ (m := 1) (bytes := 40) (cs := ccs) [_, _, _, _, _] _ [ii ((nx.getD q (0, 0, [])).1), ii ((nx.getD q (0, 0, [])).2.1), a2] qV typeInfo192 rfl rfl rfl rfl rfl rfl rfl (SlV.own [] rfl) rfl (Rd.lit [] rfl) (qi rfl (qi rfl (qi (qC (qB ha2)) qH))) (by (try simp only [List.length_append, List.length_nil, List.length_cons, List.length_singleton]); omega) (by (try simp only [List.length_append, List.length_nil, List.length_cons, List.length_singleton]); omega) ?_)
   intro v13 hs4 hn3 hm2
   have hc4 := StepsC.snoc hBi (i := (nx.getD q (0, 0, [])).1) (j := (nx.getD q (0, 0, [])).2.1) ha2
   refine cX (qk (2) jm rfl jR (by decide) rfl rfl (cX (jw [_, _, _, _, _, _, _] _ [v8, v10, v13, dv, .bool (true)] jR rfl rfl (qC hs4) rfl rfl rfl (qb ?_))))
   refine jV [slH 192 3 u2 1 [ii ((nx.getD q (0, 0, [])).1), ii ((nx.getD q (0, 0, [])).2.1), a2], slH 2 1 v9 1 [ii ((k : Int))], slH 22 1 u1 1 [a2], slH 22 1 v8 ((an) + 1) (acs ++ [a2]), intsH 2 v10 (fs ++ [(k : Int)]), slH 192 3 v13 ((cn) + 1) (ccs ++ [ii ((nx.getD q (0, 0, [])).1), ii ((nx.getD q (0, 0, [])).2.1), a2]), intsH 2 dv ds, cellsH b3 [v8, v10, v13, dv, .bool (true)] 196, cellsH b2 [sN, sN, sN, sN, .bool (false)] 196, cellsH b1 [arv, rsv] 39] L 9 [] [[], [0], [], [2], [], [3, 4], [5], [6], [7]] (phiL [qe (ptr b3 3), qe dv, qe (ptr b3 3), qe dv, qe (ii ((k : Int)) : Value), qe (.pointer (some (elemA dv (k)))), qe (ii (ds.getD k 0)), qe (ii ((ds.getD k 0) + 1)), fun us v => ∃ b, v = .slice (some ⟨b, 0, none⟩) 1 1]) (ownL [o0, o0, o0, o0, o0, o0, o0, o0, fun us v => [slH 2 1 v 1 [ii ((ds.getD k 0) + 1)]]]) mixed rfl rfl (by kernel_rfl) ?_ ?_
   ·refine pD (fun W R z9 => ?_) ?_
    ·refine qj (qk (3) jm rfl qt (by decide) rfl rfl ?_)
     exact ⟨rfl, rfl, rfl⟩
    refine pD (fun W R z9 => ?_) ?_
    ·rw [zA 0 (z9 0 rfl)]
     refine qj (qh qM rfl (Rd.own [_, _, _, _, _, _, _] rfl rfl) ?_)
     exact ⟨rfl, rfl, rfl⟩
    refine pD (fun W R z9 => ?_) ?_
    ·refine qj (qk (3) jm rfl qt (by decide) rfl rfl ?_)
     exact ⟨rfl, rfl, rfl⟩
    refine pD (fun W R z9 => ?_) ?_
    ·rw [zA 2 (z9 2 rfl)]
     refine qj (qh qM rfl (Rd.own [_, _, _, _, _, _, _] rfl rfl) ?_)
     exact ⟨rfl, rfl, rfl⟩
    refine pD (fun W R z9 => ?_) ?_
    ·refine qj (qr (ii ((k : Int))) rfl ?_)
     exact ⟨rfl, rfl, rfl⟩
    refine pD (fun W R z9 => ?_) ?_
    ·rw [zB 3 4 (z9 3 rfl) (z9 4 rfl)]
     refine qj (qy k qg qJ rfl rfl rfl (intsH.slv [_, _, _, _, _, _] rfl) (by omega) (Nat.mul_one _) ?_)
     exact ⟨rfl, rfl, rfl⟩
    refine pD (fun W R z9 => ?_) ?_
    ·rw [zA 5 (z9 5 rfl)]
     refine qj (qh jn rfl (intsH.rd [_, _, _, _, _, _] rfl (by omega)) ?_)
     exact ⟨rfl, rfl, rfl⟩
    refine pD (fun W R z9 => ?_) ?_
    ·rw [zA 6 (z9 6 rfl)]
     refine qj (qN ((ds.getD k 0) + 1) rfl rfl (by omega) (by omega) ?_)
     exact ⟨rfl, rfl, rfl⟩
    refine pD (fun W R z9 => ?_) ?_
    ·rw [zA 7 (z9 7 rfl)]
     refine qj (qL (s := 1) [ii ((ds.getD k 0) + 1)] [ii (0)] [(0, [ii ((ds.getD k 0) + 1)])] qg qJ jC rfl (by decide) rfl (.cons rfl CellsAre.nil) rfl ?_)
     intro v15 hv11
     exact ⟨rfl, hv11, rfl⟩
    exact stepsP.nil
   intro W hphi
   have f8 : ∃ b, (W 8) = .slice (some ⟨b, 0, none⟩) 1 1 := hphi 8 (by decide)
   generalize huu8 : W 8 = u3 at f8
   rw [eS (l := [(1, _), (8, u3)]) ⟨(hphi 1 (by decide)), huu8, ⟨⟩⟩]
   show XL _ _ _ _ _ _ _ (slH 2 1 u3 1 [ii ((ds.getD k 0) + 1)] :: slH 192 3 u2 1 [ii ((nx.getD q (0, 0, [])).1), ii ((nx.getD q (0, 0, [])).2.1), a2] :: slH 2 1 v9 1 [ii ((k : Int))] :: slH 22 1 u1 1 [a2] :: slH 22 1 v8 ((an) + 1) (acs ++ [a2]) :: intsH 2 v10 (fs ++ [(k : Int)]) :: slH 192 3 v13 ((cn) + 1) (ccs ++ [ii ((nx.getD q (0, 0, [])).1), ii ((nx.getD q (0, 0, [])).2.1), a2]) :: intsH 2 dv ds :: cellsH b3 [v8, v10, v13, dv, .bool (true)] 196 :: cellsH b2 [sN, sN, sN, sN, .bool (false)] 196 :: cellsH b1 [arv, rsv] 39 :: L)
   refine cX (XOp.append1 (u := (ds.getD k 0) + 1) [_, _, _, _, _, _, _] _ qg typeInfo2 rfl rfl rfl rfl rfl rfl (SlV.own [] rfl) (Rd.sl [] rfl rfl) (by (try simp only [List.length_append, List.length_nil, List.length_cons, List.length_singleton, List.length_take, List.length_drop]); omega) ?_)
   intro v16 hs5 hn4
   refine cX (qk (3) jm rfl qt (by decide) rfl rfl (cX (jw [_, _, _, _, _, _, _, _] _ [v8, v10, v13, v16, .bool (true)] qt rfl rfl (qC hs5) rfl rfl rfl (qb (qa (qd (ii ((q : Int))) rfl (cX (qN (((q + 1 : Nat) : Int)) rfl rfl (by omega) (by omega) (qf (ii (((q + 1 : Nat) : Int))) rfl (qb ?_))))))))))
   exact ⟨(q + 1, os ++ [((nx.getD q (0, 0, [])).2.2, (k : Int), nx.getD q (0, 0, []), (EL os0 k).2.2.2 + 1)], v8, ts ++ [(nx.getD q (0, 0, [])).2.2], acs ++ [a2], (an) + 1, v10, fs ++ [(k : Int)], v13, bs ++ [((nx.getD q (0, 0, [])).1, (nx.getD q (0, 0, [])).2.1, (nx.getD q (0, 0, [])).2.2)], ccs ++ [ii ((nx.getD q (0, 0, [])).1), ii ((nx.getD q (0, 0, [])).2.1), a2], (cn) + 1, v16, ds ++ [(ds.getD k 0) + 1], G2), _, leG2, rF, ⟨rfl, rfl, rfl, rfl, rfl, rfl, rfl, ⟨⟩⟩, (sD (sD (sD (sD (sC (sC (sC (sC (sC (sC (sC sR))))))))))), ⟨rfl, leG2, (hs2), (hs3), (hs4), (hs5), (hc3), (hc4), (by (try dsimp only); rw [List.length_append, List.length_singleton]; omega), (by (try dsimp only); rw [List.length_append, List.length_singleton]; omega), (by (try dsimp only); rw [terms_snoc, htsi]), (by (try dsimp only); rw [froms_snoc, hfsi]), (by (try dsimp only); rw [bys_snoc, hbsi]), (by (try dsimp only); rw [deeps_snoc, ← hdsi, hdk9]), (by (try dsimp only); rw [List.length_append, List.length_singleton]; omega), (hoki.snoc (hnxo q (by omega))), (hdoi.snoc (by dsimp only; omega)), (by (try dsimp only) <;> omega), (by (try dsimp only); rw [List.length_append, List.length_singleton]; omega), (by (try dsimp only); rw [EL_snoc hkp]; exact hel), (by (try dsimp only); exact hgoi.trans (add_new (by omega) hnin (by omega)))⟩, (by omega)⟩
  refine jb (qo (qo (qI (qa (qd (ii ((k : Int))) rfl (cX (qN (((k + 1 : Nat) : Int)) rfl rfl (by omega) (by omega) (qf (ii (((k + 1 : Nat) : Int))) rfl (qb ?_)))))))))
  exact ⟨(k + 1, os, av, ts, acs, an, bv, fs, cv, bs, ccs, cn, dv, ds, G2), _, (qm (qm leG1 le2) leG2), rF, ⟨rfl, rfl, rfl, rfl, rfl, ⟨⟩⟩, (sC (sC (sC (sC (sC (sC (sC sR))))))), ⟨rfl, (qm (qm leG1 le2) leG2), (havi), (hbvi), (hcvi), (hdvi), (hAi), (hBi), (hani), (hcni), (htsi), (hfsi), (hbsi), (hdsi), (hli), (hoki), (hdoi), (by (try dsimp only); omega), (by (try dsimp only); have h9 := hgoi.trans (add_end (by omega)); have h8 := reach_more (ar := ar) (rs := rs) (n := n) (f := 60 - k - 1) hk70 (by omega) hdeep0 (by rw [hnx0, h9]); rw [hnx0, h9] at h8; exact hgo0.trans h8)⟩, (by (try dsimp only); omega)⟩
 refine jb (qo (qo (qI (qc (qa (cX (qq [av, bv, cv, dv, .bool (true)] isAgg196 sizeOf196 rfl rfl (Rd.ownN [_, _, _, _] rfl rfl) (cX (qD [_, _, _, _, _] _ [av, bv, cv, dv, .bool (true)] sizeOf196 rfl rfl rfl (qi (qC hav) (qi (qC hbv) (qi (qC hcv) (qi (qC hdv) (qi rfl qH))))) rfl rfl rfl (qb (jl [] _ _ rfl (fun F8 le8 hz7 => ?_))))))))))))
 replace hA := hA.mono le8
 replace hB := hB.mono le8
 have hf7 : RowsF F8 av ts := CO.fz hA (by first | rfl | omega | (rw [List.length_set]; omega) | (simp; done)) hz7.fz
 refine jl [] _ _ rfl (fun F9 le9 hz8 => ?_)
 replace hB := hB.mono le9
 replace hf7 := hf7.mono le9
 have hf8 : IntsF F9 bv fs := intsH.fz (xs := fs) hz8.fz
 refine jl [] _ _ rfl (fun F10 le10 hz9 => ?_)
 replace hB := hB.mono le10
 replace hf7 := hf7.mono le10
 replace hf8 := hf8.mono le10
 have hf9 : StepsF F10 cv bs := CO.fz hB (by first | rfl | omega | (rw [List.length_set]; omega) | (simp; done)) hz9.fz
 refine jl [] _ _ rfl (fun F11 le11 hz10 => ?_)
 replace hf7 := hf7.mono le11
 replace hf8 := hf8.mono le11
 replace hf9 := hf9.mono le11
 have hf10 : IntsF F11 dv ds := intsH.fz (xs := ds) hz10.fz
 refine qv (qp (L' := L) [.agg #[av, bv, cv, dv, .bool (true)]] (.agg #[av, bv, cv, dv, .bool (true)]) (.cell rfl (jo [av, bv, cv, dv, .bool (true)] isAgg196 sizeOf196 rfl (Rd.ownN [_] rfl rfl)) .nil) rfl (qm (qm (qm (qm (qm le1 leG1) le8) le9) le10) le11) rF (sD (sD (sD sR))) ?_)
 have e9 : reachL ar rs t n = (os, true) := hgo.trans (reach_done (by omega) hl)
 rw [e9]
 exact ⟨_, _, _, _, rfl, by rw [← hts]; exact hf7, by rw [← hfs]; exact hf8, by rw [← hbs]; exact hf9, by rw [← hds]; exact hf10, rfl⟩

/- spec.l1CopyTerms -/
theorem l1CopyTerms_spec {F : FH} {L : List HP} {tsv : Value} {ts : List (List Int)} (hts : RowsF F tsv ts) (hlt : ts.length ≤ 4000000) (htb : ∀ i, i < ts.length → (ts.getD i []).length ≤ 4000000) :
    Does prog 349 [tsv] F (L) (fun v F' L' => ∃ (a : Value), (a : Value) = v ∧ (RowsF F' a ts) ∧ L = L') := by
 refine qz func349 rfl rfl rfl (qc (qa (qf (sN) rfl (qb (qc (qa (cX (qL (s := 1) [] [sN] [] qs qt jP rfl (by decide) rfl CellsAre.nil rfl ?_))))))))
 intro v1 hv1
 refine qf (v1) rfl (qb (qc (qc (qa (qf (ii (0)) rfl (qb (qG (jc (α := Nat × Value × RowL × List Value × FH) (fun xQ => [(0, tsv), (3, xQ.2.1), (4, ii (((xQ.1 : Nat) : Int)))]) (fun xQ => slH 22 1 xQ.2.1 xQ.1 xQ.2.2.2.1 :: L) (fun xQ F' => xQ.2.2.2.2 = F' ∧ F ≤ xQ.2.2.2.2 ∧ (IsSl xQ.2.1) ∧ (xQ.1 ≤ ts.length) ∧ (RowsC xQ.2.2.2.2 xQ.2.2.2.1 xQ.2.2.1) ∧ (xQ.2.2.1 = ts.take xQ.1)) (fun xQ => ts.length - xQ.1) (0, v1, [], [], F) ⟨rfl, rfl, rfl, ⟨⟩⟩ (sC sR) ⟨rfl, FLe.refl _, ((jD hv1)), (by (try dsimp only) <;> omega), (CO.nil), (rfl)⟩ ?_))))))))
 rintro ⟨k, ov, os, ocs, G1⟩ rE _ _ ⟨rfl, leG, hov, hk, hC, hos⟩
 show X _ _ _ _ (envs [(0, tsv), (3, ov), (4, ii ((k : Int)))] rE) _ (slH 22 1 ov k ocs :: L)
 replace leG : F ≤ G1 := leG
 dsimp only at hov hk hC hos
 have htbk := htb k
 have hol : os.length = k := by rw [hos, List.length_take]; omega
 have leG1 := leG
 replace hts := hts.mono leG1
 refine qc (qc (qa (qd (ii ((k : Int))) rfl (qd (tsv) rfl (cX (qA qs rfl hts.slv (cX (qT rfl rfl (qb ?_)))))))))
 refine qx (p := (k : Int) < (ts.length : Int)) rfl (fun h1 => ?_) (fun h1 => ?_)
 ·refine qw (qc (qG (qa (qd (ov) rfl (qd (tsv) rfl (qd (ii ((k : Int))) rfl (cX (qy k qs qt rfl rfl rfl hts.slv (by omega) (Nat.mul_one _) ?_))))))))
  obtain ⟨a1, ha1, hr1⟩ := hts.rd (i := k) (by omega)
  refine cX (qh qM rfl (hr1 _) (cX (jM <| qn (args := [a1]) call105 rfl (l1Copy_spec ha1 (hlt := (htbk (by omega)))) ?_)))
  rintro v2 _ _ _ ⟨rfl, hs1, rfl⟩
  refine ⟨_, _, rfl, fun F1 le1 hz1 => ?_⟩
  replace hC := hC.mono le1
  have hf1 : IntsF F1 v2 ((((ts.getD k [])))) := intsH.fz (xs := (((ts.getD k [])))) hz1.fz
  refine cX (qL (s := 1) [v2] [sN] [(0, [v2])] qs qt jP rfl (by decide) rfl (.cons (cells_one (qB hf1)) CellsAre.nil) rfl ?_)
  intro v3 hv2
  refine cX (jQ (m := 1) (bytes := 24) (cs := ocs) [_] _ [v2] qs typeInfo22 rfl rfl rfl rfl rfl rfl rfl (SlV.own [] rfl) rfl (Rd.lit [] rfl) (qi (qC (qB hf1)) qH) (by (try simp only [List.length_append, List.length_nil, List.length_cons, List.length_singleton]); omega) (by (try simp only [List.length_append, List.length_nil, List.length_cons, List.length_singleton]); omega) ?_)
  intro v4 hs2 hn1 hm1
  have hc1 := RowsC.snoc hC hf1
  refine qf (v4) rfl (qb (qa (qd (ii ((k : Int))) rfl (cX (qN (((k + 1 : Nat) : Int)) rfl rfl (by omega) (by omega) (qf (ii (((k + 1 : Nat) : Int))) rfl (qb ?_)))))))
  exact ⟨(k + 1, v4, os ++ [(((ts.getD k [])))], ocs ++ [v2], F1), _, (qm leG1 le1), rF, ⟨rfl, rfl, rfl, ⟨⟩⟩, (sD (sC sR)), ⟨rfl, (qm leG1 le1), (hs2), (by (try dsimp only) <;> omega), (hc1), (by (try dsimp only); rw [hos, take_succ_getD [] (by omega)])⟩, (by omega)⟩
 refine jb (qo (qo (qI (qc (qa (qd (ov) rfl (qf (ov) rfl (qb (jl [] _ _ rfl (fun F2 le2 hz2 => ?_))))))))))
 replace hC := hC.mono le2
 have hf2 : RowsF F2 ov os := CO.fz hC (by first | rfl | omega | (rw [List.length_set]; omega) | (simp; done)) hz2.fz
 refine qv (qp (L' := L) [ov] (ov) (.tmp rfl .nil) rfl (qm leG1 le2) rF sR ?_)
 have e1 : os = ts := by rw [hos, show k = ts.length from by omega, List.take_length]
 subst e1
 exact ⟨_, rfl, hf2, rfl⟩

/- spec.ReachOf -/
set_option maxRecDepth 20000 in
theorem sReachOf_spec {F : FH} {L : List HP} {arv : Value} {ar : List Int} (har : IntsF F arv ar) {rsv : Value} {rs : List (List Int × List Int)} (hrs : PairsF F rsv rs) {tv : Value} {t : List Int} (ht : IntsF F tv t) {n : Int} (hla : ar.length ≤ 4000000) (hlr : rs.length ≤ 4000000) (hrb : ∀ i, i < rs.length → (rs.getD i ([], [])).1.length ≤ 4000000 ∧ (rs.getD i ([], [])).2.length ≤ 4000000) (hlt : t.length ≤ 4000000) :
    Does prog 279 [.agg #[arv, rsv], tv, ii (n)] F (L) (fun v F' L' => ∃ (a : Value), (.tuple #[a, .bool ((reachF ar rs t n).2)] : Value) = v ∧ (RowsF F' a (terms (reachF ar rs t n).1)) ∧ L = L') := by
 refine qz func279 rfl rfl rfl (qc (qa (cX (qW [arv, rsv] rfl rfl ?_))))
 intro b1
 refine qf (sN) rfl (qf (.bool (false)) rfl (qb (qc (qc (qa (cX (qq [arv, rsv] jL jy rfl rfl (Rd.ownN [] rfl rfl) (qd (tv) rfl (qd (ii (n)) rfl (cX (qn (args := [.agg #[arv, rsv], tv, ii (n)]) call129 rfl (l9Right_spec (n := n) har hrs ht (hla := (by first | assumption | rfl | omega | simp)) (hlr := (by first | assumption | rfl | omega | simp)) (hrb := (by first | assumption | rfl | omega | simp)) (hlt := (by first | assumption | rfl | omega | simp))) ?_)))))))))))
 rintro _ _ _ _ ⟨rfl, rfl, rfl⟩
 refine cX (jx rfl (qb ?_))
 refine ya (t := !(reachOkL ar rs n [t])) rfl (fun h1 => ?_) (fun h1 => ?_)
 ·have hro : reachOkL ar rs n [t] = false := by simpa using h1
  refine qc (qa (cX (qL (s := 1) [] [sN] [] qs qt jP rfl (by decide) rfl CellsAre.nil rfl ?_)))
  intro v1 hv1
  refine qf (v1) rfl (qf (.bool (false)) rfl (qb ?_))
  have hc1 : RowsC F [] ([] : List (List Int)) := (CO.nil : RowsC F [] [])
  refine jl [] _ _ rfl (fun F1 le1 hz1 => ?_)
  replace har := har.mono le1
  replace hrs := hrs.mono le1
  replace ht := ht.mono le1
  replace hc1 := hc1.mono le1
  have hf1 : RowsF F1 v1 (([] : List (List Int))) := CO.fz hc1 (by first | rfl | omega | (rw [List.length_set]; omega) | (simp; done)) hz1.fz
  refine qv (ql (qp (L' := L) [v1, .bool (false)] (.tuple #[v1, .bool (false)]) (.tmp rfl (.tmp rfl .nil)) rfl le1 rF (sD sR) ?_))
  rw [reachF_no hro]
  exact ⟨_, rfl, hf1, rfl⟩
 have hro : reachOkL ar rs n [t] = true := by simpa using h1
 have hr3 := reachOk_iff.1 hro
 have hsys := hr3.1.1
 have ho := hr3.1.2
 have hro2 := reachL_ok (n := n) hsys ho
 have hro3 := hro2.1
 have htl5 : (terms (reachL ar rs t n).1).length ≤ 60 := by rw [terms_len]; exact hro3
 have htb5 : ∀ i, i < (terms (reachL ar rs t n).1).length → ((terms (reachL ar rs t n).1).getD i []).length ≤ 4000000 := fun i hi => by rw [terms_get]; rw [terms_len] at hi; have := termOk_len (hro2.2 i hi); omega
 refine qw (qc (qa (cX (qq [arv, rsv] jL jy rfl rfl (Rd.ownN [] rfl rfl) (qd (tv) rfl (qd (ii (n)) rfl (cX (qn (args := [.agg #[arv, rsv], tv, ii (n)]) call133 rfl (l9Find_spec (n := n) har hrs ht (hsys := (by first | assumption | rfl | omega | simp)) (ho := (by first | assumption | rfl | omega | simp)) (hn20 := (by first | assumption | rfl | omega | simp))) ?_))))))))
 rintro _ F2 _ le2 ⟨x1, x2, x3, x4, rfl, hr1, hr2, hr3, hr4, rfl⟩
 replace har := har.mono le2
 refine cX (qS [sN, sN, sN, sN, .bool (false)] zeroValue196 rfl ?_)
 intro b2
 refine cX (qD [] _ [x1, x2, x3, x4, .bool ((reachL ar rs t n).2)] sizeOf196 rfl rfl rfl (qi (qC (RowsF.isSl hr1)) (qi (qC (qB hr2)) (qi (qC (StepsF.isSl hr3)) (qi (qC (qB hr4)) (qi rfl qH))))) rfl rfl rfl (qb (qc ?_)))
 refine yd [cellsH b2 [x1, x2, x3, x4, .bool ((reachL ar rs t n).2)] 196, cellsH b1 [arv, rsv] 39] L 6 [[], [], [], [], [], [2]] [[], [0], [1], [], [3], [2]] [] (phiG [pe (ptr b2 0), pe x1, fun FF us v => ((v) : Value) = v ∧ (RowsF FF (v) (terms (reachL ar rs t n).1)), pe (ptr b2 4), pe (.bool ((reachL ar rs t n).2)), fun FF us v => v = ((us.getD 0 undef))]) (ownL []) mixed rfl rfl (by kernel_rfl) (by kernel_rfl) (MonoG.get (m1 (m1 (mC (fun le h => ⟨h.1, h.2.mono le⟩) (m1 (m1 (mC (fun le h => h) MonoG.nil))))))) ?_ ?_
 ·refine gD (fun W Fs R lF z9 => ?_) ?_
  ·refine qj (qk (0) jm rfl qP (by decide) rfl rfl ?_)
   exact ⟨rfl, rfl⟩
  refine gD (fun W Fs R lF z9 => ?_) ?_
  ·replace har := har.mono lF
   replace hr1 := hr1.mono lF
   rw [zA 0 (z9 0 rfl)]
   refine qj (qh jg rfl (Rd.own [] rfl rfl) ?_)
   exact ⟨rfl, rfl⟩
  refine gD (fun W Fs R lF z9 => ?_) ?_
  ·replace har := har.mono lF
   replace hr1 := hr1.mono lF
   rw [zA 1 (z9 1 rfl)]
   refine qj (qn (args := [x1]) call349 rfl (l1CopyTerms_spec hr1 (hlt := (by omega)) (htb := (htb5))) ?_)
   rintro _ F4 _ le4 ⟨x6, rfl, hr6, rfl⟩
   replace har := har.mono le4
   exact ⟨⟨rfl, hr6⟩, rfl⟩
  refine gD (fun W Fs R lF z9 => ?_) ?_
  ·refine qj (qk (4) jm rfl sizeOf4 (by decide) rfl rfl ?_)
   exact ⟨rfl, rfl⟩
  refine gD (fun W Fs R lF z9 => ?_) ?_
  ·replace har := har.mono lF
   rw [zA 3 (z9 3 rfl)]
   refine qj (qh isAgg4 rfl (Rd.own [] rfl rfl) ?_)
   exact ⟨rfl, rfl⟩
  refine gD (fun W Fs R lF z9 => ?_) ?_
  ·obtain ⟨e2, f2_1hr⟩ := z9 2 rfl
   rw [eS (l := [(2, ((W 2)))]) ⟨(e2).symm, ⟨⟩⟩]
   refine qj (XOp.assign (((W 2))) rfl ?_)
   exact ⟨rfl, rfl⟩
  exact stepsG.nil
 intro W F5 le5 hphi
 obtain ⟨e2, f2_1hr⟩ := hphi 2 (by decide)
 have e5 : W 5 = ((W 2)) := hphi 5 (by decide)
 generalize hu1 : ((W 2)) = u1 at e2 f2_1hr e5
 rw [eS (l := [(2, u1), (4, _), (5, u1)]) ⟨hu1, (hphi 4 (by decide)), e5, ⟨⟩⟩]
 show XL _ _ _ _ _ _ _ (cellsH b2 [x1, x2, x3, x4, .bool ((reachL ar rs t n).2)] 196 :: cellsH b1 [arv, rsv] 39 :: L)
 refine qf (.bool ((reachL ar rs t n).2)) rfl (qb (qv (qp (L' := L) [u1, .bool ((reachL ar rs t n).2)] (.tuple #[u1, .bool ((reachL ar rs t n).2)]) (.tmp rfl (.tmp rfl .nil)) rfl (qm le2 le5) rF (sD (sD sR)) ?_)))
 rw [reachF_yes hro]
 exact ⟨_, rfl, f2_1hr, rfl⟩

/- spec.l9Walk -/
theorem l9Walk_spec {F : FH} {L : List HP} {x1v x2v x3v x4v : Value} {al : List FoundT} {ab : Bool} (hx1 : RowsF F x1v (terms al)) (hx2 : IntsF F x2v (froms al)) (hx3 : StepsF F x3v (bys al)) (hx4 : IntsF F x4v (deeps al)) {k : Nat} (hk : k < al.length) (hll : al.length ≤ 60) (hlk : Link al) (hbd : ∀ i, i < al.length → (EL al i).1.length ≤ 60) :
    Does prog 351 [.agg #[x1v, x2v, x3v, x4v, .bool (ab)], ii ((k : Int))] F (L) (fun v F' L' => ∃ (a : Value), ∃ (b : Value), (.agg #[a, b] : Value) = v ∧ (IntsF F' a (EL al 0).1) ∧ (StepsF F' b (walkL al k)) ∧ (Fresh F F' (star [intsH 2 a (EL al 0).1, stepsD 2 192 b (walkL al k)])) ∧ L = L') := by
 refine qz func351 rfl rfl rfl ?_
 have htl9 : (terms al).length = al.length := terms_len
 have hfl9 : (froms al).length = al.length := froms_len
 have hbl9 : (bys al).length = al.length := bys_len
 have ht0 : ((terms al).getD 0 []).length ≤ 60 := by rw [terms_get]; exact hbd 0 (by omega)
 refine qc (qa (cX (qW [x1v, x2v, x3v, x4v, .bool (ab)] rfl rfl ?_)))
 intro b1
 refine cX (qS [sN, sN] zeroValue45 rfl ?_)
 intro b2
 refine qb (qc (qa (cX (qL (s := 3) [] [ii (0), ii (0), sN] [] qV jd jE rfl (by decide) rfl CellsAre.nil rfl ?_))))
 intro v1 hv1
 refine qf (v1) rfl (qb (qc (qG (jc (α := Nat × Value × List StepT × List Value × Nat) (fun xQ => [(1, ii (((xQ.1 : Nat) : Int))), (2, ptr b1 0), (4, ptr b2 0), (5, xQ.2.1)]) (fun xQ => slH 192 3 xQ.2.1 xQ.2.2.2.2 xQ.2.2.2.1 :: cellsH b2 [sN, sN] 45 :: cellsH b1 [x1v, x2v, x3v, x4v, .bool (ab)] 196 :: L) (fun xQ F' => F = F' ∧ (xQ.1 < al.length) ∧ (IsSl xQ.2.1) ∧ (StepsC F xQ.2.2.2.1 xQ.2.2.1) ∧ (xQ.2.2.2.2 = xQ.2.2.1.length) ∧ (xQ.2.2.2.2 + xQ.1 ≤ k) ∧ (backL al k = xQ.2.2.1 ++ backL al xQ.1)) (fun xQ => xQ.1) (k, v1, [], [], 0) ⟨rfl, rfl, rfl, rfl, ⟨⟩⟩ (sC (sC (sC sR))) ⟨rfl, (hk), ((jD hv1)), (CO.nil), (rfl), (by (try dsimp only) <;> omega), (rfl)⟩ ?_))))
 rintro ⟨j, bv, bs, bcs, bm⟩ rE _ _ ⟨rfl, hj, hbv, hB, hbm, hmj, hbk⟩
 show X _ _ _ _ (envs [(1, ii ((j : Int))), (2, ptr b1 0), (4, ptr b2 0), (5, bv)] rE) _ (slH 192 3 bv bm bcs :: cellsH b2 [sN, sN] 45 :: cellsH b1 [x1v, x2v, x3v, x4v, .bool (ab)] 196 :: L)
 dsimp only at hj hbv hB hbm hmj hbk
 have hlj := fun (h : 0 < j) => hlk.2 j h hj
 have hfj : ((froms al).getD j 0) = (EL al j).2.1 := froms_get hj
 have hljx : 0 < j → 0 ≤ ((froms al).getD j 0) ∧ ((froms al).getD j 0) < (j : Int) := fun h => ⟨by rw [hfj]; exact (hlj h).1, by rw [hfj]; exact (hlj h).2.1⟩
 have hlj0 : j = 0 → ((froms al).getD j 0) = -1 := fun h => by rw [hfj, h]; exact hlk.1.2.1
 refine qc (qc (qa (cX (qk (1) jm rfl qt (by decide) rfl rfl (cX (qh qM rfl (Rd.own [_, _] rfl rfl) (qd (ii ((j : Int))) rfl (cX (qy j qg qJ rfl rfl rfl hx2.slv (by omega) (Nat.mul_one _) (cX (qh jn rfl (hx2.rd (by omega)) (cX (jY rfl rfl (qb ?_))))))))))))))
 refine qx (p := ((froms al).getD j 0 : Int) ≥ 0) rfl (fun h1 => ?_) (fun h1 => ?_)
 ·refine qw (qG (qc (qa (qd (bv) rfl (cX (qk (2) jm rfl jR (by decide) rfl rfl (cX (qh isAgg43 rfl (Rd.own [_, _] rfl rfl) (qd (ii ((j : Int))) rfl (cX (qy j qV jd rfl rfl rfl hx3.slv (by omega) rfl ?_)))))))))))
  obtain ⟨a1, ha1, hr1, hr2, hr3⟩ := hx3.rd (i := j) (by omega)
  refine cX (qq [ii (((bys al).getD j (0, 0, [])).1), ii (((bys al).getD j (0, 0, [])).2.1), a1] isAgg192 jd rfl rfl (Rd.three (hr1 _) (hr2 _) (hr3 _)) (cX (qL (s := 3) [ii (((bys al).getD j (0, 0, [])).1), ii (((bys al).getD j (0, 0, [])).2.1), a1] [ii (0), ii (0), sN] [(0, [ii (((bys al).getD j (0, 0, [])).1), ii (((bys al).getD j (0, 0, [])).2.1), a1])] qV jd jE rfl (by decide) rfl (.cons rfl CellsAre.nil) rfl ?_)))
  intro v2 hv2
  refine cX (jQ (m := 1) (bytes := 40) (cs := bcs) [_] _ [ii (((bys al).getD j (0, 0, [])).1), ii (((bys al).getD j (0, 0, [])).2.1), a1] qV typeInfo192 rfl rfl rfl rfl rfl rfl rfl (SlV.own [] rfl) rfl (Rd.lit [] rfl) (qi rfl (qi rfl (qi (qC (qB ha1)) qH))) (by (try simp only [List.length_append, List.length_nil, List.length_cons, List.length_singleton]); omega) (by (try simp only [List.length_append, List.length_nil, List.length_cons, List.length_singleton]); omega) ?_)
  intro v3 hs1 hn1 hm1
  have hc1 := StepsC.snoc hB (i := ((bys al).getD j (0, 0, [])).1) (j := ((bys al).getD j (0, 0, [])).2.1) ha1
  refine qf (v3) rfl (qb (qa (cX (qk (1) jm rfl qt (by decide) rfl rfl (cX (qh qM rfl (Rd.own [_, _, _] rfl rfl) (qd (ii ((j : Int))) rfl (cX (qy j qg qJ rfl rfl rfl hx2.slv (by omega) (Nat.mul_one _) (cX (qh jn rfl (hx2.rd (by omega)) (qf (ii ((froms al).getD j 0)) rfl (qb ?_)))))))))))))
  exact ⟨(((froms al).getD j 0).toNat, v3, bs ++ [(((bys al).getD j (0, 0, [])).1, ((bys al).getD j (0, 0, [])).2.1, ((bys al).getD j (0, 0, [])).2.2)], bcs ++ [ii (((bys al).getD j (0, 0, [])).1), ii (((bys al).getD j (0, 0, [])).2.1), a1], (bm) + 1), _, FLe.refl _, rF, ⟨(vI (by have := hljx (by omega); (try dsimp only); omega)), rfl, rfl, rfl, ⟨⟩⟩, (sD (sC (sC (sC sR)))), ⟨rfl, (by have := hljx (by omega); (try dsimp only); omega), (hs1), (hc1), (by (try dsimp only); rw [List.length_append, List.length_singleton]; omega), (by have := hljx (by omega); (try dsimp only); omega), (by (try dsimp only); rw [hbk, backL_succ hlk (by omega) hj, List.append_assoc, bys_get hj, hfj]; rfl)⟩, (by have := hljx (by omega); (try dsimp only); omega)⟩
 refine jb (qo (qo (qI (qc (qa (cX (qk (0) jm rfl qP (by decide) rfl rfl (cX (qh jg rfl (Rd.own [_, _] rfl rfl) (cX (qy 0 qs qt rfl rfl rfl hx1.slv (by omega) (Nat.mul_one _) ?_)))))))))))
 obtain ⟨a2, ha2, hr4⟩ := hx1.rd (i := 0) (by omega)
 refine cX (qh qM rfl (hr4 _) (cX (jM <| qn (args := [a2]) call105 rfl (l1Copy_spec ha2 (hlt := (by first | omega | (rw [hi9 (by omega)]; have := htbi (by omega); omega)))) ?_)))
 rintro v4 _ _ _ ⟨rfl, hs2, rfl⟩
 refine ⟨_, _, rfl, fun F1 le1 hz1 => ?_⟩
 replace hx1 := hx1.mono le1
 replace hB := hB.mono le1
 have hf1 : IntsF F1 v4 (((((terms al).getD 0 [])))) := intsH.fz (xs := ((((terms al).getD 0 [])))) hz1.fz
 refine cX (jf [v4, sN] [sN, sN] [(0, 1), (1, 1)] [(0, [v4])] js zeroValue45 rfl (.cons rfl qt (.cons rfl jR PlacesAre.nil)) rfl (.cons (cells_one (qB hf1)) CellsAre.nil) (cX (qS [sN, sN] zeroValue45 rfl ?_)))
 intro b3
 refine cX (qD [] _ [v4, sN] jr rfl rfl rfl (qi (qC (qB hf1)) (qi rfl qH)) rfl rfl rfl (qb (qc (qc (qa ?_)))))
 have hj0 : j = 0 := by omega
 have hssb : bs = backL al k := by rw [hbk, hj0, backL_zero, List.append_nil]
 have htb : ∀ i, i < bs.length → (bs.getD i (0, 0, [])).2.2.length ≤ 60 := fun i hi => by
  obtain ⟨q, hq, he⟩ := backL_mem hlk k k (Nat.le_refl _) hk (bs.getD i (0, 0, [])) (by rw [← hssb]; simp [List.getD, hi])
  rw [he]; exact hbd q hq
 have hbl : bs.length ≤ 60 := by omega
 refine qd (bv) rfl (cX (qA qV rfl (SlV.own [_] rfl) (cX (jG ((((bm : Nat) : Int)) - 1) rfl rfl (by omega) (by omega) (qf (ii ((((bm : Nat) : Int)) - 1)) rfl (qb (qG (jc (α := Nat × Value × List StepT × List Value × List HP × Nat × FH) (fun xQ => [(4, ptr b2 0), (5, bv), (6, ptr b3 0), (7, ii ((xQ.1 : Int) - 1))]) (fun xQ => slH 192 3 xQ.2.1 xQ.2.2.2.2.2.1 xQ.2.2.2.1 :: cellsH b3 [v4, xQ.2.1] 45 :: slH 192 3 bv bm bcs :: cellsH b2 [sN, sN] 45 :: cellsH b1 [x1v, x2v, x3v, x4v, .bool (ab)] 196 :: L) (fun xQ F' => xQ.2.2.2.2.2.2 = F' ∧ F1 ≤ xQ.2.2.2.2.2.2 ∧ (xQ.1 ≤ bs.length) ∧ (IsSl xQ.2.1) ∧ (StepsC xQ.2.2.2.2.2.2 xQ.2.2.2.1 xQ.2.2.1) ∧ (xQ.2.2.2.2.2.1 = xQ.2.2.1.length) ∧ (DeepL 3 (StepO 2) xQ.2.2.2.1 xQ.2.2.1 xQ.2.2.2.2.1) ∧ (Fresh F1 xQ.2.2.2.2.2.2 (star xQ.2.2.2.2.1)) ∧ (xQ.2.2.1 = (bs.drop xQ.1).reverse) ∧ (xQ.2.2.2.2.2.1 + xQ.1 = bs.length)) (fun xQ => xQ.1) (bs.length, sN, [], [], [], 0, F1) ⟨rfl, rfl, rfl, (vI (by (try dsimp only); omega)), ⟨⟩⟩ (qQ (Sub.addNil 192 3 _ _) (sC (sC (sC (sC (sC sR)))))) ⟨rfl, FLe.refl _, (by (try dsimp only) <;> omega), (⟨_, _, _, rfl⟩), (CO.nil), (rfl), (DeepL.nil), (Fresh.nilL), (by (try dsimp only); simp), (by (try dsimp only); omega)⟩ ?_))))))))
 rintro ⟨i, sv, ss, cs, Ls, m, G1⟩ rE _ _ ⟨rfl, leG, hi, hsv, hC, hm, hD, hZ, hss, hmi⟩
 show X _ _ _ _ (envs [(4, ptr b2 0), (5, bv), (6, ptr b3 0), (7, ii ((i : Int) - 1))] rE) _ (slH 192 3 sv m cs :: cellsH b3 [v4, sv] 45 :: slH 192 3 bv bm bcs :: cellsH b2 [sN, sN] 45 :: cellsH b1 [x1v, x2v, x3v, x4v, .bool (ab)] 196 :: L)
 replace leG : F1 ≤ G1 := leG
 dsimp only at hi hsv hC hm hD hZ hss hmi
 have htbi := htb (i - 1)
 have hi9 : 0 < i → ((i : Int) - 1).toNat = i - 1 := fun h => by omega
 have hdr9 := fun (h : 0 < i) => drop_rev ((0, 0, []) : StepT) (l := bs) (k := i - 1) (by omega)
 have leG1 := leG
 replace hx1 := hx1.mono leG1
 replace hB := hB.mono leG1
 replace hf1 := hf1.mono leG1
 refine qc (qc (qa (qd (ii ((i : Int) - 1)) rfl (cX (jY rfl rfl (qb ?_))))))
 refine qx (p := ((i : Int) - 1 : Int) ≥ 0) rfl (fun h2 => ?_) (fun h2 => ?_)
 ·refine qw (qc (qG ?_))
  obtain ⟨a3, ha3, he1, he2, he3⟩ := hB.get (i := ((i : Int) - 1).toNat) (by omega)
  refine yd [slH 192 3 sv m cs, cellsH b3 [v4, sv] 45, slH 192 3 bv bm bcs, cellsH b2 [sN, sN] 45, cellsH b1 [x1v, x2v, x3v, x4v, .bool (ab)] 196] L 20 [[], [], [], [], [], [], [], [], [], [], [], [], [], [], [], [], [], [], [17], [17]] [[], [0], [], [], [2, 3], [4], [5], [], [], [7, 8], [9], [10], [], [], [12, 13], [14], [15], [16], [6, 11, 17], [17, 18]] [] (phiG [pe (ptr b3 1), pe sv, pe bv, pe (ii ((i : Int) - 1) : Value), pe (.pointer (some (elemA bv ((((i : Int) - 1).toNat) * 3))) : Value), pe (.pointer (some (elemA bv ((((i : Int) - 1).toNat) * 3))) : Value), pe (ii ((bs.getD (((i : Int) - 1).toNat) (0, 0, [])).1) : Value), pe bv, pe (ii ((i : Int) - 1) : Value), pe (.pointer (some (elemA bv ((((i : Int) - 1).toNat) * 3))) : Value), pe (.pointer (some (elemA bv ((((i : Int) - 1).toNat) * 3 + 1))) : Value), pe (ii ((bs.getD (((i : Int) - 1).toNat) (0, 0, [])).2.1) : Value), pe bv, pe (ii ((i : Int) - 1) : Value), pe (.pointer (some (elemA bv ((((i : Int) - 1).toNat) * 3))) : Value), pe (.pointer (some (elemA bv ((((i : Int) - 1).toNat) * 3 + 2))) : Value), pe a3, fun FF us v => ((v) : Value) = v ∧ (IntsF FF (v) (((bs.getD (((i : Int) - 1).toNat) (0, 0, [])).2.2))) ∧ (FrIntsF G1 FF 2 (v) (((bs.getD (((i : Int) - 1).toNat) (0, 0, [])).2.2))), fun FF us v => v = (.agg #[ii ((bs.getD (((i : Int) - 1).toNat) (0, 0, [])).1), ii ((bs.getD (((i : Int) - 1).toNat) (0, 0, [])).2.1), ((us.getD 0 undef))] : Value), fun FF us v => ∃ b, v = .slice (some ⟨b, 0, none⟩) 1 1]) (ownL [o0, o0, o0, o0, o0, o0, o0, o0, o0, o0, o0, o0, o0, o0, o0, o0, o0, o0, o0, fun us v => [slH 192 3 v 1 [ii ((bs.getD (((i : Int) - 1).toNat) (0, 0, [])).1), ii ((bs.getD (((i : Int) - 1).toNat) (0, 0, [])).2.1), ((us.getD 0 undef))]]]) mixed rfl rfl (by kernel_rfl) (by kernel_rfl) (MonoG.get (m1 (m1 (m1 (m1 (m1 (m1 (m1 (m1 (m1 (m1 (m1 (m1 (m1 (m1 (m1 (m1 (m1 (mC (fun le h => ⟨h.1, h.2.1.mono le, h.2.2.mono le⟩) (mC (fun le h => h) (mC (fun le h => h) MonoG.nil))))))))))))))))))))) ?_ ?_
  ·refine gD (fun W Fs R lF z9 => ?_) ?_
   ·refine qj (qk (1) js rfl jR (by decide) rfl rfl ?_)
    exact ⟨rfl, rfl⟩
   refine gD (fun W Fs R lF z9 => ?_) ?_
   ·replace hx1 := hx1.mono lF
    replace hf1 := hf1.mono lF
    replace hC := hC.mono lF
    replace ha3 := ha3.mono lF
    rw [zA 0 (z9 0 rfl)]
    refine qj (qh isAgg43 rfl (Rd.own [_] rfl rfl) ?_)
    exact ⟨rfl, rfl⟩
   refine gD (fun W Fs R lF z9 => ?_) ?_
   ·refine qj (qr (bv) rfl ?_)
    exact ⟨rfl, rfl⟩
   refine gD (fun W Fs R lF z9 => ?_) ?_
   ·refine qj (qr (ii ((i : Int) - 1)) rfl ?_)
    exact ⟨rfl, rfl⟩
   refine gD (fun W Fs R lF z9 => ?_) ?_
   ·replace hx1 := hx1.mono lF
    replace hf1 := hf1.mono lF
    replace hC := hC.mono lF
    replace ha3 := ha3.mono lF
    rw [zB 2 3 (z9 2 rfl) (z9 3 rfl)]
    refine qj (qy (((i : Int) - 1).toNat) qV jd rfl rfl (by omega) (SlV.own [_, _] rfl) (by omega) rfl ?_)
    exact ⟨rfl, rfl⟩
   refine gD (fun W Fs R lF z9 => ?_) ?_
   ·rw [zA 4 (z9 4 rfl)]
    refine qj (jA ((((i : Int) - 1).toNat) * 3) jp rfl qJ (by decide) rfl rfl ?_)
    exact ⟨rfl, rfl⟩
   refine gD (fun W Fs R lF z9 => ?_) ?_
   ·replace hx1 := hx1.mono lF
    replace hf1 := hf1.mono lF
    replace hC := hC.mono lF
    replace ha3 := ha3.mono lF
    rw [zA 5 (z9 5 rfl)]
    refine qj (qh jn rfl (Rd.sl [_, _] rfl he1) ?_)
    exact ⟨rfl, rfl⟩
   refine gD (fun W Fs R lF z9 => ?_) ?_
   ·refine qj (qr (bv) rfl ?_)
    exact ⟨rfl, rfl⟩
   refine gD (fun W Fs R lF z9 => ?_) ?_
   ·refine qj (qr (ii ((i : Int) - 1)) rfl ?_)
    exact ⟨rfl, rfl⟩
   refine gD (fun W Fs R lF z9 => ?_) ?_
   ·replace hx1 := hx1.mono lF
    replace hf1 := hf1.mono lF
    replace hC := hC.mono lF
    replace ha3 := ha3.mono lF
    rw [zB 7 8 (z9 7 rfl) (z9 8 rfl)]
    refine qj (qy (((i : Int) - 1).toNat) qV jd rfl rfl (by omega) (SlV.own [_, _] rfl) (by omega) rfl ?_)
    exact ⟨rfl, rfl⟩
   refine gD (fun W Fs R lF z9 => ?_) ?_
   ·rw [zA 9 (z9 9 rfl)]
    refine qj (jA ((((i : Int) - 1).toNat) * 3 + 1) jp rfl qJ (by decide) rfl rfl ?_)
    exact ⟨rfl, rfl⟩
   refine gD (fun W Fs R lF z9 => ?_) ?_
   ·replace hx1 := hx1.mono lF
    replace hf1 := hf1.mono lF
    replace hC := hC.mono lF
    replace ha3 := ha3.mono lF
    rw [zA 10 (z9 10 rfl)]
    refine qj (qh jn rfl (Rd.sl [_, _] rfl he2) ?_)
    exact ⟨rfl, rfl⟩
   refine gD (fun W Fs R lF z9 => ?_) ?_
   ·refine qj (qr (bv) rfl ?_)
    exact ⟨rfl, rfl⟩
   refine gD (fun W Fs R lF z9 => ?_) ?_
   ·refine qj (qr (ii ((i : Int) - 1)) rfl ?_)
    exact ⟨rfl, rfl⟩
   refine gD (fun W Fs R lF z9 => ?_) ?_
   ·replace hx1 := hx1.mono lF
    replace hf1 := hf1.mono lF
    replace hC := hC.mono lF
    replace ha3 := ha3.mono lF
    rw [zB 12 13 (z9 12 rfl) (z9 13 rfl)]
    refine qj (qy (((i : Int) - 1).toNat) qV jd rfl rfl (by omega) (SlV.own [_, _] rfl) (by omega) rfl ?_)
    exact ⟨rfl, rfl⟩
   refine gD (fun W Fs R lF z9 => ?_) ?_
   ·rw [zA 14 (z9 14 rfl)]
    refine qj (jA ((((i : Int) - 1).toNat) * 3 + 2) jp rfl qt (by decide) rfl rfl ?_)
    exact ⟨rfl, rfl⟩
   refine gD (fun W Fs R lF z9 => ?_) ?_
   ·replace hx1 := hx1.mono lF
    replace hf1 := hf1.mono lF
    replace hC := hC.mono lF
    replace ha3 := ha3.mono lF
    rw [zA 15 (z9 15 rfl)]
    refine qj (qh qM rfl (Rd.sl [_, _] rfl he3) ?_)
    exact ⟨rfl, rfl⟩
   refine gD (fun W Fs R lF z9 => ?_) ?_
   ·replace hx1 := hx1.mono lF
    replace hf1 := hf1.mono lF
    replace hC := hC.mono lF
    replace ha3 := ha3.mono lF
    rw [zA 16 (z9 16 rfl)]
    refine qj (jM <| qn (args := [a3]) call105 rfl (l1Copy_spec ha3 (hlt := (by first | omega | (rw [hi9 (by omega)]; have := htbi (by omega); omega)))) ?_)
    rintro v7 _ _ _ ⟨rfl, hs4, rfl⟩
    refine ⟨_, _, rfl, fun F2 le2 hz2 => ?_⟩
    replace hf1 := hf1.mono le2
    replace hC := hC.mono le2
    have hf2 : IntsF F2 v7 ((((bs.getD (((i : Int) - 1).toNat) (0, 0, [])).2.2))) := intsH.fz (xs := (((bs.getD (((i : Int) - 1).toNat) (0, 0, [])).2.2))) hz2.fz
    exact ⟨⟨rfl, hf2, (hz2.base lF)⟩, rfl⟩
   refine gD (fun W Fs R lF z9 => ?_) ?_
   ·obtain ⟨e17, f17_1ha, f17_1hz⟩ := z9 17 rfl
    replace hf1 := hf1.mono lF
    replace hC := hC.mono lF
    rw [eS (l := [(6, _), (11, _), (17, ((W 17)))]) ⟨z9 6 rfl, z9 11 rfl, (e17).symm, ⟨⟩⟩]
    refine qj (jf [ii ((bs.getD (((i : Int) - 1).toNat) (0, 0, [])).1), ii ((bs.getD (((i : Int) - 1).toNat) (0, 0, [])).2.1), ((W 17))] [ii (0), ii (0), sN] [(0, 1), (1, 1), (2, 1)] [(0, [ii ((bs.getD (((i : Int) - 1).toNat) (0, 0, [])).1)]), (1, [ii ((bs.getD (((i : Int) - 1).toNat) (0, 0, [])).2.1)]), (2, [((W 17))])] jp jE rfl (.cons rfl qJ (.cons rfl qJ (.cons rfl qt PlacesAre.nil))) rfl (.cons rfl (.cons rfl (.cons (cells_one (qB f17_1ha)) CellsAre.nil))) ?_)
    exact ⟨rfl, rfl⟩
   refine gD (fun W Fs R lF z9 => ?_) ?_
   ·obtain ⟨e17, f17_1ha, f17_1hz⟩ := z9 17 rfl
    have e18 : W 18 = (.agg #[ii ((bs.getD (((i : Int) - 1).toNat) (0, 0, [])).1), ii ((bs.getD (((i : Int) - 1).toNat) (0, 0, [])).2.1), ((W 17))] : Value) := z9 18 rfl
    replace hf1 := hf1.mono lF
    replace hC := hC.mono lF
    rw [eS (l := [(17, ((W 17))), (18, (.agg #[ii ((bs.getD (((i : Int) - 1).toNat) (0, 0, [])).1), ii ((bs.getD (((i : Int) - 1).toNat) (0, 0, [])).2.1), ((W 17))]))]) ⟨(e17).symm, e18, ⟨⟩⟩]
    refine qj (qL (s := 3) [ii ((bs.getD (((i : Int) - 1).toNat) (0, 0, [])).1), ii ((bs.getD (((i : Int) - 1).toNat) (0, 0, [])).2.1), ((W 17))] [ii (0), ii (0), sN] [(0, [ii ((bs.getD (((i : Int) - 1).toNat) (0, 0, [])).1), ii ((bs.getD (((i : Int) - 1).toNat) (0, 0, [])).2.1), ((W 17))])] qV jd jE rfl (by decide) rfl (.cons rfl CellsAre.nil) rfl ?_)
    intro v8 hv4
    exact ⟨hv4, rfl⟩
   exact stepsG.nil
  intro W F3 le3 hphi
  obtain ⟨e17, f17_1ha, f17_1hz⟩ := hphi 17 (by decide)
  have e18 : W 18 = (.agg #[ii ((bs.getD (((i : Int) - 1).toNat) (0, 0, [])).1), ii ((bs.getD (((i : Int) - 1).toNat) (0, 0, [])).2.1), ((W 17))] : Value) := hphi 18 (by decide)
  have f19 : ∃ b, (W 19) = .slice (some ⟨b, 0, none⟩) 1 1 := hphi 19 (by decide)
  generalize hu1 : ((W 17)) = u1 at e17 f17_1ha f17_1hz e18 f19
  generalize huu19 : W 19 = u2 at e17 f17_1ha f17_1hz e18 f19
  rw [eS (l := [(1, _), (17, u1), (19, u2)]) ⟨(hphi 1 (by decide)), hu1, huu19, ⟨⟩⟩]
  replace hf1 := hf1.mono le3
  replace hC := hC.mono le3
  show XL _ _ _ _ _ _ _ (slH 192 3 u2 1 [ii ((bs.getD (((i : Int) - 1).toNat) (0, 0, [])).1), ii ((bs.getD (((i : Int) - 1).toNat) (0, 0, [])).2.1), u1] :: slH 192 3 sv m cs :: cellsH b3 [v4, sv] 45 :: slH 192 3 bv bm bcs :: cellsH b2 [sN, sN] 45 :: cellsH b1 [x1v, x2v, x3v, x4v, .bool (ab)] 196 :: L)
  refine cX (jQ (m := 1) (bytes := 40) (cs := cs) [_] _ [ii ((bs.getD (((i : Int) - 1).toNat) (0, 0, [])).1), ii ((bs.getD (((i : Int) - 1).toNat) (0, 0, [])).2.1), u1] qV typeInfo192 rfl rfl rfl rfl rfl rfl rfl (SlV.own [] rfl) rfl (Rd.lit [] rfl) (qi rfl (qi rfl (qi (qC (qB f17_1ha)) qH))) (by (try simp only [List.length_append, List.length_nil, List.length_cons, List.length_singleton]); omega) (by (try simp only [List.length_append, List.length_nil, List.length_cons, List.length_singleton]); omega) ?_)
  intro v9 hs5 hn2 hm2
  have hc2 := StepsC.snoc hC (i := (bs.getD (((i : Int) - 1).toNat) (0, 0, [])).1) (j := (bs.getD (((i : Int) - 1).toNat) (0, 0, [])).2.1) f17_1ha
  skip
  refine cX (qk (1) js rfl jR (by decide) rfl rfl (cX (jw [_, _] _ [v4, v9] jR rfl rfl (qC hs5) rfl rfl rfl (qb (qa (qd (ii ((i : Int) - 1)) rfl (cX (jG (((i : Int) - 1) - 1) rfl rfl (by omega) (by omega) (qf (ii (((i : Int) - 1) - 1)) rfl (qb ?_))))))))))
  exact ⟨(i - 1, v9, ss ++ [((bs.getD (((i : Int) - 1).toNat) (0, 0, [])).1, (bs.getD (((i : Int) - 1).toNat) (0, 0, [])).2.1, (((bs.getD (((i : Int) - 1).toNat) (0, 0, [])).2.2)))], cs ++ [ii ((bs.getD (((i : Int) - 1).toNat) (0, 0, [])).1), ii ((bs.getD (((i : Int) - 1).toNat) (0, 0, [])).2.1), u1], Ls ++ [intsH 2 u1 ((((bs.getD (((i : Int) - 1).toNat) (0, 0, [])).2.2)))], (m) + 1, F3), _, (qm leG1 le3), rF, ⟨rfl, rfl, rfl, (vI (by (try dsimp only); omega)), ⟨⟩⟩, (sD (sC (sC (sC (sC (sC sR)))))), ⟨rfl, (qm leG1 le3), (by (try dsimp only) <;> omega), (hs5), (hc2), (by (try dsimp only); rw [List.length_append]; simp only [List.length_singleton]; omega), (DeepL.snoc hD rfl ⟨_, rfl, rfl⟩), ((Fresh.app hZ leG1 (Fresh.one f17_1hz) le3)), (by (try dsimp only); have h9 := hdr9 (by omega); rw [show i - 1 + 1 = i from by omega] at h9; rw [hss, h9, hi9 (by omega)]), (by (try dsimp only); omega)⟩, (by (try dsimp only); omega)⟩
 refine jb (qo (qo (qI (qc (qa (cX (qq [v4, sv] isAgg45 jr rfl rfl (Rd.ownN [_] rfl rfl) (cX (qD [_, _, _] _ [v4, sv] jr rfl rfl rfl (qi (qC (qB hf1)) (qi (qC hsv) qH)) rfl rfl rfl (qb (jl [] _ _ rfl (fun F4 le4 hz3 => ?_))))))))))))
 replace hf1 := hf1.mono le4
 replace hC := hC.mono le4
 have hf3 : StepsF F4 sv ss := CO.fz hC (by first | rfl | omega | (rw [List.length_set]; omega) | (simp; done)) hz3.fz
 refine qv (qp (L' := L) [.agg #[v4, sv]] (.agg #[v4, sv]) (.cell rfl (jo [v4, sv] isAgg45 jr rfl (Rd.ownN [_, _] rfl rfl)) .nil) rfl (qm (qm le1 leG1) le4) rF (sD (sD (sD (sD sR)))) ?_)
 have e9 : ss = walkL al k := by rw [hss, show i = 0 from by omega, List.drop_zero, hssb]; rfl
 rw [← e9, ← terms_get 0]
 exact ⟨_, _, rfl, hf1, hf3, (Fresh.app (Fresh.one hz1) le1 (Fresh.one (Fresh.deep hD hZ leG1 hz3 (by omega) le4)) (qm leG1 le4)), rfl⟩

/- spec.WalkTo -/
set_option maxRecDepth 20000 in
theorem sWalkTo_spec {F : FH} {L : List HP} {arv : Value} {ar : List Int} (har : IntsF F arv ar) {rsv : Value} {rs : List (List Int × List Int)} (hrs : PairsF F rsv rs) {tv : Value} {t : List Int} (ht : IntsF F tv t) {uv : Value} {u : List Int} (hu : IntsF F uv u) {n : Int} (hla : ar.length ≤ 4000000) (hlr : rs.length ≤ 4000000) (hrb : ∀ i, i < rs.length → (rs.getD i ([], [])).1.length ≤ 4000000 ∧ (rs.getD i ([], [])).2.length ≤ 4000000) (hlt : t.length ≤ 4000000) (hlu : u.length ≤ 4000000) :
    Does prog 282 [.agg #[arv, rsv], tv, uv, ii (n)] F (L) (fun v F' L' => ∃ (a : Value), ∃ (b : Value), (.tuple #[.agg #[a, b], .bool ((walkToF ar rs t u n).2.2)] : Value) = v ∧ (IntsF F' a (walkToF ar rs t u n).1) ∧ (StepsF F' b (walkToF ar rs t u n).2.1) ∧ (Fresh F F' (star [intsH 2 a (walkToF ar rs t u n).1, stepsD 2 192 b (walkToF ar rs t u n).2.1])) ∧ L = L') := by
 refine qz func282 rfl rfl rfl (qc (qa (cX (qW [arv, rsv] rfl rfl ?_))))
 intro b1
 refine cX (qS [sN, sN] zeroValue45 rfl ?_)
 intro b2
 refine qf (.bool (false)) rfl (qb (qc (qc (qa (cX (qq [arv, rsv] jL jy rfl rfl (Rd.ownN [_] rfl rfl) (qd (tv) rfl (qd (ii (n)) rfl (cX (qn (args := [.agg #[arv, rsv], tv, ii (n)]) call129 rfl (l9Right_spec (n := n) har hrs ht (hla := (by first | assumption | rfl | omega | simp)) (hlr := (by first | assumption | rfl | omega | simp)) (hrb := (by first | assumption | rfl | omega | simp)) (hlt := (by first | assumption | rfl | omega | simp))) ?_))))))))))
 rintro _ _ _ _ ⟨rfl, rfl, rfl⟩
 refine cX (jx rfl (qd (.bool (!(reachOkL ar rs n [t]))) rfl ?_))
 by_cases h1 : (!(reachOkL ar rs n [t])) = true
 ·have hro : reachOkL ar rs n [t, u] = false := by rw [reachOk2]; simp_all
  refine qE (t := 17) rfl (vB h1) (qE (t := 17) rfl (vB h1) (qE (t := 17) rfl (vB h1) (qE (t := 17) rfl (vB h1) (qE (t := 17) rfl (vB h1) (cX (jk (.bool (true)) (vB h1) rfl (qb (X.condT rfl (qc (qa (cX (jf [sN, sN] [sN, sN] [(0, 1), (1, 1)] [] js zeroValue45 rfl (.cons rfl qt (.cons rfl jR PlacesAre.nil)) rfl CellsAre.nil ?_))))))))))))
  refine cX (qD [] _ [sN, sN] jr rfl rfl rfl (qi rfl (qi rfl qH)) rfl rfl rfl (qf (.bool (false)) rfl (qb (qv (ql (qp (L' := L) [.agg #[sN, sN], .bool (false)] (.tuple #[.agg #[sN, sN], .bool (false)]) (.cell rfl (jo [sN, sN] isAgg45 jr rfl (Rd.ownN [] rfl rfl)) (.tmp rfl .nil)) rfl rF rF (sD (sD sR)) ?_))))))
  have e : walkToF ar rs t u n = ([], [], false) := walkToF_no hro
  exact ⟨_, _, by rw [e], by rw [e]; exact IntsF.nilV, by rw [e]; exact SlOf.nilV, by rw [e]; exact Fresh.empty nilWalk, rfl⟩
 rw [Bool.not_eq_true] at h1
 refine qu (t := 17) rfl (vB h1) (qq [arv, rsv] jL jy rfl rfl (Rd.ownN [_] rfl rfl) (qu (t := 17) rfl (vB h1) (qr (uv) rfl (qu (t := 17) rfl (vB h1) (qr (ii (n)) rfl (qu (t := 17) rfl (vB h1) (qn (args := [.agg #[arv, rsv], uv, ii (n)]) call129 rfl (l9Right_spec (n := n) har hrs hu (hla := (by first | assumption | rfl | omega | simp)) (hlr := (by first | assumption | rfl | omega | simp)) (hrb := (by first | assumption | rfl | omega | simp)) (hlt := (by first | assumption | rfl | omega | simp))) ?_)))))))
 rintro _ _ _ _ ⟨rfl, rfl, rfl⟩
 refine qu (t := 17) rfl (vB h1) (jx rfl (cX (ja (.bool (!(reachOkL ar rs n [u]))) (vB h1) rfl (qb ?_))))
 refine ya (t := !(reachOkL ar rs n [u])) rfl (fun h2 => ?_) (fun h2 => ?_)
 ·have hro : reachOkL ar rs n [t, u] = false := by rw [reachOk2]; simp_all
  refine qc (qa (cX (jf [sN, sN] [sN, sN] [(0, 1), (1, 1)] [] js zeroValue45 rfl (.cons rfl qt (.cons rfl jR PlacesAre.nil)) rfl CellsAre.nil (cX (qD [] _ [sN, sN] jr rfl rfl rfl (qi rfl (qi rfl qH)) rfl rfl rfl (qf (.bool (false)) rfl (qb (qv (ql (qp (L' := L) [.agg #[sN, sN], .bool (false)] (.tuple #[.agg #[sN, sN], .bool (false)]) (.cell rfl (jo [sN, sN] isAgg45 jr rfl (Rd.ownN [] rfl rfl)) (.tmp rfl .nil)) rfl rF rF (sD (sD sR)) ?_))))))))))
  have e : walkToF ar rs t u n = ([], [], false) := walkToF_no hro
  exact ⟨_, _, by rw [e], by rw [e]; exact IntsF.nilV, by rw [e]; exact SlOf.nilV, by rw [e]; exact Fresh.empty nilWalk, rfl⟩
 have hro : reachOkL ar rs n [t, u] = true := by rw [reachOk2]; simp_all
 have hr3 := reachOk2_iff.1 hro
 have hsys := hr3.1.1
 have ho := hr3.1.2.1
 have hou := hr3.1.2.2
 have hn20 := hr3.2
 have hgd := reachL_good (ar := ar) (rs := rs) (t := t) (n := n) hn20.1
 have hrk := reachL_ok (n := n) hsys ho
 have hrl := hrk.1
 have hrd : ∀ i, i < (reachL ar rs t n).1.length → (EL (reachL ar rs t n).1 i).1.length ≤ 60 := fun i hi => (termOk_len (hrk.2 i hi)).2
 have htz : (terms (reachL ar rs t n).1).length = (reachL ar rs t n).1.length := terms_len
 have htq : ∀ i, i < (terms (reachL ar rs t n).1).length → ((terms (reachL ar rs t n).1).getD i []).length ≤ 4000000 := fun i hi => by rw [terms_get]; have := hrd i (by omega); omega
 have hfi : badG (fun y => !decide (y = u)) (terms (reachL ar rs t n).1) = (foundI (reachL ar rs t n).1 u) := foundI_terms
 have hfl := fun (h : 0 ≤ (foundI (reachL ar rs t n).1 u)) => (foundI_lt h).1
 refine qw (qc (qa (cX (qq [arv, rsv] jL jy rfl rfl (Rd.ownN [_] rfl rfl) (qd (tv) rfl (qd (ii (n)) rfl (cX (qn (args := [.agg #[arv, rsv], tv, ii (n)]) call133 rfl (l9Find_spec (n := n) har hrs ht (hsys := (by first | assumption | rfl | omega | simp)) (ho := (by first | assumption | rfl | omega | simp)) (hn20 := (by first | assumption | rfl | omega | simp))) ?_))))))))
 rintro _ F1 _ le1 ⟨x1, x2, x3, x4, rfl, hr1, hr2, hr3, hr4, rfl⟩
 replace hu := hu.mono le1
 refine cX (qS [sN, sN, sN, sN, .bool (false)] zeroValue196 rfl ?_)
 intro b3
 refine cX (qD [] _ [x1, x2, x3, x4, .bool ((reachL ar rs t n).2)] sizeOf196 rfl rfl rfl (qi (qC (RowsF.isSl hr1)) (qi (qC (qB hr2)) (qi (qC (StepsF.isSl hr3)) (qi (qC (qB hr4)) (qi rfl qH))))) rfl rfl rfl (qb (qc (qa (cX (qk (0) jm rfl qP (by decide) rfl rfl (cX (qh jg rfl (Rd.own [] rfl rfl) (qd (uv) rfl (cX (qn (args := [x1, uv]) call245 rfl (l1TermPlace_spec hr1 hu (hlt := (by omega)) (htb := (htq)) (hlx := (by first | assumption | rfl | omega | simp))) ?_)))))))))))
 rintro _ _ _ _ ⟨rfl, rfl, rfl⟩
 refine qf (ii (badG (fun y => !decide (y = u)) (terms (reachL ar rs t n).1))) rfl (qb (qc (qc (qa (qd (ii (badG (fun y => !decide (y = u)) (terms (reachL ar rs t n).1))) rfl (cX (qT rfl rfl (qb ?_))))))))
 refine qx (p := (badG (fun y => !decide (y = u)) (terms (reachL ar rs t n).1) : Int) < 0) rfl (fun h3 => ?_) (fun h3 => ?_)
 ·refine qc (qa (cX (jf [sN, sN] [sN, sN] [(0, 1), (1, 1)] [] js zeroValue45 rfl (.cons rfl qt (.cons rfl jR PlacesAre.nil)) rfl CellsAre.nil (cX (qD [_] _ [sN, sN] jr rfl rfl rfl (qi rfl (qi rfl qH)) rfl rfl rfl (qf (.bool (false)) rfl (qb (qv (ql (qp (L' := L) [.agg #[sN, sN], .bool (false)] (.tuple #[.agg #[sN, sN], .bool (false)]) (.cell rfl (jo [sN, sN] isAgg45 jr rfl (Rd.ownN [_] rfl rfl)) (.tmp rfl .nil)) rfl le1 rF (sD (sD (sD sR))) ?_))))))))))
  have e : walkToF ar rs t u n = ([], [], false) := (walkToF_yes hro).trans (walkTo0_no (by omega))
  exact ⟨_, _, by rw [e], by rw [e]; exact IntsF.nilV, by rw [e]; exact SlOf.nilV, by rw [e]; exact Fresh.empty nilWalk, rfl⟩
 refine qw (qc (qa (cX (qq [x1, x2, x3, x4, .bool ((reachL ar rs t n).2)] isAgg196 sizeOf196 rfl rfl (Rd.ownN [] rfl rfl) (qd (ii (badG (fun y => !decide (y = u)) (terms (reachL ar rs t n).1))) rfl (cX (qn (args := [.agg #[x1, x2, x3, x4, .bool ((reachL ar rs t n).2)], ii (((badG (fun y => !decide (y = u)) (terms (reachL ar rs t n).1)).toNat : Nat) : Int)]) call351 (by rw [show (((badG (fun y => !decide (y = u)) (terms (reachL ar rs t n).1)).toNat : Nat) : Int) = badG (fun y => !decide (y = u)) (terms (reachL ar rs t n).1) from by omega]; rfl) (l9Walk_spec (k := (badG (fun y => !decide (y = u)) (terms (reachL ar rs t n).1)).toNat) hr1 hr2 hr3 hr4 (hk := (by rw [hfi]; exact hfl (by omega))) (hll := (hrl)) (hlk := (hgd.1)) (hbd := (hrd))) ?_)))))))
 rintro _ F2 _ le2 ⟨x5, x6, rfl, hr5, hr6, hr7, rfl⟩
 refine cX (qD [_] _ [x5, x6] jr rfl rfl rfl (qi (qC (qB hr5)) (qi (qC (StepsF.isSl hr6)) qH)) rfl rfl rfl (qf (.bool (true)) rfl (qb (qv (qp (L' := L) [.agg #[x5, x6], .bool (true)] (.tuple #[.agg #[x5, x6], .bool (true)]) (.cell rfl (jo [x5, x6] isAgg45 jr rfl (Rd.ownN [_] rfl rfl)) (.tmp rfl .nil)) rfl (qm le1 le2) rF (sD (sD (sD sR))) ?_)))))
 have e : walkToF ar rs t u n = ((EL (reachL ar rs t n).1 0).1, walkL (reachL ar rs t n).1 (badG (fun y => !decide (y = u)) (terms (reachL ar rs t n).1)).toNat, true) := by rw [walkToF_yes hro, walkTo0_yes (by omega), hgd.2.2.2, hfi]
 exact ⟨_, _, by rw [e], by rw [e]; exact hr5, by rw [e]; exact hr6, by rw [e]; exact (hr7.base le1), rfl⟩
end Go.Proofs.YtjpfankibmeaaaaGreat
