/-
  Walks, one after the other (part 4).
-/
import Derived.Test.YtcdjpapjjoldeaaQWL1
import Derived.Test.YtcdjpapjjoldeaaQWB2
import Derived.Test.YtcdjpapjjoldeaaQWB1
set_option linter.unusedSimpArgs false
set_option linter.unusedVariables false
namespace Go.Proofs.Ytcdjpapjjoldeaa
open Go X M Try

/- impl.plain -/
theorem plainZ_spec {F : FH} {L : List HP} {sv : Value} {s : List (List Int)} (hs : RowsF F sv s) (hsl : s.length ≤ 24) (hsb : ∀ i, i < s.length → (s.getD i []).length ≤ 4000000) :
    Does prog 209 [.agg #[sv]] F (L) (fun v F' L' => ∃ (a : Value), (.agg #[a] : Value) = v ∧ (RowsF F' a (plainL s)) ∧ (Fresh F F' (star [rowsD 2 27 a (plainL s)])) ∧ L = L') := by
 refine qI func209 rfl rfl rfl (qc (qa (cX (jc [sv] rfl rfl ?_))))
 intro b1
 refine cX (jo [sN] jy rfl ?_)
 intro b2
 refine qb (qc (qa (cX (jo [sN] jy rfl ?_))))
 intro b3
 refine qb (qc (qc (qa (cX (qo (0) qU rfl jh (by decide) rfl rfl (cX (qi jH rfl (Rd.own [_, _] rfl rfl) (cX (qE qB rfl hs.slv (qf (ii (0)) rfl (qb (qL (jn (α := Nat × Value × RowL × List Value × List HP × Nat × FH) (fun xQ => [(2, ptr b2 0), (3, ptr b3 0), (7, sv), (8, ii ((s.length : Int))), (9, ii (((xQ.1 : Nat) : Int)))]) (fun xQ => slH 27 1 xQ.2.1 xQ.2.2.2.2.2.1 xQ.2.2.2.1 :: cellsH b3 [xQ.2.1] 50 :: cellsH b2 [sN] 50 :: cellsH b1 [sv] 50 :: L) (fun xQ F' => xQ.2.2.2.2.2.2 = F' ∧ F ≤ xQ.2.2.2.2.2.2 ∧ (IsSl xQ.2.1) ∧ (RowsC xQ.2.2.2.2.2.2 xQ.2.2.2.1 xQ.2.2.1) ∧ (xQ.2.2.2.2.2.1 = xQ.2.2.1.length) ∧ (DeepL 1 (RowO 2) xQ.2.2.2.1 xQ.2.2.1 xQ.2.2.2.2.1) ∧ (Fresh F xQ.2.2.2.2.2.2 (star xQ.2.2.2.2.1)) ∧ (xQ.2.2.1 = trim ((plainGo 0 s).take xQ.1)) ∧ (xQ.1 ≤ s.length)) (fun xQ => s.length - xQ.1) (0, sN, [], [], [], 0, F) ⟨rfl, rfl, rfl, rfl, rfl, ⟨⟩⟩ (jE (Sub.addNil 27 1 _ _) (sC (sC (sC (sC sR))))) ⟨rfl, FLe.refl _, (⟨_, _, _, rfl⟩), (CO.nil), (rfl), (DeepL.nil), (Fresh.nilL), (rfl), (by (try dsimp only) <;> omega)⟩ ?_)))))))))))))
 rintro ⟨k, ov, os, ocs, Us, m, G1⟩ rE _ _ ⟨rfl, leG, hov, hC, hm, hD, hZ, hos, hk⟩
 show X _ _ _ _ (envs [(2, ptr b2 0), (3, ptr b3 0), (7, sv), (8, ii ((s.length : Int))), (9, ii ((k : Int)))] rE) _ (slH 27 1 ov m ocs :: cellsH b3 [ov] 50 :: cellsH b2 [sN] 50 :: cellsH b1 [sv] 50 :: L)
 replace leG : F ≤ G1 := leG
 dsimp only at hov hC hm hD hZ hos hk
 have leG1 := leG
 replace hs := hs.mono leG1
 refine qc (qa (cX (qT rfl rfl (qb (qc ?_)))))
 refine qA (p := (k : Int) < (s.length : Int)) rfl (fun h1 => ?_) (fun h1 => ?_)
 ·refine qz (qc (qL (qc (qa (qf (ii ((k : Int))) rfl (cX (qu k qB qp rfl rfl rfl hs.slv (by omega) (Nat.mul_one _) ?_)))))))
  obtain ⟨a1, ha1, hr1⟩ := hs.rd (i := k) (by omega)
  refine cX (qi qW rfl (hr1 _) (qg (ii ((k : Int))) rfl (qg (a1) rfl (qb (qc (qc (qa (qf (a1) rfl (cX (qE qd rfl ha1.slv (cX (js rfl rfl (qf (.bool (decide ((((((s.getD k [])).length : Nat) : Int) : Int) = 0))) rfl ?_)))))))))))))
  by_cases h2 : (((((s.getD k [])).length : Nat) : Int) : Int) = 0
  ·refine qn (t := 17) rfl (vT h2) (qn (t := 17) rfl (vT h2) (qn (t := 17) rfl (vT h2) (qn (t := 17) rfl (vT h2) (cX (qN (.bool (true)) (vT h2) rfl (qb (jq rfl (jj (qx (qO (qa (cX (qS (((k + 1 : Nat) : Int)) rfl rfl (by omega) (by omega) ?_)))))))))))))
   refine qf (ii (((k + 1 : Nat) : Int))) rfl (qb ?_)
   exact ⟨(k + 1, ov, os, ocs, Us, m, G1), _, leG1, rF, ⟨rfl, rfl, rfl, rfl, rfl, ⟨⟩⟩, (sC (sC (sC (sC sR)))), ⟨rfl, leG1, (hov), (hC), (hm), (hD), (hZ), (hos.trans (plain_skip (by omega) (by first | (left; exact List.eq_nil_of_length_eq_zero (by omega)) | (right; assumption))).symm), (by (try dsimp only) <;> omega)⟩, (by omega)⟩
  refine qk (t := 17) rfl (vF h2) (ql (a1) rfl (qk (t := 17) rfl (vF h2) (ql (ii ((k : Int))) rfl (qk (t := 17) rfl (vF h2) (jR <| qr (args := [ii (k : Int)]) call238 rfl (variable_spec (i := k) (hi := (by first | assumption | rfl | omega | simp))) ?_)))))
  rintro v1 _ _ _ ⟨rfl, hs1, rfl⟩
  refine ⟨_, _, rfl, fun F1 le1 hz1 => ?_⟩
  replace hs := hs.mono le1
  replace hC := hC.mono le1
  replace ha1 := ha1.mono le1
  have hf1 : IntsF F1 v1 (([-1 - (k : Int)])) := intsH.fz (xs := ([-1 - (k : Int)])) hz1.fz
  refine qk (t := 17) rfl (vF h2) (qr (args := [a1, v1]) call67 rfl (Equal_spec ha1 hf1 (hbd := (by first | assumption | rfl | omega | (left; simp; done) | (right; simp; done)))) ?_)
  rintro _ _ _ _ ⟨rfl, rfl, rfl⟩
  refine cX (qG (.bool (decide (((s.getD k [])) = (([-1 - (k : Int)]))))) (vF h2) rfl (qb ?_))
  refine qA (p := ((s.getD k [])) = (([-1 - (k : Int)]))) rfl (fun h3 => ?_) (fun h3 => ?_)
  ·refine jj (qx (qO (qa (cX (qS (((k + 1 : Nat) : Int)) rfl rfl (by omega) (by omega) (qf (ii (((k + 1 : Nat) : Int))) rfl (qb ?_)))))))
   exact ⟨(k + 1, ov, os, ocs, Us, m, F1), _, (qh leG1 le1), rF, ⟨rfl, rfl, rfl, rfl, rfl, ⟨⟩⟩, (sC (sC (sC (sC sR)))), ⟨rfl, (qh leG1 le1), (hov), (hC), (hm), (hD), ((hZ.mono le1)), (hos.trans (plain_skip (by omega) (by first | (left; exact List.eq_nil_of_length_eq_zero (by omega)) | (right; assumption))).symm), (by (try dsimp only) <;> omega)⟩, (by omega)⟩
  refine qz (qc (qL (jn (α := Nat × Value × RowL × List Value × List HP × Nat × FH) (fun xQ => [(2, ptr b2 0), (3, ptr b3 0), (4, ii ((k : Int))), (5, a1), (7, sv), (8, ii ((s.length : Int))), (9, ii ((k : Int)))]) (fun xQ => slH 27 1 xQ.2.1 xQ.2.2.2.2.2.1 xQ.2.2.2.1 :: cellsH b3 [xQ.2.1] 50 :: cellsH b2 [sN] 50 :: cellsH b1 [sv] 50 :: L) (fun xQ F' => xQ.2.2.2.2.2.2 = F' ∧ F1 ≤ xQ.2.2.2.2.2.2 ∧ (IsSl xQ.2.1) ∧ (RowsC xQ.2.2.2.2.2.2 xQ.2.2.2.1 xQ.2.2.1) ∧ (xQ.2.2.2.2.2.1 = xQ.2.2.1.length) ∧ (DeepL 1 (RowO 2) xQ.2.2.2.1 xQ.2.2.1 xQ.2.2.2.2.1) ∧ (Fresh F xQ.2.2.2.2.2.2 (star xQ.2.2.2.2.1)) ∧ (xQ.2.2.1 = os ++ List.replicate xQ.1 []) ∧ (xQ.2.2.1.length ≤ k)) (fun xQ => k - xQ.2.2.1.length) (0, ov, os, ocs, Us, m, F1) ⟨rfl, rfl, rfl, rfl, rfl, rfl, rfl, ⟨⟩⟩ (sC (sC (sC (sC sR)))) ⟨rfl, FLe.refl _, (hov), (hC), (hm), (hD), ((hZ.mono le1)), (by simp), (by have := trim_le ((plainGo 0 s).take k); rw [← hos, List.length_take] at this; (try dsimp only); omega)⟩ ?_)))
  rintro ⟨j, ov2, os2, ocs2, Vs, m2, G2⟩ rE _ _ ⟨rfl, leG, hov2, hC2, hm2, hD2, hZ2, hos2, hl2⟩
  show X _ _ _ _ (envs [(2, ptr b2 0), (3, ptr b3 0), (4, ii ((k : Int))), (5, a1), (7, sv), (8, ii ((s.length : Int))), (9, ii ((k : Int)))] rE) _ (slH 27 1 ov2 m2 ocs2 :: cellsH b3 [ov2] 50 :: cellsH b2 [sN] 50 :: cellsH b1 [sv] 50 :: L)
  replace leG : F1 ≤ G2 := leG
  dsimp only at hov2 hC2 hm2 hD2 hZ2 hos2 hl2
  have leG2 := leG
  replace hs := hs.mono leG2
  replace hC := hC.mono leG2
  replace ha1 := ha1.mono leG2
  refine qc (qc (qa (cX (qo (0) qU rfl jh (by decide) rfl rfl (cX (qi jH rfl (Rd.own [_] rfl rfl) (cX (qE qB rfl (SlV.own [] rfl) (qf (ii ((k : Int))) rfl (cX (qT rfl rfl (qb ?_))))))))))))
  refine qA (p := (m2 : Int) < (k : Int)) rfl (fun h4 => ?_) (fun h4 => ?_)
  ·refine qz (qL (qa (cX (qo (0) qU rfl jh (by decide) rfl rfl (cX (qi jH rfl (Rd.own [_] rfl rfl) (cX (qt (s := 1) [sN] [sN] [(0, [sN])] qB qp jT rfl (by decide) rfl (.cons rfl CellsAre.nil) rfl ?_))))))))
   intro v2 hv1
   refine cX (XOp.append (m := 1) (bytes := 24) (cs := ocs2) [_] _ [sN] qB typeInfo27 rfl rfl rfl rfl rfl rfl rfl (SlV.own [] rfl) rfl (Rd.lit [] rfl) (qs rfl qZ) (by (try simp only [List.length_append, List.length_nil, List.length_cons, List.length_singleton]); omega) (by (try simp only [List.length_append, List.length_nil, List.length_cons, List.length_singleton]); omega) ?_)
   intro v3 hs2 hn1 hm1
   have hc1 := RowsC.snoc hC2 IntsF.nilV
   refine cX (qo (0) qU rfl jh (by decide) rfl rfl (cX (jx [_, _] _ [v3] jh rfl rfl (jb hs2) rfl rfl rfl (qb ?_))))
   exact ⟨(j + 1, v3, os2 ++ [[]], ocs2 ++ [(sN)], Vs ++ [intsH 2 sN []], (m2) + 1, G2), _, leG2, rF, ⟨rfl, rfl, rfl, rfl, rfl, rfl, rfl, ⟨⟩⟩, (sD (sC (sC (sC (sC sR))))), ⟨rfl, leG2, (hs2), (hc1), (by (try dsimp only); rw [List.length_append, List.length_singleton]; omega), (DeepL.snoc hD2 rfl ⟨_, rfl, rfl⟩), ((Fresh.app hZ2 (qh (qh leG1 le1) leG2) (Fresh.one (Fresh.empty nilLeaf)) rF)), (by dsimp only; rw [hos2, List.append_assoc, List.replicate_succ']), (by dsimp only; rw [List.length_append]; simp only [List.length_singleton]; omega)⟩, (by dsimp only; rw [List.length_append]; simp only [List.length_singleton]; omega)⟩
  refine jj (qx (qx (qO ?_)))
  refine X.drawG [slH 27 1 ov2 m2 ocs2, cellsH b3 [ov2] 50, cellsH b2 [sN] 50, cellsH b1 [sv] 50] L 5 [[], [], [], [], [3]] [[], [0], [], [2], [3]] [] (phiG [pe (ptr b3 0), pe ov2, pe a1, fun FF us v => ((v) : Value) = v ∧ (IntsF FF (v) (((s.getD k [])))) ∧ (FrIntsF G2 FF 2 (v) (((s.getD k [])))), fun FF us v => ∃ b, v = .slice (some ⟨b, 0, none⟩) 1 1]) (ownL [o0, o0, o0, o0, fun us v => [slH 27 1 v 1 [((us.getD 0 undef))]]]) mixed rfl rfl (by kernel_rfl) (by kernel_rfl) (MonoG.get (m1 (m1 (m1 (mC (fun le h => ⟨h.1, h.2.1.mono le, h.2.2.mono le⟩) (mC (fun le h => h) MonoG.nil)))))) ?_ ?_
  ·refine gD (fun W Fs R lF z9 => ?_) ?_
   ·refine qj (qo (0) qU rfl jh (by decide) rfl rfl ?_)
    exact ⟨rfl, rfl⟩
   refine gD (fun W Fs R lF z9 => ?_) ?_
   ·replace hs := hs.mono lF
    replace hC := hC.mono lF
    replace ha1 := ha1.mono lF
    replace hC2 := hC2.mono lF
    rw [eS (l := [(0, _)]) ⟨z9 0 rfl, ⟨⟩⟩]
    refine qj (qi jH rfl (Rd.own [_] rfl rfl) ?_)
    exact ⟨rfl, rfl⟩
   refine gD (fun W Fs R lF z9 => ?_) ?_
   ·refine qj (ql (a1) rfl ?_)
    exact ⟨rfl, rfl⟩
   refine gD (fun W Fs R lF z9 => ?_) ?_
   ·replace hs := hs.mono lF
    replace hC := hC.mono lF
    replace ha1 := ha1.mono lF
    replace hC2 := hC2.mono lF
    rw [eS (l := [(2, _)]) ⟨z9 2 rfl, ⟨⟩⟩]
    refine qj (jR <| qr (args := [a1]) call188 rfl (Clone_spec ha1 (hlt := (hsb k (by omega)))) ?_)
    rintro v6 _ _ _ ⟨rfl, hs4, rfl⟩
    refine ⟨_, _, rfl, fun F2 le2 hz2 => ?_⟩
    replace hC := hC.mono le2
    replace hC2 := hC2.mono le2
    have hf2 : IntsF F2 v6 ((((s.getD k [])))) := intsH.fz (xs := (((s.getD k [])))) hz2.fz
    exact ⟨⟨rfl, hf2, (hz2.base lF)⟩, rfl⟩
   refine gD (fun W Fs R lF z9 => ?_) ?_
   ·obtain ⟨e3, f3_1ha, f3_1hz⟩ := z9 3 rfl
    replace hC := hC.mono lF
    replace hC2 := hC2.mono lF
    rw [eS (l := [(3, ((W 3)))]) ⟨(e3).symm, ⟨⟩⟩]
    refine qj (qt (s := 1) [((W 3))] [sN] [(0, [((W 3))])] qB qp jT rfl (by decide) rfl (.cons (cells_one (qD f3_1ha)) CellsAre.nil) rfl ?_)
    intro v7 hv3
    exact ⟨hv3, rfl⟩
   exact stepsG.nil
  intro W F3 le3 hphi
  obtain ⟨e3, f3_1ha, f3_1hz⟩ := hphi 3 (by decide)
  have f4 : ∃ b, (W 4) = .slice (some ⟨b, 0, none⟩) 1 1 := hphi 4 (by decide)
  generalize hu1 : ((W 3)) = u1 at e3 f3_1ha f3_1hz f4
  generalize hu4 : W 4 = u2 at e3 f3_1ha f3_1hz f4
  rw [eS (l := [(1, _), (3, u1), (4, u2)]) ⟨(hphi 1 (by decide)), hu1, hu4, ⟨⟩⟩]
  replace hC := hC.mono le3
  replace hC2 := hC2.mono le3
  show XL _ _ _ _ _ _ _ (slH 27 1 u2 1 [u1] :: slH 27 1 ov2 m2 ocs2 :: cellsH b3 [ov2] 50 :: cellsH b2 [sN] 50 :: cellsH b1 [sv] 50 :: L)
  refine cX (XOp.append (m := 1) (bytes := 24) (cs := ocs2) [_] _ [u1] qB typeInfo27 rfl rfl rfl rfl rfl rfl rfl (SlV.own [] rfl) rfl (Rd.lit [] rfl) (qs (jb (qD f3_1ha)) qZ) (by (try simp only [List.length_append, List.length_nil, List.length_cons, List.length_singleton]); omega) (by (try simp only [List.length_append, List.length_nil, List.length_cons, List.length_singleton]); omega) ?_)
  intro v8 hs5 hn2 hm2
  have hc2 := RowsC.snoc hC2 f3_1ha
  skip
  refine cX (qo (0) qU rfl jh (by decide) rfl rfl (cX (jx [_, _] _ [v8] jh rfl rfl (jb hs5) rfl rfl rfl (qb (qa (cX (qS (((k + 1 : Nat) : Int)) rfl rfl (by omega) (by omega) (qf (ii (((k + 1 : Nat) : Int))) rfl (qb ?_)))))))))
  exact ⟨(k + 1, v8, os2 ++ [(((s.getD k [])))], ocs2 ++ [u1], Vs ++ [intsH 2 u1 ((((s.getD k []))))], (m2) + 1, F3), _, (qh (qh (qh leG1 le1) leG2) le3), rF, ⟨rfl, rfl, rfl, rfl, rfl, ⟨⟩⟩, (sD (sC (sC (sC (sC sR))))), ⟨rfl, (qh (qh (qh leG1 le1) leG2) le3), (hs5), (hc2), (by (try dsimp only); rw [List.length_append, List.length_singleton]; omega), (DeepL.snoc hD2 rfl ⟨_, rfl, rfl⟩), ((Fresh.app hZ2 (qh (qh leG1 le1) leG2) (Fresh.one f3_1hz) le3)), (plain_put (m := os2) (by omega) (by intro e; have := congrArg List.length e; simp only [List.length_nil] at this; omega) (by assumption) (by rw [hos2, hos]; exact plain_padded (by rw [← hos, ← hos2, List.length_take, plainGo_length]; omega))), (by (try dsimp only) <;> omega)⟩, (by omega)⟩
 refine jj (qx (qx (qO (qc (qa (cX (qy [ov] jG jl rfl rfl (Rd.ownN [_] rfl rfl) (cX (qV [_, _] _ [ov] jl rfl rfl rfl (qs (jb hov) qZ) rfl rfl rfl (qb (qP [] _ _ rfl (fun F4 le4 hz3 => ?_))))))))))))
 replace hC := hC.mono le4
 have hf3 : RowsF F4 ov os := CO.fz hC (by first | rfl | omega | (rw [List.length_set]; omega) | (simp; done)) hz3.fz
 refine qw (qv (L' := L) [.agg #[ov]] (.agg #[ov]) (.cell rfl (ju [ov] jG jl rfl (Rd.ownN [_] rfl rfl)) .nil) rfl (qh leG1 le4) rF (sD (sD (sD sR))) ?_)
 have e : os = plainL s := by rw [hos, show k = s.length from by omega, plain_all]
 exact ⟨_, rfl, by rw [← e]; exact hf3, by rw [← e]; exact (Fresh.one (Fresh.deep hD hZ leG1 hz3 (by omega) le4)), rfl⟩

/- impl.match -/
theorem matchZ_spec {F : FH} {L : List HP} {arv : Value} {ar : List Int} (har : IntsF F arv ar) {pv : Value} {p : List Int} (hp : IntsF F pv p) {tv : Value} {t : List Int} (ht : IntsF F tv t) (ho : termOk ar t = true) (hpo : termOk ar p = true) :
    Does prog 156 [.agg #[arv], pv, tv] F (L) (fun v F' L' => ∃ (a : Value), (.tuple #[.agg #[a], .bool ((matchB ar p t).isSome)] : Value) = v ∧ (RowsF F' a (matchP ar p t)) ∧ (Fresh F F' (star [rowsD 2 27 a (matchP ar p t)])) ∧ L = L') := by
 refine qI func156 rfl rfl rfl ?_
 have hpl := termOk_len hpo
 have hpg := fun k (hk : k < p.length) => termOk_ge hpo hk
 refine qc (qa (cX (jc [arv] rfl rfl ?_)))
 intro b1
 refine cX (jo [sN] jy rfl ?_)
 intro b2
 refine qg (.bool (false)) rfl (qb (qc (qa (cX (qy [arv] ja qF rfl rfl (Rd.ownN [_] rfl rfl) (qf (pv) rfl (qf (tv) rfl (cX (XOp.build0 (List.replicate 24 (sN)) runUnderlying202 ⟨_, qp⟩ zeroValue202 rfl ?_)))))))))
 have hc1 : BindC F _ _ := BindC.nils 24
 refine cX (qr (args := [.agg #[arv], pv, tv, .agg (List.replicate 24 (sN)).toArray]) call210 rfl (matchInto_spec har hp ht hc1 ((by first | assumption | rfl | simp | omega)) (ho := (by first | assumption | rfl | omega | simp)) (hpl := (by first | assumption | rfl | omega | simp)) (hpg := (by first | assumption | rfl | omega | simp))) ?_)
 rintro _ _ _ _ ⟨rfl, x1, x2, rfl, hr1, hr2, hr3, rfl⟩
 have hbl24 := hr2
 refine qf (.tuple #[.agg (x1).toArray, .bool ((mGo ar t p 0 (List.replicate 24 ([] : List Int))).isSome)]) rfl (cX (qH (.agg (x1).toArray) rfl rfl (cX (qH (.bool ((mGo ar t p 0 (List.replicate 24 ([] : List Int))).isSome)) rfl rfl (cX (jo (List.replicate 24 (sN)) zeroValue202 rfl ?_))))))
 intro b3
 have hc2 : BindC F _ _ := BindC.nils 24
 refine cX (qV [] _ x1 yc rfl rfl (by have := CO.len hr1; (try simp only [List.length_set, List.length_replicate] at this ⊢) <;> omega) hr1.ones rfl (Nat.ble_eq_true_of_le (Nat.le_of_eq (by have := CO.len hc2; (try simp only [List.length_set, List.length_replicate] at this ⊢) <;> omega))) (arr_over (by have := CO.len hc2; (try simp only [List.length_set, List.length_replicate] at this ⊢) <;> omega)) (qg (.bool ((mGo ar t p 0 (List.replicate 24 ([] : List Int))).isSome)) rfl (qb (qc (qc (qa (qf (.bool ((mGo ar t p 0 (List.replicate 24 ([] : List Int))).isSome)) rfl (cX (jg rfl (qb ?_))))))))))
 refine jO (t := !((mGo ar t p 0 (List.replicate 24 ([] : List Int))).isSome)) rfl (fun h1 => ?_) (fun h1 => ?_)
 ·refine qc (qa (cX (qY [sN] [sN] [(0, 1)] [] qU jy rfl (.cons rfl jh PlacesAre.nil) rfl CellsAre.nil (cX (qV [_] _ [sN] jl rfl rfl rfl (qs rfl qZ) rfl rfl rfl (qg (.bool (false)) rfl (qb (qw (qq (qv (L' := L) [.agg #[sN], .bool (false)] (.tuple #[.agg #[sN], .bool (false)]) (.cell rfl (ju [sN] jG jl rfl (Rd.ownN [_] rfl rfl)) (.tmp rfl .nil)) rfl rF rF (sD (sD (sD sR))) ?_))))))))))
  have hz : matchB ar p t = none := by have h0 := h1; simpa [matchB] using h0
  exact ⟨_, by rw [hz]; rfl, by rw [matchP, hz]; exact SlOf.nilV, by rw [matchP, hz]; exact Fresh.empty nilRowsD, rfl⟩
 have hz : ∃ r, matchB ar p t = some r := Option.isSome_iff_exists.1 (by have h0 := h1; simpa [matchB] using h0)
 have hmb : ∀ i, (x2.getD i []).length ≤ t.length := by obtain ⟨r, hz⟩ := hz; have e := hr3 _ hz; rw [e]; exact (matchB_len hz).2
 have htl := termOk_len ho
 refine qz (qc (qa (cX (qy x1 isAgg202 yc (by have := CO.len hr1; (try simp only [List.length_set, List.length_replicate] at this ⊢) <;> omega) rfl (Rd.ownN [] rfl take_all) (cX (qr (args := [.agg (x1).toArray]) call211 rfl (subst_spec hr1 ((by first | assumption | rfl | simp | omega))) ?_))))))
 rintro _ F2 _ le2 ⟨x3, rfl, hr4, rfl⟩
 refine cX (qr (args := [.agg #[x3]]) call209 rfl (plainZ_spec hr4 (hsl := (by first | assumption | rfl | omega | simp)) (hsb := (fun i hi => by have := hmb i; omega))) ?_)
 rintro _ F3 _ le3 ⟨x4, rfl, hr5, hr6, rfl⟩
 refine cX (qV [_] _ [x4] jl rfl rfl rfl (qs (jb (RowsF.isSl hr5)) qZ) rfl rfl rfl (qg (.bool (true)) rfl (qb (qw (qv (L' := L) [.agg #[x4], .bool (true)] (.tuple #[.agg #[x4], .bool (true)]) (.cell rfl (ju [x4] jG jl rfl (Rd.ownN [_] rfl rfl)) (.tmp rfl .nil)) rfl (qh le2 le3) rF (sD (sD (sD sR))) ?_)))))
 obtain ⟨b0, hz⟩ := Option.isSome_iff_exists.1 (show (matchB ar p t).isSome = true from by have h0 := h1; simpa [matchB] using h0)
 have hb0 := hr3 _ hz
 exact ⟨_, by rw [hz]; rfl, by rw [matchP, hz]; subst hb0; exact hr5, by rw [matchP, hz]; subst hb0; exact (hr6.base le2), rfl⟩

/- spec.Matched -/
theorem sMatched_spec {F : FH} {L : List HP} {arv : Value} {ar : List Int} (har : IntsF F arv ar) {pv : Value} {p : List Int} (hp : IntsF F pv p) {tv : Value} {t : List Int} (ht : IntsF F tv t) (ho : termOk ar t = true) (hpo : termOk ar p = true) (hla : ar.length ≤ 4000000) :
    Does prog 54 [.agg #[arv], pv, tv] F (L) (fun v F' L' => ∃ (a : Value), (.tuple #[.agg #[a], .bool ((matchB ar p t).isSome)] : Value) = v ∧ (RowsF F' a (matchP ar p t)) ∧ L = L') := by
 refine qI func54 rfl rfl rfl ?_
 have hpl := termOk_len hpo
 have htl := termOk_len ho
 refine qc (qa (cX (jc [arv] rfl rfl ?_)))
 intro b1
 refine cX (jo [sN] jy rfl ?_)
 intro b2
 refine qg (.bool (false)) rfl (qb (qc (qc (qa (cX (qy [arv] ja qF rfl rfl (Rd.ownN [_] rfl rfl) (qf (pv) rfl (cX (qr (args := [.agg #[arv], pv]) call81 rfl (sTermOk_spec har hp (hla := (by first | assumption | rfl | omega | simp)) (hlt := (by first | assumption | rfl | omega | simp))) ?_)))))))))
 rintro _ _ _ _ ⟨rfl, rfl, rfl⟩
 refine cX (jg rfl (qf (.bool (!(termOk ar p))) rfl ?_))
 by_cases h1 : (!(termOk ar p)) = true
 ·exact absurd h1 (by simp [ho, hpo])
 rw [Bool.not_eq_true] at h1
 refine qk (t := 12) rfl (vB h1) (qy [arv] ja qF rfl rfl (Rd.ownN [_] rfl rfl) (qk (t := 12) rfl (vB h1) (ql (tv) rfl (qk (t := 12) rfl (vB h1) (qr (args := [.agg #[arv], tv]) call81 rfl (sTermOk_spec har ht (hla := (by first | assumption | rfl | omega | simp)) (hlt := (by first | assumption | rfl | omega | simp))) ?_)))))
 rintro _ _ _ _ ⟨rfl, rfl, rfl⟩
 refine qk (t := 12) rfl (vB h1) (jg rfl (cX (qG (.bool (!(termOk ar t))) (vB h1) rfl (qb ?_))))
 refine jO (t := !(termOk ar t)) rfl (fun h2 => ?_) (fun h2 => ?_)
 ·exact absurd h2 (by simp [ho, hpo])
 refine qz (qc (qa (cX (qy [arv] ja qF rfl rfl (Rd.ownN [_] rfl rfl) (qf (pv) rfl (qf (tv) rfl (cX (qr (args := [.agg #[arv], pv, tv]) call120 rfl (l4Match_spec har hp ht (ho := (by first | assumption | rfl | omega | simp)) (hpo := (by first | assumption | rfl | omega | simp))) ?_))))))))
 rintro _ F1 _ le1 ⟨x1, rfl, hr1, rfl⟩
 refine cX (qH (.agg #[x1]) rfl rfl (cX (qH (.bool ((matchB ar p t).isSome)) rfl rfl (cX (qV [] _ [x1] jl rfl rfl rfl (qs (jb (RowsF.isSl hr1)) qZ) rfl rfl rfl (qg (.bool ((matchB ar p t).isSome)) rfl (qb (qw (qv (L' := L) [.agg #[x1], .bool ((matchB ar p t).isSome)] (.tuple #[.agg #[x1], .bool ((matchB ar p t).isSome)]) (.cell rfl (ju [x1] jG jl rfl (Rd.ownN [] rfl rfl)) (.tmp rfl .nil)) rfl le1 rF (sD (sD sR)) ?_)))))))))
 exact ⟨_, rfl, hr1, rfl⟩

/- laws.w9Sig -/
theorem w9Sig_spec {F : FH} {L : List HP} :
    Does prog 106 [] F (L) (fun v F' L' => ∃ (a : Value), (.agg #[a] : Value) = v ∧ (IntsF F' a [2, 1, 0]) ∧ L = L') := by
 refine qI func106 rfl rfl rfl (qc (qa (cX (jo [sN] zeroValue29 rfl ?_))))
 intro b1
 refine qb (qc (qa (cX (qt (s := 1) [ii (2), ii (1), ii (0)] [ii (0)] [(0, [ii (2)]), (1, [ii (1)]), (2, [ii (0)])] qd qm qJ rfl (by decide) rfl (.cons rfl (.cons rfl (.cons rfl CellsAre.nil))) rfl ?_))))
 intro v1 hv1
 refine cX (qY [v1] [sN] [(0, 1)] [(0, [v1])] jX zeroValue29 rfl (.cons rfl qp PlacesAre.nil) rfl (.cons (cells_one (jd hv1)) CellsAre.nil) (cX (qV [_] _ [v1] qF rfl rfl rfl (qs (jb (jd hv1)) qZ) rfl rfl rfl (qb ?_))))
 show X _ _ _ _ _ _ (intsH 2 v1 ([2, 1, 0] : List Int) :: cellsH b1 [v1] 29 :: L)
 refine qP [] _ _ rfl (fun F1 le1 hz1 => ?_)
 have hf1 : IntsF F1 v1 ([2, 1, 0]) := intsH.fz (xs := [2, 1, 0]) hz1.fz
 refine qw (qv (L' := L) [.agg #[v1]] (.agg #[v1]) (.cell rfl (ju [v1] ja qF rfl (Rd.ownN [] rfl rfl)) .nil) rfl le1 rF (sD sR) ?_)
 exact ⟨_, rfl, hf1, rfl⟩

/- laws.w9Term -/
theorem w9Term_spec_step {dp : Nat} (ih : ∀ m : Nat, m < dp → ∀ {F : FH} {L : List HP} {cb : Nat} {bsv : Value} {bs : List Int} (hbs : BytesF F bsv bs) (hbl : bs.length ≤ 4000000) {vs : Int} (hdp : m ≤ 4) (hvs : 0 ≤ vs ∧ vs ≤ 24), Does prog 110 [ptr cb 0, ii ((m : Int)), ii (vs)] F (curH .u64 88 cb bsv bs.length :: L) (fun v F' L' => ∃ a : Value, ((a : Value) = v ∧ IsSl a) ∧ drawnH 2 a (fun t => 1 ≤ t.length ∧ t.length ≤ szB m) :: curH .u64 88 cb bsv bs.length :: L = L')) {F : FH} {L : List HP} {cb : Nat} {bsv : Value} {bs : List Int} (hbs : BytesF F bsv bs) (hbl : bs.length ≤ 4000000) {vs : Int} (hdp : dp ≤ 4) (hvs : 0 ≤ vs ∧ vs ≤ 24) :
    Does prog 110 [ptr cb 0, ii (((dp : Nat) : Int)), ii (vs)] F (curH .u64 88 cb bsv bs.length :: L) (fun v F' L' => ∃ a : Value, ((a : Value) = v ∧ IsSl a) ∧ drawnH 2 a (fun t => 1 ≤ t.length ∧ t.length ≤ szB dp) :: curH .u64 88 cb bsv bs.length :: L = L') := by
 refine qI func110 rfl rfl rfl ?_
 have hz9 := szB_le (d := dp - 1) (e := 3) (by omega)
 have hz8 : szB 3 = 15 := rfl
 have hz7 := szB_pos (dp - 1)
 refine qc (qa (qg (sN) rfl (qb (qc (qc (qa (qf (ii (vs)) rfl (cX (jL rfl rfl (qf (.bool (decide ((vs : Int) > 0))) rfl ?_))))))))))
 by_cases h1 : (vs : Int) > 0
 ·refine qk (t := 12) rfl (vT h1) (ql (ptr cb 0) rfl (qk (t := 12) rfl (vT h1) (qr (args := [ptr cb 0, ii (3)]) call14 rfl (jN [] (below_spec (n := 3) hbs (by omega) (hn := (by first | assumption | rfl | omega | simp)))) ?_)))
  rintro _ _ _ _ ⟨⟨rfl, x1, rfl, hr1⟩, rfl⟩
  show XL _ _ _ _ _ _ _ (curH .u64 88 cb bsv bs.length :: L)
  refine qk (t := 12) rfl (vT h1) (js rfl rfl (cX (qN (.bool (decide ((x1 : Int) = 0))) (vT h1) rfl (qb ?_))))
  refine qA (p := (x1 : Int) = 0) rfl (fun h2 => ?_) (fun h2 => ?_)
  ·refine qc (qa (qf (ptr cb 0) rfl (qf (ii (vs)) rfl (cX (qr (args := [ptr cb 0, ii (vs)]) call14 rfl (jN [] (below_spec (n := vs) hbs (by omega) (hn := (by first | assumption | rfl | omega | simp)))) ?_)))))
   rintro _ _ _ _ ⟨⟨rfl, x2, rfl, hr2⟩, rfl⟩
   show XL _ _ _ _ _ _ _ (curH .u64 88 cb bsv bs.length :: L)
   refine cX (jf ((-1) - x2) rfl rfl (by omega) (by omega) (cX (qt (s := 1) [ii ((-1) - x2)] [ii (0)] [(0, [ii ((-1) - x2)])] qd qm qJ rfl (by decide) rfl (.cons rfl CellsAre.nil) rfl ?_)))
   intro v1 hv1
   refine qg (v1) rfl (qb (qw (qq (qv (L' := drawnH 2 v1 (fun t => 1 ≤ t.length ∧ t.length ≤ szB dp) :: curH .u64 88 cb bsv bs.length :: L) [v1] (v1) (.tmp rfl .nil) rfl rF rF (jE (sC (sC sR)) (Sub.keep (drawnH.of (t := [(-1) - x2]) (⟨Nat.le_refl _, szB_pos dp⟩)) sR)) ?_))))
   exact ⟨_, ⟨rfl, (jd hv1)⟩, rfl⟩
  refine qz (qc (qa (qf (ptr cb 0) rfl (cX (qr (args := [ptr cb 0, ii (3)]) call14 rfl (jN [] (below_spec (n := 3) hbs (by omega) (hn := (by first | assumption | rfl | omega | simp)))) ?_)))))
  rintro _ _ _ _ ⟨⟨rfl, x3, rfl, hr3⟩, rfl⟩
  show XL _ _ _ _ _ _ _ (curH .u64 88 cb bsv bs.length :: L)
  refine qg (ii (x3)) rfl (qb (qc (qc (qa (qf (ii (((dp : Nat) : Int))) rfl (cX (XOp.leq rfl rfl (qb ?_))))))))
  refine qA (p := (((dp : Nat) : Int) : Int) ≤ 1) rfl (fun h3 => ?_) (fun h3 => ?_)
  ·refine qa (qg (ii (2)) rfl (qb (qc (qa (qf (ii (2)) rfl (cX (qt (s := 1) [ii (2)] [ii (0)] [(0, [ii (2)])] qd qm qJ rfl (by decide) rfl (.cons rfl CellsAre.nil) rfl ?_)))))))
   intro v2 hv2
   refine qg (v2) rfl (qb (qc (qc (qa ?_))))
   show XL _ _ _ _ _ _ _ (intsH 2 v2 ([2] : List Int) :: curH .u64 88 cb bsv bs.length :: L)
   skip
   refine qf (ii (2)) rfl (qg (ii (2)) rfl (qb (qL (jn (α := Nat × Value × List Int × FH) (fun xQ => [(0, ptr cb 0), (1, ii (((dp : Nat) : Int))), (2, ii (vs)), (8, xQ.2.1), (9, ii (((xQ.1 : Nat) : Int)))]) (fun xQ => intsH 2 xQ.2.1 xQ.2.2.1 :: curH .u64 88 cb bsv bs.length :: L) (fun xQ F' => xQ.2.2.2 = F' ∧ F ≤ xQ.2.2.2 ∧ (IsSl xQ.2.1) ∧ (2 ≤ (xQ.1 : Int) ∧ xQ.1 ≤ 2) ∧ (1 ≤ xQ.2.2.1.length) ∧ (xQ.2.2.1.length ≤ 1 + (xQ.1 - ((2 : Int)).toNat) * szB (dp - 1))) (fun xQ => 2 - xQ.1) (((2 : Int)).toNat, v2, [2], F) ⟨rfl, rfl, rfl, rfl, (vI (by omega)), ⟨⟩⟩ (sC (sC sR)) ⟨rfl, FLe.refl _, ((jd hv2)), (by (try dsimp only); omega), (by (try dsimp only); simp), (by (try dsimp only); simp)⟩ ?_))))
   rintro ⟨k, ov, os, G1⟩ rE _ _ ⟨rfl, leG, hov, hk, h19, hol⟩
   show X _ _ _ _ (envs [(0, ptr cb 0), (1, ii (((dp : Nat) : Int))), (2, ii (vs)), (8, ov), (9, ii ((k : Int)))] rE) _ (intsH 2 ov os :: curH .u64 88 cb bsv bs.length :: L)
   replace leG : F ≤ G1 := leG
   dsimp only at hov hk h19 hol
   have hmu : (k - ((2 : Int)).toNat) * szB (dp - 1) ≤ 2 * szB (dp - 1) := Nat.mul_le_mul_right _ (by omega)
   have leG1 := leG
   replace hbs := hbs.mono leG1
   refine qc (qc (qa (qf (ii ((k : Int))) rfl (cX (qT rfl rfl (qb ?_))))))
   refine qA (p := (k : Int) < 2) rfl (fun h4 => ?_) (fun h4 => ?_)
   ·refine qz (qc (qL (qa (qf (ov) rfl (qf (ptr cb 0) rfl (qf (ii (((dp : Nat) : Int))) rfl (cX (jf (((dp - 1 : Nat) : Int)) rfl rfl (by omega) (by omega) (qf (ii (vs)) rfl (cX (qr (args := [ptr cb 0, ii ((dp - 1 : Nat) : Int), ii (vs)]) call110 rfl (yd [_] (ih (dp - 1) (by omega) (vs := vs) hbs (by omega) (hdp := (by first | assumption | rfl | omega | simp)) (hvs := (by first | assumption | rfl | omega | simp)))) ?_)))))))))))
    rintro _ F4 _ le4 ⟨x5, ⟨rfl, hsl1⟩, rfl⟩
    replace hbs := hbs.mono le4
    show XL _ _ _ _ _ _ _ (drawnH 2 x5 (fun t => 1 ≤ t.length ∧ t.length ≤ szB (dp - 1)) :: intsH 2 ov os :: curH .u64 88 cb bsv bs.length :: L)
    refine jY [] rfl (fun t1 hq9 => ?_)
    obtain ⟨q1, q2⟩ := hq9
    show XL _ _ _ _ _ _ _ (intsH 2 x5 t1 :: intsH 2 ov os :: curH .u64 88 cb bsv bs.length :: L)
    refine jz [] _ _ rfl (fun F5 le5 hz1 => ?_)
    replace hbs := hbs.mono le5
    have hf1 : IntsF F5 x5 t1 := intsH.fz (xs := t1) hz1.fz
    refine cX (jD [] _ qd typeInfo2 rfl rfl rfl rfl rfl rfl hf1 (by (try simp only [List.length_append, List.length_nil, List.length_cons, List.length_singleton, List.length_take, List.length_drop]); omega) ?_)
    intro v3 hs1 hn1 hm1
    refine qg (v3) rfl (qb (qa (qf (ii ((k : Int))) rfl (cX (qS (((k + 1 : Nat) : Int)) rfl rfl (by omega) (by omega) (qg (ii (((k + 1 : Nat) : Int))) rfl (qb ?_)))))))
    exact ⟨(k + 1, v3, os ++ t1, F5), _, (qh (qh leG1 le4) le5), rF, ⟨rfl, rfl, rfl, rfl, rfl, ⟨⟩⟩, (sC (sC sR)), ⟨rfl, (qh (qh leG1 le4) le5), (hs1), (by (try dsimp only); omega), (by (try dsimp only); rw [List.length_append]; omega), (by (try dsimp only); rw [List.length_append, show k + 1 - ((2 : Int)).toNat = (k - ((2 : Int)).toNat) + 1 from by omega, Nat.succ_mul]; omega)⟩, (by omega)⟩
   refine jj (qx (qx (qO (qc (qa (qf (ov) rfl (qg (ov) rfl (qb (qw (qv (L' := drawnH 2 ov (fun t => 1 ≤ t.length ∧ t.length ≤ szB dp) :: curH .u64 88 cb bsv bs.length :: L) [ov] (ov) (.tmp rfl .nil) rfl leG1 rF (jE (sC (sC sR)) (Sub.keep (drawnH.of (t := os) (⟨h19, by first | (have h9 := szB_next (d := dp) (by omega); omega) | (have h8 : k - ((2 : Int)).toNat = 0 := (by omega); rw [h8, Nat.zero_mul] at hol; have := szB_pos dp; omega)⟩)) sR)) ?_))))))))))
   exact ⟨_, ⟨rfl, hov⟩, rfl⟩
  refine qz (qc (qa (qf (ii (x3)) rfl (cX (qt (s := 1) [ii (x3)] [ii (0)] [(0, [ii (x3)])] qd qm qJ rfl (by decide) rfl (.cons rfl CellsAre.nil) rfl ?_)))))
  intro v4 hv3
  refine qg (v4) rfl (qb (qc (qc (qa ?_))))
  show XL _ _ _ _ _ _ _ (intsH 2 v4 ([x3] : List Int) :: curH .u64 88 cb bsv bs.length :: L)
  skip
  refine qf (ii (x3)) rfl (qg (ii (x3)) rfl (qb (qL (jn (α := Nat × Value × List Int × FH) (fun xQ => [(0, ptr cb 0), (1, ii (((dp : Nat) : Int))), (2, ii (vs)), (8, xQ.2.1), (9, ii (((xQ.1 : Nat) : Int)))]) (fun xQ => intsH 2 xQ.2.1 xQ.2.2.1 :: curH .u64 88 cb bsv bs.length :: L) (fun xQ F' => xQ.2.2.2 = F' ∧ F ≤ xQ.2.2.2 ∧ (IsSl xQ.2.1) ∧ (x3 ≤ (xQ.1 : Int) ∧ xQ.1 ≤ 2) ∧ (1 ≤ xQ.2.2.1.length) ∧ (xQ.2.2.1.length ≤ 1 + (xQ.1 - ((x3 : Int)).toNat) * szB (dp - 1))) (fun xQ => 2 - xQ.1) (((x3 : Int)).toNat, v4, [x3], F) ⟨rfl, rfl, rfl, rfl, (vI (by omega)), ⟨⟩⟩ (sC (sC sR)) ⟨rfl, FLe.refl _, ((jd hv3)), (by (try dsimp only); omega), (by (try dsimp only); simp), (by (try dsimp only); simp)⟩ ?_))))
  rintro ⟨k, ov, os, G2⟩ rE _ _ ⟨rfl, leG, hov, hk, h19, hol⟩
  show X _ _ _ _ (envs [(0, ptr cb 0), (1, ii (((dp : Nat) : Int))), (2, ii (vs)), (8, ov), (9, ii ((k : Int)))] rE) _ (intsH 2 ov os :: curH .u64 88 cb bsv bs.length :: L)
  replace leG : F ≤ G2 := leG
  dsimp only at hov hk h19 hol
  have hmu : (k - ((x3 : Int)).toNat) * szB (dp - 1) ≤ 2 * szB (dp - 1) := Nat.mul_le_mul_right _ (by omega)
  have leG2 := leG
  replace hbs := hbs.mono leG2
  refine qc (qc (qa (qf (ii ((k : Int))) rfl (cX (qT rfl rfl (qb ?_))))))
  refine qA (p := (k : Int) < 2) rfl (fun h5 => ?_) (fun h5 => ?_)
  ·refine qz (qc (qL (qa (qf (ov) rfl (qf (ptr cb 0) rfl (qf (ii (((dp : Nat) : Int))) rfl (cX (jf (((dp - 1 : Nat) : Int)) rfl rfl (by omega) (by omega) (qf (ii (vs)) rfl (cX (qr (args := [ptr cb 0, ii ((dp - 1 : Nat) : Int), ii (vs)]) call110 rfl (yd [_] (ih (dp - 1) (by omega) (vs := vs) hbs (by omega) (hdp := (by first | assumption | rfl | omega | simp)) (hvs := (by first | assumption | rfl | omega | simp)))) ?_)))))))))))
   rintro _ F6 _ le6 ⟨x7, ⟨rfl, hsl2⟩, rfl⟩
   replace hbs := hbs.mono le6
   show XL _ _ _ _ _ _ _ (drawnH 2 x7 (fun t => 1 ≤ t.length ∧ t.length ≤ szB (dp - 1)) :: intsH 2 ov os :: curH .u64 88 cb bsv bs.length :: L)
   refine jY [] rfl (fun t2 hq9 => ?_)
   obtain ⟨q3, q4⟩ := hq9
   show XL _ _ _ _ _ _ _ (intsH 2 x7 t2 :: intsH 2 ov os :: curH .u64 88 cb bsv bs.length :: L)
   refine jz [] _ _ rfl (fun F7 le7 hz2 => ?_)
   replace hbs := hbs.mono le7
   have hf2 : IntsF F7 x7 t2 := intsH.fz (xs := t2) hz2.fz
   refine cX (jD [] _ qd typeInfo2 rfl rfl rfl rfl rfl rfl hf2 (by (try simp only [List.length_append, List.length_nil, List.length_cons, List.length_singleton, List.length_take, List.length_drop]); omega) ?_)
   intro v5 hs2 hn2 hm2
   refine qg (v5) rfl (qb (qa (qf (ii ((k : Int))) rfl (cX (qS (((k + 1 : Nat) : Int)) rfl rfl (by omega) (by omega) (qg (ii (((k + 1 : Nat) : Int))) rfl (qb ?_)))))))
   exact ⟨(k + 1, v5, os ++ t2, F7), _, (qh (qh leG2 le6) le7), rF, ⟨rfl, rfl, rfl, rfl, rfl, ⟨⟩⟩, (sC (sC sR)), ⟨rfl, (qh (qh leG2 le6) le7), (hs2), (by (try dsimp only); omega), (by (try dsimp only); rw [List.length_append]; omega), (by (try dsimp only); rw [List.length_append, show k + 1 - ((x3 : Int)).toNat = (k - ((x3 : Int)).toNat) + 1 from by omega, Nat.succ_mul]; omega)⟩, (by omega)⟩
  refine jj (qx (qx (qO (qc (qa (qf (ov) rfl (qg (ov) rfl (qb (qw (qv (L' := drawnH 2 ov (fun t => 1 ≤ t.length ∧ t.length ≤ szB dp) :: curH .u64 88 cb bsv bs.length :: L) [ov] (ov) (.tmp rfl .nil) rfl leG2 rF (jE (sC (sC sR)) (Sub.keep (drawnH.of (t := os) (⟨h19, by first | (have h9 := szB_next (d := dp) (by omega); omega) | (have h8 : k - ((x3 : Int)).toNat = 0 := (by omega); rw [h8, Nat.zero_mul] at hol; have := szB_pos dp; omega)⟩)) sR)) ?_))))))))))
  exact ⟨_, ⟨rfl, hov⟩, rfl⟩
 refine qn (t := 12) rfl (vF h1) (qn (t := 12) rfl (vF h1) (qn (t := 12) rfl (vF h1) (cX (qG (.bool (false)) (vF h1) rfl (qb (jC rfl (qz (qc (qa (qf (ptr cb 0) rfl (cX (qr (args := [ptr cb 0, ii (3)]) call14 rfl (jN [] (below_spec (n := 3) hbs (by omega) (hn := (by first | assumption | rfl | omega | simp)))) ?_))))))))))))
 rintro _ _ _ _ ⟨⟨rfl, x8, rfl, hr4⟩, rfl⟩
 show XL _ _ _ _ _ _ _ (curH .u64 88 cb bsv bs.length :: L)
 refine qg (ii (x8)) rfl (qb (qc (qc (qa (qf (ii (((dp : Nat) : Int))) rfl (cX (XOp.leq rfl rfl (qb ?_))))))))
 refine qA (p := (((dp : Nat) : Int) : Int) ≤ 1) rfl (fun h6 => ?_) (fun h6 => ?_)
 ·refine qa (qg (ii (2)) rfl (qb (qc (qa (qf (ii (2)) rfl (cX (qt (s := 1) [ii (2)] [ii (0)] [(0, [ii (2)])] qd qm qJ rfl (by decide) rfl (.cons rfl CellsAre.nil) rfl ?_)))))))
  intro v6 hv4
  refine qg (v6) rfl (qb (qc (qc (qa ?_))))
  show XL _ _ _ _ _ _ _ (intsH 2 v6 ([2] : List Int) :: curH .u64 88 cb bsv bs.length :: L)
  skip
  refine qf (ii (2)) rfl (qg (ii (2)) rfl (qb (qL (jn (α := Nat × Value × List Int × FH) (fun xQ => [(0, ptr cb 0), (1, ii (((dp : Nat) : Int))), (2, ii (vs)), (8, xQ.2.1), (9, ii (((xQ.1 : Nat) : Int)))]) (fun xQ => intsH 2 xQ.2.1 xQ.2.2.1 :: curH .u64 88 cb bsv bs.length :: L) (fun xQ F' => xQ.2.2.2 = F' ∧ F ≤ xQ.2.2.2 ∧ (IsSl xQ.2.1) ∧ (2 ≤ (xQ.1 : Int) ∧ xQ.1 ≤ 2) ∧ (1 ≤ xQ.2.2.1.length) ∧ (xQ.2.2.1.length ≤ 1 + (xQ.1 - ((2 : Int)).toNat) * szB (dp - 1))) (fun xQ => 2 - xQ.1) (((2 : Int)).toNat, v6, [2], F) ⟨rfl, rfl, rfl, rfl, (vI (by omega)), ⟨⟩⟩ (sC (sC sR)) ⟨rfl, FLe.refl _, ((jd hv4)), (by (try dsimp only); omega), (by (try dsimp only); simp), (by (try dsimp only); simp)⟩ ?_))))
  rintro ⟨k, ov, os, G3⟩ rE _ _ ⟨rfl, leG, hov, hk, h19, hol⟩
  show X _ _ _ _ (envs [(0, ptr cb 0), (1, ii (((dp : Nat) : Int))), (2, ii (vs)), (8, ov), (9, ii ((k : Int)))] rE) _ (intsH 2 ov os :: curH .u64 88 cb bsv bs.length :: L)
  replace leG : F ≤ G3 := leG
  dsimp only at hov hk h19 hol
  have hmu : (k - ((2 : Int)).toNat) * szB (dp - 1) ≤ 2 * szB (dp - 1) := Nat.mul_le_mul_right _ (by omega)
  have leG3 := leG
  replace hbs := hbs.mono leG3
  refine qc (qc (qa (qf (ii ((k : Int))) rfl (cX (qT rfl rfl (qb ?_))))))
  refine qA (p := (k : Int) < 2) rfl (fun h7 => ?_) (fun h7 => ?_)
  ·refine qz (qc (qL (qa (qf (ov) rfl (qf (ptr cb 0) rfl (qf (ii (((dp : Nat) : Int))) rfl (cX (jf (((dp - 1 : Nat) : Int)) rfl rfl (by omega) (by omega) (qf (ii (vs)) rfl (cX (qr (args := [ptr cb 0, ii ((dp - 1 : Nat) : Int), ii (vs)]) call110 rfl (yd [_] (ih (dp - 1) (by omega) (vs := vs) hbs (by omega) (hdp := (by first | assumption | rfl | omega | simp)) (hvs := (by first | assumption | rfl | omega | simp)))) ?_)))))))))))
   rintro _ F9 _ le9 ⟨x10, ⟨rfl, hsl3⟩, rfl⟩
   replace hbs := hbs.mono le9
   show XL _ _ _ _ _ _ _ (drawnH 2 x10 (fun t => 1 ≤ t.length ∧ t.length ≤ szB (dp - 1)) :: intsH 2 ov os :: curH .u64 88 cb bsv bs.length :: L)
   refine jY [] rfl (fun t3 hq9 => ?_)
   obtain ⟨q5, q6⟩ := hq9
   show XL _ _ _ _ _ _ _ (intsH 2 x10 t3 :: intsH 2 ov os :: curH .u64 88 cb bsv bs.length :: L)
   refine jz [] _ _ rfl (fun F10 le10 hz3 => ?_)
   replace hbs := hbs.mono le10
   have hf3 : IntsF F10 x10 t3 := intsH.fz (xs := t3) hz3.fz
   refine cX (jD [] _ qd typeInfo2 rfl rfl rfl rfl rfl rfl hf3 (by (try simp only [List.length_append, List.length_nil, List.length_cons, List.length_singleton, List.length_take, List.length_drop]); omega) ?_)
   intro v7 hs3 hn3 hm3
   refine qg (v7) rfl (qb (qa (qf (ii ((k : Int))) rfl (cX (qS (((k + 1 : Nat) : Int)) rfl rfl (by omega) (by omega) (qg (ii (((k + 1 : Nat) : Int))) rfl (qb ?_)))))))
   exact ⟨(k + 1, v7, os ++ t3, F10), _, (qh (qh leG3 le9) le10), rF, ⟨rfl, rfl, rfl, rfl, rfl, ⟨⟩⟩, (sC (sC sR)), ⟨rfl, (qh (qh leG3 le9) le10), (hs3), (by (try dsimp only); omega), (by (try dsimp only); rw [List.length_append]; omega), (by (try dsimp only); rw [List.length_append, show k + 1 - ((2 : Int)).toNat = (k - ((2 : Int)).toNat) + 1 from by omega, Nat.succ_mul]; omega)⟩, (by omega)⟩
  refine jj (qx (qx (qO (qc (qa (qf (ov) rfl (qg (ov) rfl (qb (qw (qv (L' := drawnH 2 ov (fun t => 1 ≤ t.length ∧ t.length ≤ szB dp) :: curH .u64 88 cb bsv bs.length :: L) [ov] (ov) (.tmp rfl .nil) rfl leG3 rF (jE (sC (sC sR)) (Sub.keep (drawnH.of (t := os) (⟨h19, by first | (have h9 := szB_next (d := dp) (by omega); omega) | (have h8 : k - ((2 : Int)).toNat = 0 := (by omega); rw [h8, Nat.zero_mul] at hol; have := szB_pos dp; omega)⟩)) sR)) ?_))))))))))
  exact ⟨_, ⟨rfl, hov⟩, rfl⟩
 refine qz (qc (qa (qf (ii (x8)) rfl (cX (qt (s := 1) [ii (x8)] [ii (0)] [(0, [ii (x8)])] qd qm qJ rfl (by decide) rfl (.cons rfl CellsAre.nil) rfl ?_)))))
 intro v8 hv5
 refine qg (v8) rfl (qb (qc (qc (qa ?_))))
 show XL _ _ _ _ _ _ _ (intsH 2 v8 ([x8] : List Int) :: curH .u64 88 cb bsv bs.length :: L)
 skip
 refine qf (ii (x8)) rfl (qg (ii (x8)) rfl (qb (qL (jn (α := Nat × Value × List Int × FH) (fun xQ => [(0, ptr cb 0), (1, ii (((dp : Nat) : Int))), (2, ii (vs)), (8, xQ.2.1), (9, ii (((xQ.1 : Nat) : Int)))]) (fun xQ => intsH 2 xQ.2.1 xQ.2.2.1 :: curH .u64 88 cb bsv bs.length :: L) (fun xQ F' => xQ.2.2.2 = F' ∧ F ≤ xQ.2.2.2 ∧ (IsSl xQ.2.1) ∧ (x8 ≤ (xQ.1 : Int) ∧ xQ.1 ≤ 2) ∧ (1 ≤ xQ.2.2.1.length) ∧ (xQ.2.2.1.length ≤ 1 + (xQ.1 - ((x8 : Int)).toNat) * szB (dp - 1))) (fun xQ => 2 - xQ.1) (((x8 : Int)).toNat, v8, [x8], F) ⟨rfl, rfl, rfl, rfl, (vI (by omega)), ⟨⟩⟩ (sC (sC sR)) ⟨rfl, FLe.refl _, ((jd hv5)), (by (try dsimp only); omega), (by (try dsimp only); simp), (by (try dsimp only); simp)⟩ ?_))))
 rintro ⟨k, ov, os, G4⟩ rE _ _ ⟨rfl, leG, hov, hk, h19, hol⟩
 show X _ _ _ _ (envs [(0, ptr cb 0), (1, ii (((dp : Nat) : Int))), (2, ii (vs)), (8, ov), (9, ii ((k : Int)))] rE) _ (intsH 2 ov os :: curH .u64 88 cb bsv bs.length :: L)
 replace leG : F ≤ G4 := leG
 dsimp only at hov hk h19 hol
 have hmu : (k - ((x8 : Int)).toNat) * szB (dp - 1) ≤ 2 * szB (dp - 1) := Nat.mul_le_mul_right _ (by omega)
 have leG4 := leG
 replace hbs := hbs.mono leG4
 refine qc (qc (qa (qf (ii ((k : Int))) rfl (cX (qT rfl rfl (qb ?_))))))
 refine qA (p := (k : Int) < 2) rfl (fun h8 => ?_) (fun h8 => ?_)
 ·refine qz (qc (qL (qa (qf (ov) rfl (qf (ptr cb 0) rfl (qf (ii (((dp : Nat) : Int))) rfl (cX (jf (((dp - 1 : Nat) : Int)) rfl rfl (by omega) (by omega) (qf (ii (vs)) rfl (cX (qr (args := [ptr cb 0, ii ((dp - 1 : Nat) : Int), ii (vs)]) call110 rfl (yd [_] (ih (dp - 1) (by omega) (vs := vs) hbs (by omega) (hdp := (by first | assumption | rfl | omega | simp)) (hvs := (by first | assumption | rfl | omega | simp)))) ?_)))))))))))
  rintro _ F11 _ le11 ⟨x12, ⟨rfl, hsl4⟩, rfl⟩
  show XL _ _ _ _ _ _ _ (drawnH 2 x12 (fun t => 1 ≤ t.length ∧ t.length ≤ szB (dp - 1)) :: intsH 2 ov os :: curH .u64 88 cb bsv bs.length :: L)
  refine jY [] rfl (fun t4 hq9 => ?_)
  obtain ⟨q7, q8⟩ := hq9
  show XL _ _ _ _ _ _ _ (intsH 2 x12 t4 :: intsH 2 ov os :: curH .u64 88 cb bsv bs.length :: L)
  refine jz [] _ _ rfl (fun F12 le12 hz4 => ?_)
  have hf4 : IntsF F12 x12 t4 := intsH.fz (xs := t4) hz4.fz
  refine cX (jD [] _ qd typeInfo2 rfl rfl rfl rfl rfl rfl hf4 (by (try simp only [List.length_append, List.length_nil, List.length_cons, List.length_singleton, List.length_take, List.length_drop]); omega) ?_)
  intro v9 hs4 hn4 hm4
  refine qg (v9) rfl (qb (qa (qf (ii ((k : Int))) rfl (cX (qS (((k + 1 : Nat) : Int)) rfl rfl (by omega) (by omega) (qg (ii (((k + 1 : Nat) : Int))) rfl (qb ?_)))))))
  exact ⟨(k + 1, v9, os ++ t4, F12), _, (qh (qh leG4 le11) le12), rF, ⟨rfl, rfl, rfl, rfl, rfl, ⟨⟩⟩, (sC (sC sR)), ⟨rfl, (qh (qh leG4 le11) le12), (hs4), (by (try dsimp only); omega), (by (try dsimp only); rw [List.length_append]; omega), (by (try dsimp only); rw [List.length_append, show k + 1 - ((x8 : Int)).toNat = (k - ((x8 : Int)).toNat) + 1 from by omega, Nat.succ_mul]; omega)⟩, (by omega)⟩
 refine jj (qx (qx (qO (qc (qa (qf (ov) rfl (qg (ov) rfl (qb (qw (qv (L' := drawnH 2 ov (fun t => 1 ≤ t.length ∧ t.length ≤ szB dp) :: curH .u64 88 cb bsv bs.length :: L) [ov] (ov) (.tmp rfl .nil) rfl leG4 rF (jE (sC (sC sR)) (Sub.keep (drawnH.of (t := os) (⟨h19, by first | (have h9 := szB_next (d := dp) (by omega); omega) | (have h8 : k - ((x8 : Int)).toNat = 0 := (by omega); rw [h8, Nat.zero_mul] at hol; have := szB_pos dp; omega)⟩)) sR)) ?_))))))))))
 exact ⟨_, ⟨rfl, hov⟩, rfl⟩

theorem w9Term_spec (dp : Nat) : ∀ {F : FH} {L : List HP} {cb : Nat} {bsv : Value} {bs : List Int} (hbs : BytesF F bsv bs) (hbl : bs.length ≤ 4000000) {vs : Int} (hdp : dp ≤ 4) (hvs : 0 ≤ vs ∧ vs ≤ 24), Does prog 110 [ptr cb 0, ii (((dp : Nat) : Int)), ii (vs)] F (curH .u64 88 cb bsv bs.length :: L) (fun v F' L' => ∃ a : Value, ((a : Value) = v ∧ IsSl a) ∧ drawnH 2 a (fun t => 1 ≤ t.length ∧ t.length ≤ szB dp) :: curH .u64 88 cb bsv bs.length :: L = L') := by
  induction dp using Nat.strongRecOn with
  | _ dp ih =>
    intros
    exact w9Term_spec_step ih (by assumption) (by assumption) (by assumption) (by assumption)

/- spec.l1Into -/
theorem l1Into_spec {F : FH} {L : List HP} {xsv : Value} {xs : List Int} (hxs : IntsF F xsv xs) {n : Int} (hxb : ∀ x ∈ xs, 0 ≤ x ∧ x ≤ 24) (hn : 0 ≤ n ∧ n ≤ 24) (hlx : xs.length ≤ 1000) :
    Does prog 241 [xsv, ii (n)] F (L) (fun v F' L' => ∃ (a : Value), ∃ (os : List Int), (a : Value) = v ∧ (IntsF F' a os) ∧ (os.length ≤ xs.length + 1) ∧ (∀ x ∈ os, 0 ≤ x ∧ x ≤ 24) ∧ L = L') := by
 refine qI func241 rfl rfl rfl (qc (qa (qg (sN) rfl (qb (qc (qa (qg (ii (0)) rfl (qb (qc (qL (jn (α := Nat) (fun k => [(0, xsv), (1, ii (n)), (5, ii ((k : Int)))]) (fun k => L) (fun k F' => F = F' ∧ (k ≤ xs.length)) (fun k => xs.length - k) 0 ⟨rfl, rfl, rfl, ⟨⟩⟩ sR ⟨rfl, (Nat.zero_le _)⟩ ?_)))))))))))
 rintro k rE _ _ ⟨rfl, hk⟩
 show X _ _ _ _ (envs [(0, xsv), (1, ii (n)), (5, ii ((k : Int)))] rE) _ (L)
 refine qc (qc (qa (qf (ii ((k : Int))) rfl (qf (xsv) rfl (cX (qE qd rfl hxs.slv (cX (qT rfl rfl (qf (.bool (decide ((k : Int) < (xs.length : Int)))) rfl ?_)))))))))
 by_cases h1 : (k : Int) < (xs.length : Int)
 ·refine qk (t := 11) rfl (vT h1) (ql (xsv) rfl (qk (t := 11) rfl (vT h1) (ql (ii ((k : Int))) rfl (qk (t := 11) rfl (vT h1) (qu k qd qm rfl rfl rfl hxs.slv (by omega) (Nat.mul_one _) (qk (t := 11) rfl (vT h1) (qi qQ rfl (hxs.rd (by omega)) (qk (t := 11) rfl (vT h1) (ql (ii (n)) rfl (qk (t := 11) rfl (vT h1) (qT rfl rfl (cX (qN (.bool (decide ((xs.getD k 0 : Int) < n))) (vT h1) rfl (qb ?_))))))))))))))
  refine qA (p := (xs.getD k 0 : Int) < n) rfl (fun h2 => ?_) (fun h2 => ?_)
  ·refine qz (qL (qa (qf (ii ((k : Int))) rfl (cX (qS (((k + 1 : Nat) : Int)) rfl rfl (by omega) (by omega) (qg (ii (((k + 1 : Nat) : Int))) rfl (qb ?_)))))))
   exact ⟨k + 1, _, FLe.refl _, rF, ⟨rfl, rfl, rfl, ⟨⟩⟩, sR, ⟨rfl, (by (try dsimp only) <;> omega)⟩, (by omega)⟩
  refine jj (qx (qx (qO (qc (qc (qa (qf (ii ((k : Int))) rfl (qf (xsv) rfl (cX (qE qd rfl hxs.slv (cX (qT rfl rfl (qf (.bool (decide ((k : Int) < (xs.length : Int)))) rfl (qk (t := 25) rfl (vT h1) (ql (xsv) rfl (qk (t := 25) rfl (vT h1) (ql (ii ((k : Int))) rfl (qk (t := 25) rfl (vT h1) (qu k qd qm rfl rfl rfl hxs.slv (by omega) (Nat.mul_one _) ?_)))))))))))))))))))
  refine qk (t := 25) rfl (vT h1) (qi qQ rfl (hxs.rd (by omega)) (qk (t := 25) rfl (vT h1) (ql (ii (n)) rfl (qk (t := 25) rfl (vT h1) (js rfl rfl (cX (qN (.bool (decide ((xs.getD k 0 : Int) = n))) (vT h1) rfl (qb ?_))))))))
  refine qA (p := (xs.getD k 0 : Int) = n) rfl (fun h3 => ?_) (fun h3 => ?_)
  ·refine qc (qa (qf (xsv) rfl (qg (xsv) rfl (qb (qw (qq (qv (L' := L) [xsv] (xsv) (.tmp rfl .nil) rfl rF rF sR ?_)))))))
   exact ⟨_, _, rfl, hxs, by omega, hxb, rfl⟩
  refine qz (qc (qa (qf (xsv) rfl (qf (ii ((k : Int))) rfl (cX (yf 0 k qd qm rfl hxs rfl ⟨_, rfl⟩ (by omega) (by omega) ?_))))))
  intro v1 hv1 hn1
  refine cX (qr (args := [v1]) call193 rfl (l1Copy_spec hv1 (hlt := (by simp; omega))) ?_)
  rintro v2 _ _ _ ⟨rfl, hs1, rfl⟩
  refine qf (ii (n)) rfl (cX (qt (s := 1) [ii (n)] [ii (0)] [(0, [ii (n)])] qd qm qJ rfl (by decide) rfl (.cons rfl CellsAre.nil) rfl ?_))
  intro v3 hv2
  refine cX (ye (u := n) [_] _ qd typeInfo2 rfl rfl rfl rfl rfl rfl (SlV.own [] rfl) (Rd.sl [] rfl rfl) (by (try simp only [List.length_append, List.length_nil, List.length_cons, List.length_singleton, List.length_take, List.length_drop]); omega) ?_)
  intro v4 hs2 hn2
  refine qg (v4) rfl (qb (qc (qa (qf (v4) rfl (qf (xsv) rfl (qf (ii ((k : Int))) rfl (cX (yf k ((xs).length) qd qm rfl hxs ⟨_, rfl⟩ rfl (by omega) (by omega) ?_))))))))
  intro v5 hv3 hn3
  refine cX (jD [_] _ qd typeInfo2 rfl rfl rfl rfl rfl rfl hv3 (by (try simp only [List.length_append, List.length_nil, List.length_cons, List.length_singleton, List.length_take, List.length_drop]); omega) ?_)
  intro v6 hs3 hn4 hm1
  refine qg (v6) rfl (qb (qP [_] _ _ rfl (fun F1 le1 hz1 => ?_)))
  replace hxs := hxs.mono le1
  have hf1 : IntsF F1 v6 (((((((xs.drop 0).take (k - 0))))) ++ [n]) ++ (((xs.drop k).take (((xs).length) - k)))) := intsH.fz (xs := ((((((xs.drop 0).take (k - 0))))) ++ [n]) ++ (((xs.drop k).take (((xs).length) - k)))) hz1.fz
  refine qw (qv (L' := L) [v6] (v6) (.tmp rfl .nil) rfl le1 rF (sD sR) ?_)
  exact ⟨_, _, rfl, hf1, by simp only [List.length_append, List.length_take, List.length_drop, List.length_singleton]; omega, fun x hx => by simp only [List.mem_append, List.mem_singleton] at hx; rcases hx with (hx | hx) | hx <;> first | exact hxb x (List.mem_of_mem_drop (List.mem_of_mem_take hx)) | exact hxb x (List.mem_of_mem_take hx) | exact hxb x (List.mem_of_mem_drop hx) | (rw [hx]; exact hn), rfl⟩
 refine qn (t := 11) rfl (vF h1) (qn (t := 11) rfl (vF h1) (qn (t := 11) rfl (vF h1) (qn (t := 11) rfl (vF h1) (qn (t := 11) rfl (vF h1) (qn (t := 11) rfl (vF h1) (cX (qG (.bool (false)) (vF h1) rfl (qb (jC rfl (jj (qx (qx (qO ?_)))))))))))))
 refine qc (qc (qa (qf (ii ((k : Int))) rfl (qf (xsv) rfl (cX (qE qd rfl hxs.slv (cX (qT rfl rfl (qf (.bool (decide ((k : Int) < (xs.length : Int)))) rfl (qn (t := 25) rfl (vF h1) (qn (t := 25) rfl (vF h1) (qn (t := 25) rfl (vF h1) (qn (t := 25) rfl (vF h1) ?_)))))))))))))
 refine qn (t := 25) rfl (vF h1) (qn (t := 25) rfl (vF h1) (cX (qG (.bool (false)) (vF h1) rfl (qb (jC rfl (qz (qc (qa (qf (xsv) rfl (qf (ii ((k : Int))) rfl (cX (yf 0 k qd qm rfl hxs rfl ⟨_, rfl⟩ (by omega) (by omega) ?_))))))))))))
 intro v7 hv4 hn5
 refine cX (qr (args := [v7]) call193 rfl (l1Copy_spec hv4 (hlt := (by simp; omega))) ?_)
 rintro v8 _ _ _ ⟨rfl, hs4, rfl⟩
 refine qf (ii (n)) rfl (cX (qt (s := 1) [ii (n)] [ii (0)] [(0, [ii (n)])] qd qm qJ rfl (by decide) rfl (.cons rfl CellsAre.nil) rfl ?_))
 intro v9 hv5
 refine cX (ye (u := n) [_] _ qd typeInfo2 rfl rfl rfl rfl rfl rfl (SlV.own [] rfl) (Rd.sl [] rfl rfl) (by (try simp only [List.length_append, List.length_nil, List.length_cons, List.length_singleton, List.length_take, List.length_drop]); omega) ?_)
 intro v10 hs5 hn6
 refine qg (v10) rfl (qb (qc (qa (qf (v10) rfl (qf (xsv) rfl (qf (ii ((k : Int))) rfl (cX (yf k ((xs).length) qd qm rfl hxs ⟨_, rfl⟩ rfl (by omega) (by omega) ?_))))))))
 intro v11 hv6 hn7
 refine cX (jD [_] _ qd typeInfo2 rfl rfl rfl rfl rfl rfl hv6 (by (try simp only [List.length_append, List.length_nil, List.length_cons, List.length_singleton, List.length_take, List.length_drop]); omega) ?_)
 intro v12 hs6 hn8 hm2
 refine qg (v12) rfl (qb (qP [_] _ _ rfl (fun F2 le2 hz2 => ?_)))
 have hf2 : IntsF F2 v12 (((((((xs.drop 0).take (k - 0))))) ++ [n]) ++ (((xs.drop k).take (((xs).length) - k)))) := intsH.fz (xs := ((((((xs.drop 0).take (k - 0))))) ++ [n]) ++ (((xs.drop k).take (((xs).length) - k)))) hz2.fz
 refine qw (qv (L' := L) [v12] (v12) (.tmp rfl .nil) rfl le2 rF (sD sR) ?_)
 exact ⟨_, _, rfl, hf2, by simp only [List.length_append, List.length_take, List.length_drop, List.length_singleton]; omega, fun x hx => by simp only [List.mem_append, List.mem_singleton] at hx; rcases hx with (hx | hx) | hx <;> first | exact hxb x (List.mem_of_mem_drop (List.mem_of_mem_take hx)) | exact hxb x (List.mem_of_mem_take hx) | exact hxb x (List.mem_of_mem_drop hx) | (rw [hx]; exact hn), rfl⟩

/- spec.l2Vars -/
theorem l2Vars_spec {F : FH} {L : List HP} {tv : Value} {t : List Int} (ht : IntsF F tv t) (hlt : t.length ≤ 60) (htg : ∀ k, k < t.length → -24 ≤ t.getD k 0) :
    Does prog 220 [tv] F (L) (fun v F' L' => ∃ (a : Value), ∃ (os : List Int), (a : Value) = v ∧ (IntsF F' a os) ∧ (os.length ≤ t.length) ∧ (∀ x ∈ os, 0 ≤ x ∧ x ≤ 24) ∧ L = L') := by
 refine qI func220 rfl rfl rfl (qc (qa (qg (sN) rfl (qb (qc (qa (cX (qt (s := 1) [] [ii (0)] [] qd qm qJ rfl (by decide) rfl CellsAre.nil rfl ?_))))))))
 intro v1 hv1
 refine qg (v1) rfl (qb (qc (qc (qa ?_))))
 show XL _ _ _ _ _ _ _ (intsH 2 v1 ([] : List Int) :: L)
 refine jz [] _ _ rfl (fun F1 le1 hz1 => ?_)
 replace ht := ht.mono le1
 have hf1 : IntsF F1 v1 ([]) := intsH.fz (xs := []) hz1.fz
 skip
 refine qg (ii (0)) rfl (qb (qL (jn (α := Nat × Value × List Int × FH) (fun xQ => [(0, tv), (3, xQ.2.1), (4, ii (((xQ.1 : Nat) : Int)))]) (fun xQ => L) (fun xQ F' => xQ.2.2.2 = F' ∧ F1 ≤ xQ.2.2.2 ∧ (IntsF xQ.2.2.2 xQ.2.1 xQ.2.2.1) ∧ (xQ.1 ≤ t.length) ∧ (xQ.2.2.1.length ≤ xQ.1) ∧ (∀ x ∈ xQ.2.2.1, 0 ≤ x ∧ x ≤ 24)) (fun xQ => t.length - xQ.1) (0, v1, [], F1) ⟨rfl, rfl, rfl, ⟨⟩⟩ sR ⟨rfl, FLe.refl _, (hf1), (Nat.zero_le _), (by simp), (fun x hx => by simp at hx)⟩ ?_)))
 rintro ⟨k, ov, os, G1⟩ rE _ _ ⟨rfl, leG, hov, hk, hol, hob⟩
 show X _ _ _ _ (envs [(0, tv), (3, ov), (4, ii ((k : Int)))] rE) _ (L)
 replace leG : F1 ≤ G1 := leG
 dsimp only at hov hk hol hob
 have htk := htg k
 have leG1 := leG
 replace ht := ht.mono leG1
 refine qc (qc (qa (qf (ii ((k : Int))) rfl (qf (tv) rfl (cX (qE qd rfl ht.slv (cX (qT rfl rfl (qb ?_)))))))))
 refine qA (p := (k : Int) < (t.length : Int)) rfl (fun h1 => ?_) (fun h1 => ?_)
 ·refine qz (qc (qL (qc (qa (qf (tv) rfl (qf (ii ((k : Int))) rfl (cX (qu k qd qm rfl rfl rfl ht.slv (by omega) (Nat.mul_one _) (cX (qi qQ rfl (ht.rd (by omega)) (cX (qT rfl rfl (qb ?_)))))))))))))
  refine qA (p := (t.getD k 0 : Int) < 0) rfl (fun h2 => ?_) (fun h2 => ?_)
  ·refine qa (qf (ov) rfl (qf (tv) rfl (qf (ii ((k : Int))) rfl (cX (qu k qd qm rfl rfl rfl ht.slv (by omega) (Nat.mul_one _) (cX (qi qQ rfl (ht.rd (by omega)) (cX (jf ((-1) - (t.getD k 0)) rfl rfl (by omega) (by omega) (cX (qr (args := [ov, ii ((-1) - (t.getD k 0))]) call241 rfl (l1Into_spec (n := (-1) - (t.getD k 0)) hov (hxb := (hob)) (hn := (by omega)) (hlx := (by omega))) ?_)))))))))))
   rintro _ F2 _ le2 ⟨x1, x2, rfl, hr1, hr2, hr3, rfl⟩
   replace hov := hov.mono le2
   refine qg (x1) rfl (qb (qa (qf (ii ((k : Int))) rfl (cX (qS (((k + 1 : Nat) : Int)) rfl rfl (by omega) (by omega) (qg (ii (((k + 1 : Nat) : Int))) rfl (qb ?_)))))))
   exact ⟨(k + 1, x1, x2, F2), _, (qh leG1 le2), rF, ⟨rfl, rfl, rfl, ⟨⟩⟩, sR, ⟨rfl, (qh leG1 le2), (hr1), (by (try dsimp only) <;> omega), (by (try dsimp only); omega), (hr3)⟩, (by omega)⟩
  refine qz (qa (qf (ii ((k : Int))) rfl (cX (qS (((k + 1 : Nat) : Int)) rfl rfl (by omega) (by omega) (qg (ii (((k + 1 : Nat) : Int))) rfl (qb ?_))))))
  exact ⟨(k + 1, ov, os, G1), _, leG1, rF, ⟨rfl, rfl, rfl, ⟨⟩⟩, sR, ⟨rfl, leG1, (hov), (by (try dsimp only) <;> omega), (by (try dsimp only); omega), (hob)⟩, (by omega)⟩
 refine jj (qx (qx (qO (qc (qa (qf (ov) rfl (qg (ov) rfl (qb (qw (qv (L' := L) [ov] (ov) (.tmp rfl .nil) rfl (qh le1 leG1) rF sR ?_))))))))))
 exact ⟨_, _, rfl, hov, by omega, hob, rfl⟩

/- spec.VarsOf -/
theorem VarsOf_spec {F : FH} {L : List HP} {arv : Value} {ar : List Int} (har : IntsF F arv ar) {tv : Value} {t : List Int} (ht : IntsF F tv t) (hla : ar.length ≤ 4000000) (hlt : t.length ≤ 4000000) :
    Does prog 173 [.agg #[arv], tv] F (L) (fun v F' L' => ∃ (a : Value), ∃ (os : List Int), (a : Value) = v ∧ (IntsF F' a os) ∧ (os.length ≤ t.length) ∧ (∀ x ∈ os, 0 ≤ x ∧ x ≤ 24) ∧ L = L') := by
 refine qI func173 rfl rfl rfl (qc (qa (cX (jc [arv] rfl rfl ?_))))
 intro b1
 refine qg (sN) rfl (qb (qc (qc (qa (cX (qy [arv] ja qF rfl rfl (Rd.ownN [] rfl rfl) (qf (tv) rfl (cX (qr (args := [.agg #[arv], tv]) call81 rfl (sTermOk_spec har ht (hla := (by first | assumption | rfl | omega | simp)) (hlt := (by first | assumption | rfl | omega | simp))) ?_)))))))))
 rintro _ _ _ _ ⟨rfl, rfl, rfl⟩
 refine cX (jg rfl (qb ?_))
 refine jO (t := !(termOk ar t)) rfl (fun h1 => ?_) (fun h1 => ?_)
 ·refine qc (qa (cX (qt (s := 1) [] [ii (0)] [] qd qm qJ rfl (by decide) rfl CellsAre.nil rfl ?_)))
  intro v1 hv1
  refine qg (v1) rfl (qb ?_)
  show X _ _ _ _ _ _ (intsH 2 v1 ([] : List Int) :: cellsH b1 [arv] 29 :: L)
  refine qP [] _ _ rfl (fun F1 le1 hz1 => ?_)
  replace ht := ht.mono le1
  have hf1 : IntsF F1 v1 ([]) := intsH.fz (xs := []) hz1.fz
  refine qw (qq (qv (L' := L) [v1] (v1) (.tmp rfl .nil) rfl le1 rF (sD sR) ?_))
  exact ⟨_, [], rfl, hf1, by simp, fun x hx => by simp at hx, rfl⟩
 have ho : termOk ar t = true := by simpa using h1
 have htl := termOk_len ho
 have htg := fun k (hk : k < t.length) => termOk_ge ho hk
 refine qz (qc (qa (qf (tv) rfl (cX (qr (args := [tv]) call220 rfl (l2Vars_spec ht (hlt := (by first | assumption | rfl | omega | simp)) (htg := (by first | assumption | rfl | omega | simp))) ?_)))))
 rintro _ F2 _ le2 ⟨x1, x2, rfl, hr1, hr2, hr3, rfl⟩
 refine qg (x1) rfl (qb (qw (qv (L' := L) [x1] (x1) (.tmp rfl .nil) rfl le2 rF (sD sR) ?_)))
 exact ⟨_, _, rfl, hr1, hr2, hr3, rfl⟩

/- laws.w9Rule -/
set_option maxHeartbeats 1000000 in
set_option maxRecDepth 20000 in
theorem w9Rule_spec {F : FH} {L : List HP} {cb : Nat} {bsv : Value} {bs : List Int} (hbs : BytesF F bsv bs) (hbl : bs.length ≤ 4000000) :
    Does prog 108 [ptr cb 0] F (curH .u64 88 cb bsv bs.length :: L) (fun v F' L' => (∃ (a : Value), ∃ (b : Value), (.agg #[a, b] : Value) = v ∧ (SomesF F' a (fun u => u.length ≤ 2000)) ∧ (SomesF F' b (fun w => w.length ≤ 2000))) ∧ curH .u64 88 cb bsv bs.length :: L = L') := by
 refine qI func108 rfl rfl rfl ?_
 have hz9 : szB 1 = 3 := rfl
 have hz8 : szB 2 = 7 := rfl
 have hz7 : szB 3 = 15 := rfl
 refine qc (qa (cX (jo [sN, sN] je rfl ?_)))
 intro b1
 refine qb (qc (qa (cX (qt (s := 1) [ii (1)] [ii (0)] [(0, [ii (1)])] qd qm qJ rfl (by decide) rfl (.cons rfl CellsAre.nil) rfl ?_))))
 intro v1 hv1
 refine qf (ptr cb 0) rfl (cX (qr (args := [ptr cb 0, ii ((2 : Nat) : Int), ii (2)]) call110 rfl (yd [_, _] (w9Term_spec 2 (vs := 2) hbs (by omega) (hdp := (by first | assumption | rfl | omega | simp)) (hvs := (by first | assumption | rfl | omega | simp)))) ?_))
 rintro _ F1 _ le1 ⟨x2, ⟨rfl, hsl1⟩, rfl⟩
 replace hbs := hbs.mono le1
 show XL _ _ _ _ _ _ _ (drawnH 2 x2 (fun t => 1 ≤ t.length ∧ t.length ≤ szB 2) :: slH 2 1 v1 1 [ii (1)] :: cellsH b1 [sN, sN] 72 :: curH .u64 88 cb bsv bs.length :: L)
 refine jY [] rfl (fun t1 hq9 => ?_)
 obtain ⟨q1, q2⟩ := hq9
 show XL _ _ _ _ _ _ _ (intsH 2 x2 t1 :: slH 2 1 v1 1 [ii (1)] :: cellsH b1 [sN, sN] 72 :: curH .u64 88 cb bsv bs.length :: L)
 show XL _ _ _ _ _ _ _ (intsH 2 x2 t1 :: intsH 2 v1 ([1] : List Int) :: cellsH b1 [sN, sN] 72 :: curH .u64 88 cb bsv bs.length :: L)
 refine jz [] _ _ rfl (fun F2 le2 hz1 => ?_)
 replace hbs := hbs.mono le2
 have hf1 : IntsF F2 x2 t1 := intsH.fz (xs := t1) hz1.fz
 refine cX (jD [] _ qd typeInfo2 rfl rfl rfl rfl rfl rfl hf1 (by (try simp only [List.length_append, List.length_nil, List.length_cons, List.length_singleton, List.length_take, List.length_drop]); omega) ?_)
 intro v2 hs1 hn1 hm1
 refine qg (v2) rfl (qb (qc (qc (qa (qf (ptr cb 0) rfl (cX (qr (args := [ptr cb 0, ii (2)]) call14 rfl (jN [_, _] (below_spec (n := 2) hbs (by omega) (hn := (by first | assumption | rfl | omega | simp)))) ?_)))))))
 rintro _ _ _ _ ⟨⟨rfl, x3, rfl, hr1⟩, rfl⟩
 show XL _ _ _ _ _ _ _ (intsH 2 v2 (([1]) ++ t1) :: cellsH b1 [sN, sN] 72 :: curH .u64 88 cb bsv bs.length :: L)
 refine cX (js rfl rfl (qb ?_))
 refine qA (p := (x3 : Int) = 0) rfl (fun h1 => ?_) (fun h1 => ?_)
 ·refine qa (cX (qt (s := 1) [ii (0)] [ii (0)] [(0, [ii (0)])] qd qm qJ rfl (by decide) rfl (.cons rfl CellsAre.nil) rfl ?_))
  intro v3 hv2
  refine qf (ptr cb 0) rfl (cX (qr (args := [ptr cb 0, ii ((2 : Nat) : Int), ii (2)]) call110 rfl (yd [_, _, _] (w9Term_spec 2 (vs := 2) hbs (by omega) (hdp := (by first | assumption | rfl | omega | simp)) (hvs := (by first | assumption | rfl | omega | simp)))) ?_))
  rintro _ F4 _ le4 ⟨x5, ⟨rfl, hsl2⟩, rfl⟩
  replace hbs := hbs.mono le4
  show XL _ _ _ _ _ _ _ (drawnH 2 x5 (fun t => 1 ≤ t.length ∧ t.length ≤ szB 2) :: slH 2 1 v3 1 [ii (0)] :: intsH 2 v2 (([1]) ++ t1) :: cellsH b1 [sN, sN] 72 :: curH .u64 88 cb bsv bs.length :: L)
  refine jY [] rfl (fun t2 hq9 => ?_)
  obtain ⟨q3, q4⟩ := hq9
  show XL _ _ _ _ _ _ _ (intsH 2 x5 t2 :: slH 2 1 v3 1 [ii (0)] :: intsH 2 v2 (([1]) ++ t1) :: cellsH b1 [sN, sN] 72 :: curH .u64 88 cb bsv bs.length :: L)
  show XL _ _ _ _ _ _ _ (intsH 2 x5 t2 :: intsH 2 v3 ([0] : List Int) :: intsH 2 v2 (([1]) ++ t1) :: cellsH b1 [sN, sN] 72 :: curH .u64 88 cb bsv bs.length :: L)
  refine jz [] _ _ rfl (fun F5 le5 hz2 => ?_)
  replace hbs := hbs.mono le5
  have hf2 : IntsF F5 x5 t2 := intsH.fz (xs := t2) hz2.fz
  refine cX (jD [] _ qd typeInfo2 rfl rfl rfl rfl rfl rfl hf2 (by (try simp only [List.length_append, List.length_nil, List.length_cons, List.length_singleton, List.length_take, List.length_drop]); omega) ?_)
  intro v4 hs2 hn2 hm2
  refine qf (ptr cb 0) rfl (cX (qr (args := [ptr cb 0, ii ((1 : Nat) : Int), ii (2)]) call110 rfl (yd [_, _, _] (w9Term_spec 1 (vs := 2) hbs (by omega) (hdp := (by first | assumption | rfl | omega | simp)) (hvs := (by first | assumption | rfl | omega | simp)))) ?_))
  rintro _ F6 _ le6 ⟨x7, ⟨rfl, hsl3⟩, rfl⟩
  replace hbs := hbs.mono le6
  show XL _ _ _ _ _ _ _ (drawnH 2 x7 (fun t => 1 ≤ t.length ∧ t.length ≤ szB 1) :: intsH 2 v4 (([0]) ++ t2) :: intsH 2 v2 (([1]) ++ t1) :: cellsH b1 [sN, sN] 72 :: curH .u64 88 cb bsv bs.length :: L)
  refine jY [] rfl (fun t3 hq9 => ?_)
  obtain ⟨q5, q6⟩ := hq9
  show XL _ _ _ _ _ _ _ (intsH 2 x7 t3 :: intsH 2 v4 (([0]) ++ t2) :: intsH 2 v2 (([1]) ++ t1) :: cellsH b1 [sN, sN] 72 :: curH .u64 88 cb bsv bs.length :: L)
  refine jz [] _ _ rfl (fun F7 le7 hz3 => ?_)
  replace hbs := hbs.mono le7
  have hf3 : IntsF F7 x7 t3 := intsH.fz (xs := t3) hz3.fz
  refine cX (jD [] _ qd typeInfo2 rfl rfl rfl rfl rfl rfl hf3 (by (try simp only [List.length_append, List.length_nil, List.length_cons, List.length_singleton, List.length_take, List.length_drop]); omega) ?_)
  intro v5 hs3 hn3 hm3
  refine qg (v5) rfl (qb (qc (qa (cX (qr (args := []) call106 rfl (w9Sig_spec ) ?_)))))
  rintro _ F8 _ le8 ⟨x8, rfl, hr2, rfl⟩
  replace hbs := hbs.mono le8
  refine qf (v5) rfl (jz [] _ _ rfl (fun F9 le9 hz4 => ?_))
  replace hbs := hbs.mono le9
  replace hr2 := hr2.mono le9
  have hf4 : IntsF F9 v5 ((([0]) ++ t2) ++ t3) := intsH.fz (xs := (([0]) ++ t2) ++ t3) hz4.fz
  refine cX (qr (args := [.agg #[x8], v5]) call173 rfl (VarsOf_spec hr2 hf4 (hla := (by decide)) (hlt := (by (try simp only [List.length_append, List.length_cons, List.length_nil, List.length_singleton]); omega))) ?_)
  rintro _ F10 _ le10 ⟨x9, x10, rfl, hr3, hr4, hr5, rfl⟩
  replace hbs := hbs.mono le10
  replace hf4 := hf4.mono le10
  refine qg (x9) rfl ?_
  have hvb : ∀ i, i < x10.length → 0 ≤ x10.getD i 0 ∧ x10.getD i 0 ≤ 24 := fun i hi => hr5 _ (by rw [List.getD_eq_getElem?_getD, List.getElem?_eq_getElem hi]; exact List.getElem_mem hi)
  have hvl : x10.length ≤ 100 := by have h9 := hr4; (try simp only [List.length_append, List.length_cons, List.length_nil, List.length_singleton] at h9); omega
  refine qb (qc (qa (qf (ptr cb 0) rfl (cX (qr (args := [ptr cb 0, ii ((3 : Nat) : Int), ii (2)]) call110 rfl (yd [_, _] (w9Term_spec 3 (vs := 2) hbs (by omega) (hdp := (by first | assumption | rfl | omega | simp)) (hvs := (by first | assumption | rfl | omega | simp)))) ?_)))))
  rintro _ F11 _ le11 ⟨x12, ⟨rfl, hsl4⟩, rfl⟩
  replace hbs := hbs.mono le11
  replace hf4 := hf4.mono le11
  replace hr3 := hr3.mono le11
  show XL _ _ _ _ _ _ _ (drawnH 2 x12 (fun t => 1 ≤ t.length ∧ t.length ≤ szB 3) :: intsH 2 v2 (([1]) ++ t1) :: cellsH b1 [sN, sN] 72 :: curH .u64 88 cb bsv bs.length :: L)
  refine jY [] rfl (fun t4 hq9 => ?_)
  obtain ⟨q7, q8⟩ := hq9
  show XL _ _ _ _ _ _ _ (intsH 2 x12 t4 :: intsH 2 v2 (([1]) ++ t1) :: cellsH b1 [sN, sN] 72 :: curH .u64 88 cb bsv bs.length :: L)
  refine qg (x12) rfl (qb (qc (qc (qa (qg (ii (0)) rfl (qb (qL (jn (α := Nat × List Int × FH) (fun xQ => [(0, ptr cb 0), (2, ptr b1 0), (3, v5), (4, x9), (5, x12), (6, ii (((xQ.1 : Nat) : Int)))]) (fun xQ => intsH 2 x12 xQ.2.1 :: intsH 2 v2 (([1]) ++ t1) :: cellsH b1 [sN, sN] 72 :: curH .u64 88 cb bsv bs.length :: L) (fun xQ F' => xQ.2.2 = F' ∧ F11 ≤ xQ.2.2 ∧ (xQ.1 ≤ xQ.2.1.length) ∧ (xQ.2.1.length = t4.length)) (fun xQ => xQ.2.1.length - xQ.1) (0, t4, F11) ⟨rfl, rfl, rfl, rfl, rfl, rfl, ⟨⟩⟩ (sC (sC (sC (sC sR)))) ⟨rfl, FLe.refl _, (Nat.zero_le _), (rfl)⟩ ?_))))))))
  rintro ⟨k, rr, G1⟩ rE _ _ ⟨rfl, leG, hk, hrl⟩
  show X _ _ _ _ (envs [(0, ptr cb 0), (2, ptr b1 0), (3, v5), (4, x9), (5, x12), (6, ii ((k : Int)))] rE) _ (intsH 2 x12 rr :: intsH 2 v2 (([1]) ++ t1) :: cellsH b1 [sN, sN] 72 :: curH .u64 88 cb bsv bs.length :: L)
  replace leG : F11 ≤ G1 := leG
  dsimp only at hk hrl
  have leG1 := leG
  replace hbs := hbs.mono leG1
  replace hf4 := hf4.mono leG1
  replace hr3 := hr3.mono leG1
  refine qc (qc (qa (qf (ii ((k : Int))) rfl (qf (x12) rfl (cX (qE qd rfl (intsH.slv [] rfl) (cX (qT rfl rfl (qb ?_)))))))))
  refine qA (p := (k : Int) < (rr.length : Int)) rfl (fun h2 => ?_) (fun h2 => ?_)
  ·refine qz (qc (qL (qc (qa (qf (x12) rfl (qf (ii ((k : Int))) rfl (cX (qu k qd qm rfl rfl rfl (intsH.slv [] rfl) (by omega) (Nat.mul_one _) (cX (qi qQ rfl (intsH.rd [] rfl (by omega)) (cX (qT rfl rfl (qf (.bool (decide ((rr.getD k 0 : Int) < 0))) rfl ?_)))))))))))))
   by_cases h3 : (rr.getD k 0 : Int) < 0
   ·refine qk (t := 37) rfl (vT h3) (ql (x9) rfl (qk (t := 37) rfl (vT h3) (qE qd rfl hr3.slv (qk (t := 37) rfl (vT h3) (js rfl rfl (cX (qN (.bool (decide (((x10.length : Int) : Int) = 0))) (vT h3) rfl (qb ?_))))))))
    refine qA (p := ((x10.length : Int) : Int) = 0) rfl (fun h4 => ?_) (fun h4 => ?_)
    ·refine qa (qf (x12) rfl (qf (ii ((k : Int))) rfl (cX (qu k qd qm rfl rfl rfl (intsH.slv [] rfl) (by omega) (Nat.mul_one _) (cX (intsH.storeX (i := k) (v := x12) [] _ (rr.set k 2) qm rfl rfl rfl (by omega) rfl (qb (qa (qf (ii ((k : Int))) rfl (cX (qS (((k + 1 : Nat) : Int)) rfl rfl (by omega) (by omega) (qg (ii (((k + 1 : Nat) : Int))) rfl (qb ?_)))))))))))))
     exact ⟨(k + 1, (rr.set k 2), G1), _, leG1, rF, ⟨rfl, rfl, rfl, rfl, rfl, rfl, ⟨⟩⟩, (sC (sC (sC (sC sR)))), ⟨rfl, leG1, (by (try dsimp only); (try rw [List.length_set]); omega), (by (try dsimp only); (try rw [List.length_set]); omega)⟩, (by (try dsimp only); (try rw [List.length_set]); omega)⟩
    refine qc (qa (qf (x12) rfl (qf (ii ((k : Int))) rfl (cX (qu k qd qm rfl rfl rfl (intsH.slv [] rfl) (by omega) (Nat.mul_one _) (cX (qi qQ rfl (intsH.rd [] rfl (by omega)) (cX (qT rfl rfl (qb (jq (vT h3) (qa (qf (x12) rfl ?_)))))))))))))
    refine qf (ii ((k : Int))) rfl (qf (x9) rfl (qf (ptr cb 0) rfl (qf (x9) rfl (cX (qE qd rfl hr3.slv (cX (qr (args := [ptr cb 0, ii ((x10.length : Int))]) call14 rfl (jN [_, _, _] (below_spec (n := (x10.length : Int)) hbs (by omega) (hn := (by first | assumption | rfl | omega | simp)))) ?_)))))))
    rintro _ _ _ _ ⟨⟨rfl, x13, rfl, hr6⟩, rfl⟩
    show XL _ _ _ _ _ _ _ (intsH 2 x12 rr :: intsH 2 v2 (([1]) ++ t1) :: cellsH b1 [sN, sN] 72 :: curH .u64 88 cb bsv bs.length :: L)
    have hv9 := hvb (x13).toNat (by omega)
    refine cX (qu ((x13).toNat) qd qm rfl rfl (by omega) hr3.slv (by omega) (Nat.mul_one _) (cX (qi qQ rfl (hr3.rd (by omega)) (cX (jf ((-1) - (x10.getD ((x13).toNat) 0)) rfl rfl (by omega) (by omega) (cX (qu k qd qm rfl rfl rfl (intsH.slv [] rfl) (by omega) (Nat.mul_one _) (cX (intsH.storeX (i := k) (v := x12) [] _ (rr.set k ((-1) - (x10.getD ((x13).toNat) 0))) qm rfl rfl rfl (by omega) rfl (qb (qa (qf (ii ((k : Int))) rfl (cX (qS (((k + 1 : Nat) : Int)) rfl rfl (by omega) (by omega) (qg (ii (((k + 1 : Nat) : Int))) rfl (qb ?_))))))))))))))))
    exact ⟨(k + 1, (rr.set k ((-1) - (x10.getD ((x13).toNat) 0))), G1), _, leG1, rF, ⟨rfl, rfl, rfl, rfl, rfl, rfl, ⟨⟩⟩, (sC (sC (sC (sC sR)))), ⟨rfl, leG1, (by (try dsimp only); (try rw [List.length_set]); omega), (by (try dsimp only); (try rw [List.length_set]); omega)⟩, (by (try dsimp only); (try rw [List.length_set]); omega)⟩
   refine qn (t := 37) rfl (vF h3) (qn (t := 37) rfl (vF h3) (qn (t := 37) rfl (vF h3) (cX (qG (.bool (false)) (vF h3) rfl (qb (jC rfl (qc (qa (qf (x12) rfl (qf (ii ((k : Int))) rfl (cX (qu k qd qm rfl rfl rfl (intsH.slv [] rfl) (by omega) (Nat.mul_one _) ?_))))))))))))
   refine cX (qi qQ rfl (intsH.rd [] rfl (by omega)) (cX (qT rfl rfl (qb (jC (vF h3) (qz (qa (qf (ii ((k : Int))) rfl (cX (qS (((k + 1 : Nat) : Int)) rfl rfl (by omega) (by omega) (qg (ii (((k + 1 : Nat) : Int))) rfl (qb ?_))))))))))))
   exact ⟨(k + 1, rr, G1), _, leG1, rF, ⟨rfl, rfl, rfl, rfl, rfl, rfl, ⟨⟩⟩, (sC (sC (sC (sC sR)))), ⟨rfl, leG1, (by (try dsimp only); (try rw [List.length_set]); omega), (by (try dsimp only); (try rw [List.length_set]); omega)⟩, (by (try dsimp only); (try rw [List.length_set]); omega)⟩
  refine jj (qx (qx (qO (qc (qa (qf (v5) rfl (qf (x12) rfl (cX (qY [v5, x12] [sN, sN] [(0, 1), (1, 1)] [(0, [v5]), (1, [x12])] qM je rfl (.cons rfl qp (.cons rfl qp PlacesAre.nil)) rfl (.cons (cells_one (qD hf4)) (.cons (cells_one hsl4) CellsAre.nil)) (cX (qV [_, _] _ [v5, x12] jm rfl rfl rfl (qs (jb (qD hf4)) (qs (jb hsl4) qZ)) rfl rfl rfl (qb (qP [] _ _ rfl (fun F13 le13 hz5 => ?_))))))))))))))
  replace hbs := hbs.mono le13
  replace hf4 := hf4.mono le13
  have hf5 : IntsF F13 x12 rr := intsH.fz (xs := rr) hz5.fz
  refine qw (qv (L' := curH .u64 88 cb bsv bs.length :: L) [.agg #[v5, x12]] (.agg #[v5, x12]) (.cell rfl (ju [v5, x12] isAgg72 jm rfl (Rd.ownN [_] rfl rfl)) .nil) rfl (qh (qh (qh (qh (qh (qh (qh (qh (qh (qh (qh le1 le2) le4) le5) le6) le7) le8) le9) le10) le11) leG1) le13) rF (sD (sD (sC sR))) ?_)
  exact ⟨⟨_, _, rfl, ⟨_, hf4, by (try simp only [List.length_append, List.length_cons, List.length_nil, List.length_singleton]); omega⟩, ⟨_, hf5, by (try simp only [List.length_append, List.length_cons, List.length_nil, List.length_singleton]); omega⟩⟩, rfl⟩
 refine qz (qc (qa (cX (qr (args := []) call106 rfl (w9Sig_spec ) ?_))))
 rintro _ F14 _ le14 ⟨x14, rfl, hr7, rfl⟩
 replace hbs := hbs.mono le14
 refine qf (v2) rfl (jz [] _ _ rfl (fun F15 le15 hz6 => ?_))
 replace hbs := hbs.mono le15
 replace hr7 := hr7.mono le15
 have hf6 : IntsF F15 v2 (([1]) ++ t1) := intsH.fz (xs := ([1]) ++ t1) hz6.fz
 refine cX (qr (args := [.agg #[x14], v2]) call173 rfl (VarsOf_spec hr7 hf6 (hla := (by decide)) (hlt := (by (try simp only [List.length_append, List.length_cons, List.length_nil, List.length_singleton]); omega))) ?_)
 rintro _ F16 _ le16 ⟨x15, x16, rfl, hr8, hr9, hr10, rfl⟩
 replace hbs := hbs.mono le16
 replace hf6 := hf6.mono le16
 refine qg (x15) rfl ?_
 have hvb : ∀ i, i < x16.length → 0 ≤ x16.getD i 0 ∧ x16.getD i 0 ≤ 24 := fun i hi => hr10 _ (by rw [List.getD_eq_getElem?_getD, List.getElem?_eq_getElem hi]; exact List.getElem_mem hi)
 have hvl : x16.length ≤ 100 := by have h9 := hr9; (try simp only [List.length_append, List.length_cons, List.length_nil, List.length_singleton] at h9); omega
 refine qb (qc (qa (qf (ptr cb 0) rfl (cX (qr (args := [ptr cb 0, ii ((3 : Nat) : Int), ii (2)]) call110 rfl (yd [_] (w9Term_spec 3 (vs := 2) hbs (by omega) (hdp := (by first | assumption | rfl | omega | simp)) (hvs := (by first | assumption | rfl | omega | simp)))) ?_)))))
 rintro _ F17 _ le17 ⟨x18, ⟨rfl, hsl5⟩, rfl⟩
 replace hbs := hbs.mono le17
 replace hf6 := hf6.mono le17
 replace hr8 := hr8.mono le17
 show XL _ _ _ _ _ _ _ (drawnH 2 x18 (fun t => 1 ≤ t.length ∧ t.length ≤ szB 3) :: cellsH b1 [sN, sN] 72 :: curH .u64 88 cb bsv bs.length :: L)
 refine jY [] rfl (fun t5 hq9 => ?_)
 obtain ⟨q9, q10⟩ := hq9
 show XL _ _ _ _ _ _ _ (intsH 2 x18 t5 :: cellsH b1 [sN, sN] 72 :: curH .u64 88 cb bsv bs.length :: L)
 refine qg (x18) rfl (qb (qc (qc (qa (qg (ii (0)) rfl (qb (qL (jn (α := Nat × List Int × FH) (fun xQ => [(0, ptr cb 0), (2, ptr b1 0), (3, v2), (4, x15), (5, x18), (6, ii (((xQ.1 : Nat) : Int)))]) (fun xQ => intsH 2 x18 xQ.2.1 :: cellsH b1 [sN, sN] 72 :: curH .u64 88 cb bsv bs.length :: L) (fun xQ F' => xQ.2.2 = F' ∧ F17 ≤ xQ.2.2 ∧ (xQ.1 ≤ xQ.2.1.length) ∧ (xQ.2.1.length = t5.length)) (fun xQ => xQ.2.1.length - xQ.1) (0, t5, F17) ⟨rfl, rfl, rfl, rfl, rfl, rfl, ⟨⟩⟩ (sC (sC (sC sR))) ⟨rfl, FLe.refl _, (Nat.zero_le _), (rfl)⟩ ?_))))))))
 rintro ⟨k, rr, G2⟩ rE _ _ ⟨rfl, leG, hk, hrl⟩
 show X _ _ _ _ (envs [(0, ptr cb 0), (2, ptr b1 0), (3, v2), (4, x15), (5, x18), (6, ii ((k : Int)))] rE) _ (intsH 2 x18 rr :: cellsH b1 [sN, sN] 72 :: curH .u64 88 cb bsv bs.length :: L)
 replace leG : F17 ≤ G2 := leG
 dsimp only at hk hrl
 have leG2 := leG
 replace hbs := hbs.mono leG2
 replace hf6 := hf6.mono leG2
 replace hr8 := hr8.mono leG2
 refine qc (qc (qa (qf (ii ((k : Int))) rfl (qf (x18) rfl (cX (qE qd rfl (intsH.slv [] rfl) (cX (qT rfl rfl (qb ?_)))))))))
 refine qA (p := (k : Int) < (rr.length : Int)) rfl (fun h5 => ?_) (fun h5 => ?_)
 ·refine qz (qc (qL (qc (qa (qf (x18) rfl (qf (ii ((k : Int))) rfl (cX (qu k qd qm rfl rfl rfl (intsH.slv [] rfl) (by omega) (Nat.mul_one _) (cX (qi qQ rfl (intsH.rd [] rfl (by omega)) (cX (qT rfl rfl (qf (.bool (decide ((rr.getD k 0 : Int) < 0))) rfl ?_)))))))))))))
  by_cases h6 : (rr.getD k 0 : Int) < 0
  ·refine qk (t := 37) rfl (vT h6) (ql (x15) rfl (qk (t := 37) rfl (vT h6) (qE qd rfl hr8.slv (qk (t := 37) rfl (vT h6) (js rfl rfl (cX (qN (.bool (decide (((x16.length : Int) : Int) = 0))) (vT h6) rfl (qb ?_))))))))
   refine qA (p := ((x16.length : Int) : Int) = 0) rfl (fun h7 => ?_) (fun h7 => ?_)
   ·refine qa (qf (x18) rfl (qf (ii ((k : Int))) rfl (cX (qu k qd qm rfl rfl rfl (intsH.slv [] rfl) (by omega) (Nat.mul_one _) (cX (intsH.storeX (i := k) (v := x18) [] _ (rr.set k 2) qm rfl rfl rfl (by omega) rfl (qb (qa (qf (ii ((k : Int))) rfl (cX (qS (((k + 1 : Nat) : Int)) rfl rfl (by omega) (by omega) (qg (ii (((k + 1 : Nat) : Int))) rfl (qb ?_)))))))))))))
    exact ⟨(k + 1, (rr.set k 2), G2), _, leG2, rF, ⟨rfl, rfl, rfl, rfl, rfl, rfl, ⟨⟩⟩, (sC (sC (sC sR))), ⟨rfl, leG2, (by (try dsimp only); (try rw [List.length_set]); omega), (by (try dsimp only); (try rw [List.length_set]); omega)⟩, (by (try dsimp only); (try rw [List.length_set]); omega)⟩
   refine qc (qa (qf (x18) rfl (qf (ii ((k : Int))) rfl (cX (qu k qd qm rfl rfl rfl (intsH.slv [] rfl) (by omega) (Nat.mul_one _) (cX (qi qQ rfl (intsH.rd [] rfl (by omega)) (cX (qT rfl rfl (qb (jq (vT h6) (qa (qf (x18) rfl ?_)))))))))))))
   refine qf (ii ((k : Int))) rfl (qf (x15) rfl (qf (ptr cb 0) rfl (qf (x15) rfl (cX (qE qd rfl hr8.slv (cX (qr (args := [ptr cb 0, ii ((x16.length : Int))]) call14 rfl (jN [_, _] (below_spec (n := (x16.length : Int)) hbs (by omega) (hn := (by first | assumption | rfl | omega | simp)))) ?_)))))))
   rintro _ _ _ _ ⟨⟨rfl, x19, rfl, hr11⟩, rfl⟩
   show XL _ _ _ _ _ _ _ (intsH 2 x18 rr :: cellsH b1 [sN, sN] 72 :: curH .u64 88 cb bsv bs.length :: L)
   have hv9 := hvb (x19).toNat (by omega)
   refine cX (qu ((x19).toNat) qd qm rfl rfl (by omega) hr8.slv (by omega) (Nat.mul_one _) (cX (qi qQ rfl (hr8.rd (by omega)) (cX (jf ((-1) - (x16.getD ((x19).toNat) 0)) rfl rfl (by omega) (by omega) (cX (qu k qd qm rfl rfl rfl (intsH.slv [] rfl) (by omega) (Nat.mul_one _) (cX (intsH.storeX (i := k) (v := x18) [] _ (rr.set k ((-1) - (x16.getD ((x19).toNat) 0))) qm rfl rfl rfl (by omega) rfl (qb (qa (qf (ii ((k : Int))) rfl (cX (qS (((k + 1 : Nat) : Int)) rfl rfl (by omega) (by omega) (qg (ii (((k + 1 : Nat) : Int))) rfl (qb ?_))))))))))))))))
   exact ⟨(k + 1, (rr.set k ((-1) - (x16.getD ((x19).toNat) 0))), G2), _, leG2, rF, ⟨rfl, rfl, rfl, rfl, rfl, rfl, ⟨⟩⟩, (sC (sC (sC sR))), ⟨rfl, leG2, (by (try dsimp only); (try rw [List.length_set]); omega), (by (try dsimp only); (try rw [List.length_set]); omega)⟩, (by (try dsimp only); (try rw [List.length_set]); omega)⟩
  refine qn (t := 37) rfl (vF h6) (qn (t := 37) rfl (vF h6) (qn (t := 37) rfl (vF h6) (cX (qG (.bool (false)) (vF h6) rfl (qb (jC rfl (qc (qa (qf (x18) rfl (qf (ii ((k : Int))) rfl (cX (qu k qd qm rfl rfl rfl (intsH.slv [] rfl) (by omega) (Nat.mul_one _) ?_))))))))))))
  refine cX (qi qQ rfl (intsH.rd [] rfl (by omega)) (cX (qT rfl rfl (qb (jC (vF h6) (qz (qa (qf (ii ((k : Int))) rfl (cX (qS (((k + 1 : Nat) : Int)) rfl rfl (by omega) (by omega) (qg (ii (((k + 1 : Nat) : Int))) rfl (qb ?_))))))))))))
  exact ⟨(k + 1, rr, G2), _, leG2, rF, ⟨rfl, rfl, rfl, rfl, rfl, rfl, ⟨⟩⟩, (sC (sC (sC sR))), ⟨rfl, leG2, (by (try dsimp only); (try rw [List.length_set]); omega), (by (try dsimp only); (try rw [List.length_set]); omega)⟩, (by (try dsimp only); (try rw [List.length_set]); omega)⟩
 refine jj (qx (qx (qO (qc (qa (qf (v2) rfl (qf (x18) rfl (cX (qY [v2, x18] [sN, sN] [(0, 1), (1, 1)] [(0, [v2]), (1, [x18])] qM je rfl (.cons rfl qp (.cons rfl qp PlacesAre.nil)) rfl (.cons (cells_one (qD hf6)) (.cons (cells_one hsl5) CellsAre.nil)) (cX (qV [_] _ [v2, x18] jm rfl rfl rfl (qs (jb (qD hf6)) (qs (jb hsl5) qZ)) rfl rfl rfl (qb (qP [] _ _ rfl (fun F19 le19 hz7 => ?_))))))))))))))
 replace hf6 := hf6.mono le19
 have hf7 : IntsF F19 x18 rr := intsH.fz (xs := rr) hz7.fz
 refine qw (qv (L' := curH .u64 88 cb bsv bs.length :: L) [.agg #[v2, x18]] (.agg #[v2, x18]) (.cell rfl (ju [v2, x18] isAgg72 jm rfl (Rd.ownN [] rfl rfl)) .nil) rfl (qh (qh (qh (qh (qh (qh (qh le1 le2) le14) le15) le16) le17) leG2) le19) rF (sD (sC sR)) ?_)
 exact ⟨⟨_, _, rfl, ⟨_, hf6, by (try simp only [List.length_append, List.length_cons, List.length_nil, List.length_singleton]); omega⟩, ⟨_, hf7, by (try simp only [List.length_append, List.length_cons, List.length_nil, List.length_singleton]); omega⟩⟩, rfl⟩

/- laws.w9Known -/
set_option maxRecDepth 20000 in
theorem w9Known_spec {F : FH} {L : List HP} {k : Int} :
    Does prog 107 [ii (k)] F (L) (fun v F' L' => ∃ (b : Value), ∃ (rs : List (List Int × List Int)), (b : Value) = v ∧ (PairsF F' b rs) ∧ (rs.length ≤ 4) ∧ (smallR rs) ∧ L = L') := by
 refine qI func107 rfl rfl rfl (qc (qa (qg (sN) rfl (qb (qc (qc (qa (qf (ii (k)) rfl (qb (qL (qc (qa (cX (js rfl rfl (qg (.bool (decide ((k : Int) = 0))) rfl (qb ?_))))))))))))))))
 refine qA (p := (k : Int) = 0) rfl (fun h1 => ?_) (fun h1 => ?_)
 ·refine qc (qa (cX (qt (s := 1) [ii (0), ii (2), ii (-1)] [ii (0)] [(0, [ii (0)]), (1, [ii (2)]), (2, [ii (-1)])] qd qm qJ rfl (by decide) rfl (.cons rfl (.cons rfl (.cons rfl CellsAre.nil))) rfl ?_)))
  intro v1 hv1
  refine cX (qt (s := 1) [ii (-1)] [ii (0)] [(0, [ii (-1)])] qd qm qJ rfl (by decide) rfl (.cons rfl CellsAre.nil) rfl ?_)
  intro v2 hv2
  refine cX (qY [v1, v2] [sN, sN] [(0, 1), (1, 1)] [(0, [v1]), (1, [v2])] qM je rfl (.cons rfl qp (.cons rfl qp PlacesAre.nil)) rfl (.cons (cells_one (jd hv1)) (.cons (cells_one (jd hv2)) CellsAre.nil)) (cX (qt (s := 1) [ii (0), ii (1), ii (-1), ii (-2)] [ii (0)] [(0, [ii (0)]), (1, [ii (1)]), (2, [ii (-1)]), (3, [ii (-2)])] qd qm qJ rfl (by decide) rfl (.cons rfl (.cons rfl (.cons rfl (.cons rfl CellsAre.nil)))) rfl ?_)))
  intro v3 hv3
  refine cX (qt (s := 1) [ii (1), ii (0), ii (-1), ii (-2)] [ii (0)] [(0, [ii (1)]), (1, [ii (0)]), (2, [ii (-1)]), (3, [ii (-2)])] qd qm qJ rfl (by decide) rfl (.cons rfl (.cons rfl (.cons rfl (.cons rfl CellsAre.nil)))) rfl ?_)
  intro v4 hv4
  refine cX (qY [v3, v4] [sN, sN] [(0, 1), (1, 1)] [(0, [v3]), (1, [v4])] qM je rfl (.cons rfl qp (.cons rfl qp PlacesAre.nil)) rfl (.cons (cells_one (jd hv3)) (.cons (cells_one (jd hv4)) CellsAre.nil)) (cX (qt (s := 2) [v1, v2, v3, v4] [sN, sN] [(0, [v1, v2]), (1, [v3, v4])] qX jm je rfl (by decide) rfl (.cons rfl (.cons rfl CellsAre.nil)) rfl ?_)))
  intro v5 hv5
  refine qg (v5) rfl (qb ?_)
  show X _ _ _ _ _ _ (slH 72 2 v5 2 [v1, v2, v3, v4] :: slH 2 1 v4 4 [ii (1), ii (0), ii (-1), ii (-2)] :: slH 2 1 v3 4 [ii (0), ii (1), ii (-1), ii (-2)] :: slH 2 1 v2 1 [ii (-1)] :: intsH 2 v1 ([0, 2, -1] : List Int) :: L)
  refine qP [_, _, _, _] _ _ rfl (fun F1 le1 hz1 => ?_)
  have hf1 : IntsF F1 v1 ([0, 2, -1]) := intsH.fz (xs := [0, 2, -1]) hz1.fz
  show X _ _ _ _ _ _ (slH 72 2 v5 2 [v1, v2, v3, v4] :: slH 2 1 v4 4 [ii (1), ii (0), ii (-1), ii (-2)] :: slH 2 1 v3 4 [ii (0), ii (1), ii (-1), ii (-2)] :: intsH 2 v2 ([-1] : List Int) :: L)
  refine qP [_, _, _] _ _ rfl (fun F2 le2 hz2 => ?_)
  replace hf1 := hf1.mono le2
  have hf2 : IntsF F2 v2 ([-1]) := intsH.fz (xs := [-1]) hz2.fz
  show X _ _ _ _ _ _ (slH 72 2 v5 2 [v1, v2, v3, v4] :: slH 2 1 v4 4 [ii (1), ii (0), ii (-1), ii (-2)] :: intsH 2 v3 ([0, 1, -1, -2] : List Int) :: L)
  refine qP [_, _] _ _ rfl (fun F3 le3 hz3 => ?_)
  replace hf1 := hf1.mono le3
  replace hf2 := hf2.mono le3
  have hf3 : IntsF F3 v3 ([0, 1, -1, -2]) := intsH.fz (xs := [0, 1, -1, -2]) hz3.fz
  show X _ _ _ _ _ _ (slH 72 2 v5 2 [v1, v2, v3, v4] :: intsH 2 v4 ([1, 0, -1, -2] : List Int) :: L)
  refine qP [_] _ _ rfl (fun F4 le4 hz4 => ?_)
  replace hf1 := hf1.mono le4
  replace hf2 := hf2.mono le4
  replace hf3 := hf3.mono le4
  have hf4 : IntsF F4 v4 ([1, 0, -1, -2]) := intsH.fz (xs := [1, 0, -1, -2]) hz4.fz
  have hc1 : PairsC F4 [v1, v2, v3, v4] ([([0, 2, -1], [-1]), ([0, 1, -1, -2], [1, 0, -1, -2])] : List (List Int × List Int)) := (PairsC.snoc (PairsC.snoc (CO.nil : PairsC F4 [] []) hf1 hf2) hf3 hf4)
  refine qP [] _ _ rfl (fun F5 le5 hz5 => ?_)
  replace hc1 := hc1.mono le5
  have hf5 : PairsF F5 v5 (([([0, 2, -1], [-1]), ([0, 1, -1, -2], [1, 0, -1, -2])] : List (List Int × List Int))) := CO.fz hc1 (by first | rfl | omega | (rw [List.length_set]; omega) | (simp; done)) hz5.fz
  refine qw (qR (qq (qv (L' := L) [v5] (v5) (.tmp rfl .nil) rfl (qh (qh (qh (qh le1 le2) le3) le4) le5) rF sR ?_)))
  exact ⟨_, _, rfl, hf5, by decide, by unfold smallR; decide, rfl⟩
 refine qc (qa (cX (js rfl rfl (qg (.bool (decide ((k : Int) = 1))) rfl (qb ?_)))))
 refine qA (p := (k : Int) = 1) rfl (fun h2 => ?_) (fun h2 => ?_)
 ·refine qc (qa (cX (qt (s := 1) [ii (0), ii (0), ii (-1), ii (-2), ii (-3)] [ii (0)] [(0, [ii (0)]), (1, [ii (0)]), (2, [ii (-1)]), (3, [ii (-2)]), (4, [ii (-3)])] qd qm qJ rfl (by decide) rfl (.cons rfl (.cons rfl (.cons rfl (.cons rfl (.cons rfl CellsAre.nil))))) rfl ?_)))
  intro v6 hv6
  refine cX (qt (s := 1) [ii (0), ii (-1), ii (0), ii (-2), ii (-3)] [ii (0)] [(0, [ii (0)]), (1, [ii (-1)]), (2, [ii (0)]), (3, [ii (-2)]), (4, [ii (-3)])] qd qm qJ rfl (by decide) rfl (.cons rfl (.cons rfl (.cons rfl (.cons rfl (.cons rfl CellsAre.nil))))) rfl ?_)
  intro v7 hv7
  refine cX (qY [v6, v7] [sN, sN] [(0, 1), (1, 1)] [(0, [v6]), (1, [v7])] qM je rfl (.cons rfl qp (.cons rfl qp PlacesAre.nil)) rfl (.cons (cells_one (jd hv6)) (.cons (cells_one (jd hv7)) CellsAre.nil)) (cX (qt (s := 2) [v6, v7] [sN, sN] [(0, [v6, v7])] qX jm je rfl (by decide) rfl (.cons rfl CellsAre.nil) rfl ?_)))
  intro v8 hv8
  refine qg (v8) rfl (qb ?_)
  show X _ _ _ _ _ _ (slH 72 2 v8 1 [v6, v7] :: slH 2 1 v7 5 [ii (0), ii (-1), ii (0), ii (-2), ii (-3)] :: intsH 2 v6 ([0, 0, -1, -2, -3] : List Int) :: L)
  refine qP [_, _] _ _ rfl (fun F6 le6 hz6 => ?_)
  have hf6 : IntsF F6 v6 ([0, 0, -1, -2, -3]) := intsH.fz (xs := [0, 0, -1, -2, -3]) hz6.fz
  show X _ _ _ _ _ _ (slH 72 2 v8 1 [v6, v7] :: intsH 2 v7 ([0, -1, 0, -2, -3] : List Int) :: L)
  refine qP [_] _ _ rfl (fun F7 le7 hz7 => ?_)
  replace hf6 := hf6.mono le7
  have hf7 : IntsF F7 v7 ([0, -1, 0, -2, -3]) := intsH.fz (xs := [0, -1, 0, -2, -3]) hz7.fz
  have hc2 : PairsC F7 [v6, v7] ([([0, 0, -1, -2, -3], [0, -1, 0, -2, -3])] : List (List Int × List Int)) := (PairsC.snoc (CO.nil : PairsC F7 [] []) hf6 hf7)
  refine qP [] _ _ rfl (fun F8 le8 hz8 => ?_)
  replace hc2 := hc2.mono le8
  have hf8 : PairsF F8 v8 (([([0, 0, -1, -2, -3], [0, -1, 0, -2, -3])] : List (List Int × List Int))) := CO.fz hc2 (by first | rfl | omega | (rw [List.length_set]; omega) | (simp; done)) hz8.fz
  refine qw (qR (qq (qv (L' := L) [v8] (v8) (.tmp rfl .nil) rfl (qh (qh le6 le7) le8) rF sR ?_)))
  exact ⟨_, _, rfl, hf8, by decide, by unfold smallR; decide, rfl⟩
 refine qc (qa (cX (js rfl rfl (qg (.bool (decide ((k : Int) = 2))) rfl (qb ?_)))))
 refine qA (p := (k : Int) = 2) rfl (fun h3 => ?_) (fun h3 => ?_)
 ·refine qc (qa (cX (qt (s := 1) [ii (1), ii (1), ii (-1)] [ii (0)] [(0, [ii (1)]), (1, [ii (1)]), (2, [ii (-1)])] qd qm qJ rfl (by decide) rfl (.cons rfl (.cons rfl (.cons rfl CellsAre.nil))) rfl ?_)))
  intro v9 hv9
  refine cX (qt (s := 1) [ii (-1)] [ii (0)] [(0, [ii (-1)])] qd qm qJ rfl (by decide) rfl (.cons rfl CellsAre.nil) rfl ?_)
  intro v10 hv10
  refine cX (qY [v9, v10] [sN, sN] [(0, 1), (1, 1)] [(0, [v9]), (1, [v10])] qM je rfl (.cons rfl qp (.cons rfl qp PlacesAre.nil)) rfl (.cons (cells_one (jd hv9)) (.cons (cells_one (jd hv10)) CellsAre.nil)) (cX (qt (s := 2) [v9, v10] [sN, sN] [(0, [v9, v10])] qX jm je rfl (by decide) rfl (.cons rfl CellsAre.nil) rfl ?_)))
  intro v11 hv11
  refine qg (v11) rfl (qb ?_)
  show X _ _ _ _ _ _ (slH 72 2 v11 1 [v9, v10] :: slH 2 1 v10 1 [ii (-1)] :: intsH 2 v9 ([1, 1, -1] : List Int) :: L)
  refine qP [_, _] _ _ rfl (fun F9 le9 hz9 => ?_)
  have hf9 : IntsF F9 v9 ([1, 1, -1]) := intsH.fz (xs := [1, 1, -1]) hz9.fz
  show X _ _ _ _ _ _ (slH 72 2 v11 1 [v9, v10] :: intsH 2 v10 ([-1] : List Int) :: L)
  refine qP [_] _ _ rfl (fun F10 le10 hz10 => ?_)
  replace hf9 := hf9.mono le10
  have hf10 : IntsF F10 v10 ([-1]) := intsH.fz (xs := [-1]) hz10.fz
  have hc3 : PairsC F10 [v9, v10] ([([1, 1, -1], [-1])] : List (List Int × List Int)) := (PairsC.snoc (CO.nil : PairsC F10 [] []) hf9 hf10)
  refine qP [] _ _ rfl (fun F11 le11 hz11 => ?_)
  replace hc3 := hc3.mono le11
  have hf11 : PairsF F11 v11 (([([1, 1, -1], [-1])] : List (List Int × List Int))) := CO.fz hc3 (by first | rfl | omega | (rw [List.length_set]; omega) | (simp; done)) hz11.fz
  refine qw (qR (qq (qv (L' := L) [v11] (v11) (.tmp rfl .nil) rfl (qh (qh le9 le10) le11) rF sR ?_)))
  exact ⟨_, _, rfl, hf11, by decide, by unfold smallR; decide, rfl⟩
 refine qc (qa (cX (js rfl rfl (qg (.bool (decide ((k : Int) = 3))) rfl (qb ?_)))))
 refine qA (p := (k : Int) = 3) rfl (fun h4 => ?_) (fun h4 => ?_)
 ·refine qc (qa (cX (qt (s := 1) [ii (0), ii (-1), ii (2)] [ii (0)] [(0, [ii (0)]), (1, [ii (-1)]), (2, [ii (2)])] qd qm qJ rfl (by decide) rfl (.cons rfl (.cons rfl (.cons rfl CellsAre.nil))) rfl ?_)))
  intro v12 hv12
  refine cX (qt (s := 1) [ii (-1)] [ii (0)] [(0, [ii (-1)])] qd qm qJ rfl (by decide) rfl (.cons rfl CellsAre.nil) rfl ?_)
  intro v13 hv13
  refine cX (qY [v12, v13] [sN, sN] [(0, 1), (1, 1)] [(0, [v12]), (1, [v13])] qM je rfl (.cons rfl qp (.cons rfl qp PlacesAre.nil)) rfl (.cons (cells_one (jd hv12)) (.cons (cells_one (jd hv13)) CellsAre.nil)) (cX (qt (s := 1) [ii (0), ii (1), ii (-1), ii (1), ii (-2)] [ii (0)] [(0, [ii (0)]), (1, [ii (1)]), (2, [ii (-1)]), (3, [ii (1)]), (4, [ii (-2)])] qd qm qJ rfl (by decide) rfl (.cons rfl (.cons rfl (.cons rfl (.cons rfl (.cons rfl CellsAre.nil))))) rfl ?_)))
  intro v14 hv14
  refine cX (qt (s := 1) [ii (0), ii (-1), ii (-2)] [ii (0)] [(0, [ii (0)]), (1, [ii (-1)]), (2, [ii (-2)])] qd qm qJ rfl (by decide) rfl (.cons rfl (.cons rfl (.cons rfl CellsAre.nil))) rfl ?_)
  intro v15 hv15
  refine cX (qY [v14, v15] [sN, sN] [(0, 1), (1, 1)] [(0, [v14]), (1, [v15])] qM je rfl (.cons rfl qp (.cons rfl qp PlacesAre.nil)) rfl (.cons (cells_one (jd hv14)) (.cons (cells_one (jd hv15)) CellsAre.nil)) (cX (qt (s := 2) [v12, v13, v14, v15] [sN, sN] [(0, [v12, v13]), (1, [v14, v15])] qX jm je rfl (by decide) rfl (.cons rfl (.cons rfl CellsAre.nil)) rfl ?_)))
  intro v16 hv16
  refine qg (v16) rfl (qb ?_)
  show X _ _ _ _ _ _ (slH 72 2 v16 2 [v12, v13, v14, v15] :: slH 2 1 v15 3 [ii (0), ii (-1), ii (-2)] :: slH 2 1 v14 5 [ii (0), ii (1), ii (-1), ii (1), ii (-2)] :: slH 2 1 v13 1 [ii (-1)] :: intsH 2 v12 ([0, -1, 2] : List Int) :: L)
  refine qP [_, _, _, _] _ _ rfl (fun F12 le12 hz12 => ?_)
  have hf12 : IntsF F12 v12 ([0, -1, 2]) := intsH.fz (xs := [0, -1, 2]) hz12.fz
  show X _ _ _ _ _ _ (slH 72 2 v16 2 [v12, v13, v14, v15] :: slH 2 1 v15 3 [ii (0), ii (-1), ii (-2)] :: slH 2 1 v14 5 [ii (0), ii (1), ii (-1), ii (1), ii (-2)] :: intsH 2 v13 ([-1] : List Int) :: L)
  refine qP [_, _, _] _ _ rfl (fun F13 le13 hz13 => ?_)
  replace hf12 := hf12.mono le13
  have hf13 : IntsF F13 v13 ([-1]) := intsH.fz (xs := [-1]) hz13.fz
  show X _ _ _ _ _ _ (slH 72 2 v16 2 [v12, v13, v14, v15] :: slH 2 1 v15 3 [ii (0), ii (-1), ii (-2)] :: intsH 2 v14 ([0, 1, -1, 1, -2] : List Int) :: L)
  refine qP [_, _] _ _ rfl (fun F14 le14 hz14 => ?_)
  replace hf12 := hf12.mono le14
  replace hf13 := hf13.mono le14
  have hf14 : IntsF F14 v14 ([0, 1, -1, 1, -2]) := intsH.fz (xs := [0, 1, -1, 1, -2]) hz14.fz
  show X _ _ _ _ _ _ (slH 72 2 v16 2 [v12, v13, v14, v15] :: intsH 2 v15 ([0, -1, -2] : List Int) :: L)
  refine qP [_] _ _ rfl (fun F15 le15 hz15 => ?_)
  replace hf12 := hf12.mono le15
  replace hf13 := hf13.mono le15
  replace hf14 := hf14.mono le15
  have hf15 : IntsF F15 v15 ([0, -1, -2]) := intsH.fz (xs := [0, -1, -2]) hz15.fz
  have hc4 : PairsC F15 [v12, v13, v14, v15] ([([0, -1, 2], [-1]), ([0, 1, -1, 1, -2], [0, -1, -2])] : List (List Int × List Int)) := (PairsC.snoc (PairsC.snoc (CO.nil : PairsC F15 [] []) hf12 hf13) hf14 hf15)
  refine qP [] _ _ rfl (fun F16 le16 hz16 => ?_)
  replace hc4 := hc4.mono le16
  have hf16 : PairsF F16 v16 (([([0, -1, 2], [-1]), ([0, 1, -1, 1, -2], [0, -1, -2])] : List (List Int × List Int))) := CO.fz hc4 (by first | rfl | omega | (rw [List.length_set]; omega) | (simp; done)) hz16.fz
  refine qw (qR (qq (qv (L' := L) [v16] (v16) (.tmp rfl .nil) rfl (qh (qh (qh (qh le12 le13) le14) le15) le16) rF sR ?_)))
  exact ⟨_, _, rfl, hf16, by decide, by unfold smallR; decide, rfl⟩
 refine qc (qa (cX (js rfl rfl (qg (.bool (decide ((k : Int) = 4))) rfl (qb ?_)))))
 refine qA (p := (k : Int) = 4) rfl (fun h5 => ?_) (fun h5 => ?_)
 ·refine qc (qa (cX (qt (s := 1) [ii (1), ii (2)] [ii (0)] [(0, [ii (1)]), (1, [ii (2)])] qd qm qJ rfl (by decide) rfl (.cons rfl (.cons rfl CellsAre.nil)) rfl ?_)))
  intro v17 hv17
  refine cX (qt (s := 1) [ii (2)] [ii (0)] [(0, [ii (2)])] qd qm qJ rfl (by decide) rfl (.cons rfl CellsAre.nil) rfl ?_)
  intro v18 hv18
  refine cX (qY [v17, v18] [sN, sN] [(0, 1), (1, 1)] [(0, [v17]), (1, [v18])] qM je rfl (.cons rfl qp (.cons rfl qp PlacesAre.nil)) rfl (.cons (cells_one (jd hv17)) (.cons (cells_one (jd hv18)) CellsAre.nil)) (cX (qt (s := 1) [ii (1), ii (0), ii (-1), ii (-2)] [ii (0)] [(0, [ii (1)]), (1, [ii (0)]), (2, [ii (-1)]), (3, [ii (-2)])] qd qm qJ rfl (by decide) rfl (.cons rfl (.cons rfl (.cons rfl (.cons rfl CellsAre.nil)))) rfl ?_)))
  intro v19 hv19
  refine cX (qt (s := 1) [ii (0), ii (1), ii (-2), ii (1), ii (-1)] [ii (0)] [(0, [ii (0)]), (1, [ii (1)]), (2, [ii (-2)]), (3, [ii (1)]), (4, [ii (-1)])] qd qm qJ rfl (by decide) rfl (.cons rfl (.cons rfl (.cons rfl (.cons rfl (.cons rfl CellsAre.nil))))) rfl ?_)
  intro v20 hv20
  refine cX (qY [v19, v20] [sN, sN] [(0, 1), (1, 1)] [(0, [v19]), (1, [v20])] qM je rfl (.cons rfl qp (.cons rfl qp PlacesAre.nil)) rfl (.cons (cells_one (jd hv19)) (.cons (cells_one (jd hv20)) CellsAre.nil)) (cX (qt (s := 2) [v17, v18, v19, v20] [sN, sN] [(0, [v17, v18]), (1, [v19, v20])] qX jm je rfl (by decide) rfl (.cons rfl (.cons rfl CellsAre.nil)) rfl ?_)))
  intro v21 hv21
  refine qg (v21) rfl (qb ?_)
  show X _ _ _ _ _ _ (slH 72 2 v21 2 [v17, v18, v19, v20] :: slH 2 1 v20 5 [ii (0), ii (1), ii (-2), ii (1), ii (-1)] :: slH 2 1 v19 4 [ii (1), ii (0), ii (-1), ii (-2)] :: slH 2 1 v18 1 [ii (2)] :: intsH 2 v17 ([1, 2] : List Int) :: L)
  refine qP [_, _, _, _] _ _ rfl (fun F17 le17 hz17 => ?_)
  have hf17 : IntsF F17 v17 ([1, 2]) := intsH.fz (xs := [1, 2]) hz17.fz
  show X _ _ _ _ _ _ (slH 72 2 v21 2 [v17, v18, v19, v20] :: slH 2 1 v20 5 [ii (0), ii (1), ii (-2), ii (1), ii (-1)] :: slH 2 1 v19 4 [ii (1), ii (0), ii (-1), ii (-2)] :: intsH 2 v18 ([2] : List Int) :: L)
  refine qP [_, _, _] _ _ rfl (fun F18 le18 hz18 => ?_)
  replace hf17 := hf17.mono le18
  have hf18 : IntsF F18 v18 ([2]) := intsH.fz (xs := [2]) hz18.fz
  show X _ _ _ _ _ _ (slH 72 2 v21 2 [v17, v18, v19, v20] :: slH 2 1 v20 5 [ii (0), ii (1), ii (-2), ii (1), ii (-1)] :: intsH 2 v19 ([1, 0, -1, -2] : List Int) :: L)
  refine qP [_, _] _ _ rfl (fun F19 le19 hz19 => ?_)
  replace hf17 := hf17.mono le19
  replace hf18 := hf18.mono le19
  have hf19 : IntsF F19 v19 ([1, 0, -1, -2]) := intsH.fz (xs := [1, 0, -1, -2]) hz19.fz
  show X _ _ _ _ _ _ (slH 72 2 v21 2 [v17, v18, v19, v20] :: intsH 2 v20 ([0, 1, -2, 1, -1] : List Int) :: L)
  refine qP [_] _ _ rfl (fun F20 le20 hz20 => ?_)
  replace hf17 := hf17.mono le20
  replace hf18 := hf18.mono le20
  replace hf19 := hf19.mono le20
  have hf20 : IntsF F20 v20 ([0, 1, -2, 1, -1]) := intsH.fz (xs := [0, 1, -2, 1, -1]) hz20.fz
  have hc5 : PairsC F20 [v17, v18, v19, v20] ([([1, 2], [2]), ([1, 0, -1, -2], [0, 1, -2, 1, -1])] : List (List Int × List Int)) := (PairsC.snoc (PairsC.snoc (CO.nil : PairsC F20 [] []) hf17 hf18) hf19 hf20)
  refine qP [] _ _ rfl (fun F21 le21 hz21 => ?_)
  replace hc5 := hc5.mono le21
  have hf21 : PairsF F21 v21 (([([1, 2], [2]), ([1, 0, -1, -2], [0, 1, -2, 1, -1])] : List (List Int × List Int))) := CO.fz hc5 (by first | rfl | omega | (rw [List.length_set]; omega) | (simp; done)) hz21.fz
  refine qw (qR (qq (qv (L' := L) [v21] (v21) (.tmp rfl .nil) rfl (qh (qh (qh (qh le17 le18) le19) le20) le21) rF sR ?_)))
  exact ⟨_, _, rfl, hf21, by decide, by unfold smallR; decide, rfl⟩
 refine qz (qc (qa (cX (qt (s := 1) [ii (0), ii (2), ii (-1)] [ii (0)] [(0, [ii (0)]), (1, [ii (2)]), (2, [ii (-1)])] qd qm qJ rfl (by decide) rfl (.cons rfl (.cons rfl (.cons rfl CellsAre.nil))) rfl ?_))))
 intro v22 hv22
 refine cX (qt (s := 1) [ii (-1)] [ii (0)] [(0, [ii (-1)])] qd qm qJ rfl (by decide) rfl (.cons rfl CellsAre.nil) rfl ?_)
 intro v23 hv23
 refine cX (qY [v22, v23] [sN, sN] [(0, 1), (1, 1)] [(0, [v22]), (1, [v23])] qM je rfl (.cons rfl qp (.cons rfl qp PlacesAre.nil)) rfl (.cons (cells_one (jd hv22)) (.cons (cells_one (jd hv23)) CellsAre.nil)) (cX (qt (s := 1) [ii (0), ii (-1), ii (2)] [ii (0)] [(0, [ii (0)]), (1, [ii (-1)]), (2, [ii (2)])] qd qm qJ rfl (by decide) rfl (.cons rfl (.cons rfl (.cons rfl CellsAre.nil))) rfl ?_)))
 intro v24 hv24
 refine cX (qt (s := 1) [ii (-1)] [ii (0)] [(0, [ii (-1)])] qd qm qJ rfl (by decide) rfl (.cons rfl CellsAre.nil) rfl ?_)
 intro v25 hv25
 refine cX (qY [v24, v25] [sN, sN] [(0, 1), (1, 1)] [(0, [v24]), (1, [v25])] qM je rfl (.cons rfl qp (.cons rfl qp PlacesAre.nil)) rfl (.cons (cells_one (jd hv24)) (.cons (cells_one (jd hv25)) CellsAre.nil)) (cX (qt (s := 1) [ii (0), ii (0), ii (-1), ii (-2), ii (-3)] [ii (0)] [(0, [ii (0)]), (1, [ii (0)]), (2, [ii (-1)]), (3, [ii (-2)]), (4, [ii (-3)])] qd qm qJ rfl (by decide) rfl (.cons rfl (.cons rfl (.cons rfl (.cons rfl (.cons rfl CellsAre.nil))))) rfl ?_)))
 intro v26 hv26
 refine cX (qt (s := 1) [ii (0), ii (-1), ii (0), ii (-2), ii (-3)] [ii (0)] [(0, [ii (0)]), (1, [ii (-1)]), (2, [ii (0)]), (3, [ii (-2)]), (4, [ii (-3)])] qd qm qJ rfl (by decide) rfl (.cons rfl (.cons rfl (.cons rfl (.cons rfl (.cons rfl CellsAre.nil))))) rfl ?_)
 intro v27 hv27
 refine cX (qY [v26, v27] [sN, sN] [(0, 1), (1, 1)] [(0, [v26]), (1, [v27])] qM je rfl (.cons rfl qp (.cons rfl qp PlacesAre.nil)) rfl (.cons (cells_one (jd hv26)) (.cons (cells_one (jd hv27)) CellsAre.nil)) (cX (qt (s := 2) [v22, v23, v24, v25, v26, v27] [sN, sN] [(0, [v22, v23]), (1, [v24, v25]), (2, [v26, v27])] qX jm je rfl (by decide) rfl (.cons rfl (.cons rfl (.cons rfl CellsAre.nil))) rfl ?_)))
 intro v28 hv28
 refine qg (v28) rfl (qb ?_)
 show X _ _ _ _ _ _ (slH 72 2 v28 3 [v22, v23, v24, v25, v26, v27] :: slH 2 1 v27 5 [ii (0), ii (-1), ii (0), ii (-2), ii (-3)] :: slH 2 1 v26 5 [ii (0), ii (0), ii (-1), ii (-2), ii (-3)] :: slH 2 1 v25 1 [ii (-1)] :: slH 2 1 v24 3 [ii (0), ii (-1), ii (2)] :: slH 2 1 v23 1 [ii (-1)] :: intsH 2 v22 ([0, 2, -1] : List Int) :: L)
 refine qP [_, _, _, _, _, _] _ _ rfl (fun F22 le22 hz22 => ?_)
 have hf22 : IntsF F22 v22 ([0, 2, -1]) := intsH.fz (xs := [0, 2, -1]) hz22.fz
 show X _ _ _ _ _ _ (slH 72 2 v28 3 [v22, v23, v24, v25, v26, v27] :: slH 2 1 v27 5 [ii (0), ii (-1), ii (0), ii (-2), ii (-3)] :: slH 2 1 v26 5 [ii (0), ii (0), ii (-1), ii (-2), ii (-3)] :: slH 2 1 v25 1 [ii (-1)] :: slH 2 1 v24 3 [ii (0), ii (-1), ii (2)] :: intsH 2 v23 ([-1] : List Int) :: L)
 refine qP [_, _, _, _, _] _ _ rfl (fun F23 le23 hz23 => ?_)
 replace hf22 := hf22.mono le23
 have hf23 : IntsF F23 v23 ([-1]) := intsH.fz (xs := [-1]) hz23.fz
 show X _ _ _ _ _ _ (slH 72 2 v28 3 [v22, v23, v24, v25, v26, v27] :: slH 2 1 v27 5 [ii (0), ii (-1), ii (0), ii (-2), ii (-3)] :: slH 2 1 v26 5 [ii (0), ii (0), ii (-1), ii (-2), ii (-3)] :: slH 2 1 v25 1 [ii (-1)] :: intsH 2 v24 ([0, -1, 2] : List Int) :: L)
 refine qP [_, _, _, _] _ _ rfl (fun F24 le24 hz24 => ?_)
 replace hf22 := hf22.mono le24
 replace hf23 := hf23.mono le24
 have hf24 : IntsF F24 v24 ([0, -1, 2]) := intsH.fz (xs := [0, -1, 2]) hz24.fz
 show X _ _ _ _ _ _ (slH 72 2 v28 3 [v22, v23, v24, v25, v26, v27] :: slH 2 1 v27 5 [ii (0), ii (-1), ii (0), ii (-2), ii (-3)] :: slH 2 1 v26 5 [ii (0), ii (0), ii (-1), ii (-2), ii (-3)] :: intsH 2 v25 ([-1] : List Int) :: L)
 refine qP [_, _, _] _ _ rfl (fun F25 le25 hz25 => ?_)
 replace hf22 := hf22.mono le25
 replace hf23 := hf23.mono le25
 replace hf24 := hf24.mono le25
 have hf25 : IntsF F25 v25 ([-1]) := intsH.fz (xs := [-1]) hz25.fz
 show X _ _ _ _ _ _ (slH 72 2 v28 3 [v22, v23, v24, v25, v26, v27] :: slH 2 1 v27 5 [ii (0), ii (-1), ii (0), ii (-2), ii (-3)] :: intsH 2 v26 ([0, 0, -1, -2, -3] : List Int) :: L)
 refine qP [_, _] _ _ rfl (fun F26 le26 hz26 => ?_)
 replace hf22 := hf22.mono le26
 replace hf23 := hf23.mono le26
 replace hf24 := hf24.mono le26
 replace hf25 := hf25.mono le26
 have hf26 : IntsF F26 v26 ([0, 0, -1, -2, -3]) := intsH.fz (xs := [0, 0, -1, -2, -3]) hz26.fz
 show X _ _ _ _ _ _ (slH 72 2 v28 3 [v22, v23, v24, v25, v26, v27] :: intsH 2 v27 ([0, -1, 0, -2, -3] : List Int) :: L)
 refine qP [_] _ _ rfl (fun F27 le27 hz27 => ?_)
 replace hf22 := hf22.mono le27
 replace hf23 := hf23.mono le27
 replace hf24 := hf24.mono le27
 replace hf25 := hf25.mono le27
 replace hf26 := hf26.mono le27
 have hf27 : IntsF F27 v27 ([0, -1, 0, -2, -3]) := intsH.fz (xs := [0, -1, 0, -2, -3]) hz27.fz
 have hc6 : PairsC F27 [v22, v23, v24, v25, v26, v27] ([([0, 2, -1], [-1]), ([0, -1, 2], [-1]), ([0, 0, -1, -2, -3], [0, -1, 0, -2, -3])] : List (List Int × List Int)) := (PairsC.snoc (PairsC.snoc (PairsC.snoc (CO.nil : PairsC F27 [] []) hf22 hf23) hf24 hf25) hf26 hf27)
 refine qP [] _ _ rfl (fun F28 le28 hz28 => ?_)
 replace hc6 := hc6.mono le28
 have hf28 : PairsF F28 v28 (([([0, 2, -1], [-1]), ([0, -1, 2], [-1]), ([0, 0, -1, -2, -3], [0, -1, 0, -2, -3])] : List (List Int × List Int))) := CO.fz hc6 (by first | rfl | omega | (rw [List.length_set]; omega) | (simp; done)) hz28.fz
 refine qw (qv (L' := L) [v28] (v28) (.tmp rfl .nil) rfl (qh (qh (qh (qh (qh (qh le22 le23) le24) le25) le26) le27) le28) rF sR ?_)
 exact ⟨_, _, rfl, hf28, by decide, by unfold smallR; decide, rfl⟩

/- laws.w9System -/
set_option maxHeartbeats 1000000 in
set_option maxRecDepth 20000 in
theorem w9System_spec {F : FH} {L : List HP} {cb : Nat} {bsv : Value} {bs : List Int} (hbs : BytesF F bsv bs) (hbl : bs.length ≤ 4000000) :
    Does prog 45 [ptr cb 0] F (curH .u64 88 cb bsv bs.length :: L) (fun v F' L' => (∃ (a : Value), ∃ (b : Value), ∃ (rs : List (List Int × List Int)), (.agg #[a, b] : Value) = v ∧ (IntsF F' a [2, 1, 0]) ∧ (PairsF F' b rs) ∧ (smallS [2, 1, 0] rs)) ∧ curH .u64 88 cb bsv bs.length :: L = L') := by
 refine qI func45 rfl rfl rfl (qc (qa (cX (jo [sN, sN] zeroValue32 rfl ?_))))
 intro b1
 refine qb (qc (qa (cX (qr (args := []) call106 rfl (w9Sig_spec ) ?_))))
 rintro _ F1 _ le1 ⟨x1, rfl, hr1, rfl⟩
 replace hbs := hbs.mono le1
 refine cX (qY [x1, sN] [sN, sN] [(0, 1), (1, 1)] [(0, [x1])] qK zeroValue32 rfl (.cons rfl qF (.cons rfl jv PlacesAre.nil)) rfl (.cons rfl CellsAre.nil) (cX (jo [sN, sN] zeroValue32 rfl ?_)))
 intro b2
 refine cX (qV [] _ [x1, sN] jp rfl rfl rfl (qs (jb (qD hr1)) (qs rfl qZ)) rfl rfl rfl (qb (qc (qc (qa (qf (ptr cb 0) rfl (cX (qr (args := [ptr cb 0, ii (2)]) call14 rfl (jN [_, _] (below_spec (n := 2) hbs (by omega) (hn := (by first | assumption | rfl | omega | simp)))) ?_))))))))
 rintro _ _ _ _ ⟨⟨rfl, x2, rfl, hr2⟩, rfl⟩
 show XL _ _ _ _ _ _ _ (cellsH b2 [x1, sN] 32 :: cellsH b1 [sN, sN] 32 :: curH .u64 88 cb bsv bs.length :: L)
 refine cX (js rfl rfl (qb ?_))
 refine qA (p := (x2 : Int) = 0) rfl (fun h1 => ?_) (fun h1 => ?_)
 ·refine qc (qa (qf (ptr cb 0) rfl (cX (qr (args := [ptr cb 0, ii (6)]) call14 rfl (jN [_, _] (below_spec (n := 6) hbs (by omega) (hn := (by first | assumption | rfl | omega | simp)))) ?_))))
  rintro _ _ _ _ ⟨⟨rfl, x3, rfl, hr3⟩, rfl⟩
  show XL _ _ _ _ _ _ _ (cellsH b2 [x1, sN] 32 :: cellsH b1 [sN, sN] 32 :: curH .u64 88 cb bsv bs.length :: L)
  refine cX (qr (args := [ii (x3)]) call107 rfl (w9Known_spec (k := x3)) ?_)
  rintro _ F4 _ le4 ⟨x4, x5, rfl, hr4, hr5, hr6, rfl⟩
  replace hbs := hbs.mono le4
  replace hr1 := hr1.mono le4
  refine cX (qo (1) qK rfl jv (by decide) rfl rfl (cX (jx [] _ [x1, x4] jv rfl rfl (jb (PairsF.isSl hr4)) rfl rfl rfl (qb (qc (qa (cX (qy [x1, x4] jF jp rfl rfl (Rd.ownN [] rfl rfl) (cX (qV [_] _ [x1, x4] jp rfl rfl rfl (qs (jb (qD hr1)) (qs (jb (PairsF.isSl hr4)) qZ)) rfl rfl rfl (qb (qw (qq (qv (L' := curH .u64 88 cb bsv bs.length :: L) [.agg #[x1, x4]] (.agg #[x1, x4]) (.cell rfl (ju [x1, x4] jF jp rfl (Rd.ownN [_] rfl rfl)) .nil) rfl (qh le1 le4) rF (sD (sD (sC sR))) ?_))))))))))))))
  exact ⟨⟨_, _, _, rfl, hr1, hr4, smallS.mk' (by decide) (by have h9 := hr5; omega) hr6⟩, rfl⟩
 refine qz (qc (qc (qa (qf (ptr cb 0) rfl (cX (qr (args := [ptr cb 0, ii (3)]) call14 rfl (jN [_, _] (below_spec (n := 3) hbs (by omega) (hn := (by first | assumption | rfl | omega | simp)))) ?_))))))
 rintro _ _ _ _ ⟨⟨rfl, x6, rfl, hr7⟩, rfl⟩
 show XL _ _ _ _ _ _ _ (cellsH b2 [x1, sN] 32 :: cellsH b1 [sN, sN] 32 :: curH .u64 88 cb bsv bs.length :: L)
 refine cX (qS (1 + x6) rfl rfl (by omega) (by omega) (qg (ii (1 + x6)) rfl (qb (qL (jn (α := Nat × Value × List (List Int × List Int) × List Value × Nat × FH) (fun xQ => [(0, ptr cb 0), (2, ptr b1 0), (3, ptr b2 0), (4, ii (((xQ.1 : Nat) : Int)))]) (fun xQ => slH 72 2 xQ.2.1 xQ.2.2.2.2.1 xQ.2.2.2.1 :: cellsH b2 [x1, xQ.2.1] 32 :: cellsH b1 [sN, sN] 32 :: curH .u64 88 cb bsv bs.length :: L) (fun xQ F' => xQ.2.2.2.2.2 = F' ∧ F1 ≤ xQ.2.2.2.2.2 ∧ (IsSl xQ.2.1) ∧ (PairsC xQ.2.2.2.2.2 xQ.2.2.2.1 xQ.2.2.1) ∧ (xQ.2.2.2.2.1 = xQ.2.2.1.length) ∧ (xQ.2.2.1.length + xQ.1 ≤ 4) ∧ (smallR xQ.2.2.1)) (fun xQ => xQ.1) ((1 + x6).toNat, sN, [], [], 0, F1) ⟨rfl, rfl, rfl, (vI (by omega)), ⟨⟩⟩ (jE (Sub.addNil 72 2 _ _) (sC (sC (sC (sC sR))))) ⟨rfl, FLe.refl _, (⟨_, _, _, rfl⟩), (CO.nil), (rfl), (by (try dsimp only); simp only [List.length_nil]; omega), (smallR.nil)⟩ ?_)))))
 rintro ⟨n, ov, os, cs, m, G1⟩ rE _ _ ⟨rfl, leG, hov, hC, hm, hon, hos⟩
 show X _ _ _ _ (envs [(0, ptr cb 0), (2, ptr b1 0), (3, ptr b2 0), (4, ii ((n : Int)))] rE) _ (slH 72 2 ov m cs :: cellsH b2 [x1, ov] 32 :: cellsH b1 [sN, sN] 32 :: curH .u64 88 cb bsv bs.length :: L)
 replace leG : F1 ≤ G1 := leG
 dsimp only at hov hC hm hon hos
 have leG1 := leG
 replace hbs := hbs.mono leG1
 replace hr1 := hr1.mono leG1
 refine qc (qc (qa (qf (ii ((n : Int))) rfl (cX (jL rfl rfl (qb ?_))))))
 refine qA (p := (n : Int) > 0) rfl (fun h2 => ?_) (fun h2 => ?_)
 ·refine qz (qc (qL ?_))
  refine X.drawG [slH 72 2 ov m cs, cellsH b2 [x1, ov] 32, cellsH b1 [sN, sN] 32, curH .u64 88 cb bsv bs.length] L 5 [[], [], [], [], [3]] [[], [0], [], [2], [3]] [] (phiG [pe (ptr b2 1), pe ov, pe (ptr cb 0), fun FF us v => (.agg #[((aggAt v 0)), ((aggAt v 1))] : Value) = v ∧ (SomesF FF ((aggAt v 0)) (fun u => u.length ≤ 2000)) ∧ (SomesF FF ((aggAt v 1)) (fun w => w.length ≤ 2000)), fun FF us v => ∃ b, v = .slice (some ⟨b, 0, none⟩) 1 1]) (ownL [o0, o0, o0, o0, fun us v => [slH 72 2 v 1 [((aggAt (us.getD 0 undef) 0)), ((aggAt (us.getD 0 undef) 1))]]]) mixed rfl rfl (by kernel_rfl) (by kernel_rfl) (MonoG.get (m1 (m1 (m1 (mC (fun le h => ⟨h.1, h.2.1.mono le, h.2.2.mono le⟩) (mC (fun le h => h) MonoG.nil)))))) ?_ ?_
  ·refine gD (fun W Fs R lF z9 => ?_) ?_
   ·refine qj (qo (1) qK rfl jv (by decide) rfl rfl ?_)
    exact ⟨rfl, rfl⟩
   refine gD (fun W Fs R lF z9 => ?_) ?_
   ·replace hbs := hbs.mono lF
    replace hr1 := hr1.mono lF
    replace hC := hC.mono lF
    rw [eS (l := [(0, _)]) ⟨z9 0 rfl, ⟨⟩⟩]
    refine qj (qi jQ rfl (Rd.own [_] rfl rfl) ?_)
    exact ⟨rfl, rfl⟩
   refine gD (fun W Fs R lF z9 => ?_) ?_
   ·refine qj (ql (ptr cb 0) rfl ?_)
    exact ⟨rfl, rfl⟩
   refine gD (fun W Fs R lF z9 => ?_) ?_
   ·replace hbs := hbs.mono lF
    replace hr1 := hr1.mono lF
    replace hC := hC.mono lF
    rw [eS (l := [(2, _)]) ⟨z9 2 rfl, ⟨⟩⟩]
    refine qj (qr (args := [ptr cb 0]) call108 rfl (jN [_, _, _] (w9Rule_spec hbs (by omega))) ?_)
    rintro _ F7 _ le7 ⟨⟨x9, x10, rfl, hr10, hr11⟩, rfl⟩
    replace hr1 := hr1.mono le7
    replace hC := hC.mono le7
    exact ⟨⟨rfl, hr10, hr11⟩, rfl⟩
   refine gD (fun W Fs R lF z9 => ?_) ?_
   ·obtain ⟨e3, f3_1hp_a, f3_1hp_b⟩ := z9 3 rfl
    obtain ⟨t3X1_a, f3_1hp_a, q3_1_a0⟩ := f3_1hp_a
    obtain ⟨t3X1_b, f3_1hp_b, q3_1_b0⟩ := f3_1hp_b
    replace hr1 := hr1.mono lF
    replace hC := hC.mono lF
    rw [eS (l := [(3, (.agg #[((aggAt (W 3) 0)), ((aggAt (W 3) 1))]))]) ⟨(e3).symm, ⟨⟩⟩]
    refine qj (qt (s := 2) [((aggAt (W 3) 0)), ((aggAt (W 3) 1))] [sN, sN] [(0, [((aggAt (W 3) 0)), ((aggAt (W 3) 1))])] qX jm je rfl (by decide) rfl (.cons rfl CellsAre.nil) rfl ?_)
    intro v2 hv2
    exact ⟨hv2, rfl⟩
   exact stepsG.nil
  intro W F8 le8 hphi
  obtain ⟨e3, f3_1hp_a, f3_1hp_b⟩ := hphi 3 (by decide)
  obtain ⟨t3X1_a, f3_1hp_a, q3_1_a0⟩ := f3_1hp_a
  obtain ⟨t3X1_b, f3_1hp_b, q3_1_b0⟩ := f3_1hp_b
  have f4 : ∃ b, (W 4) = .slice (some ⟨b, 0, none⟩) 1 1 := hphi 4 (by decide)
  generalize hu1 : ((aggAt (W 3) 0)) = u1 at e3 f3_1hp_a f3_1hp_b f4
  generalize hu2 : ((aggAt (W 3) 1)) = u2 at e3 f3_1hp_a f3_1hp_b f4
  generalize hu4 : W 4 = u3 at e3 f3_1hp_a f3_1hp_b f4
  rw [eS (l := [(1, _), (3, (.agg #[u1, u2])), (4, u3)]) ⟨(hphi 1 (by decide)), (e3).symm, hu4, ⟨⟩⟩]
  replace hr1 := hr1.mono le8
  replace hC := hC.mono le8
  show XL _ _ _ _ _ _ _ (slH 72 2 u3 1 [u1, u2] :: slH 72 2 ov m cs :: cellsH b2 [x1, ov] 32 :: cellsH b1 [sN, sN] 32 :: curH .u64 88 cb bsv bs.length :: L)
  refine cX (XOp.append (m := 1) (bytes := 48) (cs := cs) [_] _ [u1, u2] qX typeInfo72 rfl rfl rfl rfl rfl rfl rfl (SlV.own [] rfl) rfl (Rd.lit [] rfl) (qs (jb (qD f3_1hp_a)) (qs (jb (qD f3_1hp_b)) qZ)) (by (try simp only [List.length_append, List.length_nil, List.length_cons, List.length_singleton]); omega) (by (try simp only [List.length_append, List.length_nil, List.length_cons, List.length_singleton]); omega) ?_)
  intro v3 hs1 hn1 hm1
  have hc1 := PairsC.snoc hC f3_1hp_a f3_1hp_b
  refine cX (qo (1) qK rfl jv (by decide) rfl rfl (cX (jx [_, _] _ [x1, v3] jv rfl rfl (jb hs1) rfl rfl rfl (qb (qa (qf (ii ((n : Int))) rfl (cX (jf (((n : Int)) - 1) rfl rfl (by omega) (by omega) (qg (ii (((n : Int)) - 1)) rfl (qb ?_))))))))))
  exact ⟨(n - 1, v3, os ++ [(t3X1_a, t3X1_b)], cs ++ [u1, u2], (m) + 1, F8), _, (qh leG1 le8), rF, ⟨rfl, rfl, rfl, (vI (by (try dsimp only); omega)), ⟨⟩⟩, (sD (sC (sC (sC (sC sR))))), ⟨rfl, (qh leG1 le8), (hs1), (hc1), (by (try dsimp only); rw [List.length_append]; simp only [List.length_singleton]; omega), (by (try dsimp only); rw [List.length_append]; simp only [List.length_singleton]; omega), (smallR.snoc hos q3_1_a0 q3_1_b0)⟩, (by (try dsimp only); omega)⟩
 refine jj (qx (qx (qO (qc (qa (cX (qy [x1, ov] jF jp rfl rfl (Rd.ownN [_] rfl rfl) (cX (qV [_, _] _ [x1, ov] jp rfl rfl rfl (qs (jb (qD hr1)) (qs (jb hov) qZ)) rfl rfl rfl (qb (qP [] _ _ rfl (fun F9 le9 hz1 => ?_))))))))))))
 replace hr1 := hr1.mono le9
 replace hC := hC.mono le9
 have hf1 : PairsF F9 ov os := CO.fz hC (by first | rfl | omega | (rw [List.length_set]; omega) | (simp; done)) hz1.fz
 refine qw (qv (L' := curH .u64 88 cb bsv bs.length :: L) [.agg #[x1, ov]] (.agg #[x1, ov]) (.cell rfl (ju [x1, ov] jF jp rfl (Rd.ownN [_] rfl rfl)) .nil) rfl (qh (qh le1 leG1) le9) rF (sD (sD (sC sR))) ?_)
 exact ⟨⟨_, _, _, rfl, hr1, hf1, smallS.mk' (by decide) (by omega) hos⟩, rfl⟩

/- slices.EqualFunc[[][]int64,[][]int64,[]int64,[]int64] -/
theorem EqualFuncR_spec {F : FH} {L : List HP} {usv : Value} {us : List (List Int)} (hus : RowsF F usv us) {vsv : Value} {vs : List (List Int)} (hvs : RowsF F vsv vs)  (hlu : us.length ≤ 9223372036854775807) (hub : ∀ i, i < us.length → (us.getD i []).length ≤ 9223372036854775807) :
    Does prog 187 [usv, vsv, .func (.func 67) #[] #[]] F (L) (fun v F' L' => (.bool (decide (us = vs)) : Value) = v ∧ F = F' ∧ L = L') := by
 refine qI func187 rfl rfl rfl (qc (qa (qg (.bool (false)) rfl (qb (qc (qc (qa (qf (usv) rfl (cX (qE qB rfl hus.slv (qf (vsv) rfl (cX (qE qB rfl hvs.slv (cX (XOp.neq rfl rfl (qb ?_))))))))))))))))
 refine qA (p := ((us.length : Int) : Int) ≠ (vs.length : Int)) rfl (fun h1 => ?_) (fun h1 => ?_)
 ·refine qc (qa (qg (.bool (false)) rfl (qb (qw (qq (qv (L' := L) [.bool (false)] (.bool (false)) (.tmp rfl .nil) rfl rF rF sR ?_))))))
  exact ⟨(vB (decide_eq_false (fun e => by subst e; simp at *))), rfl, rfl⟩
 refine qz (qc (qc (qa (qf (usv) rfl (cX (qE qB rfl hus.slv (qf (ii (0)) rfl (qb (qL (jn (α := Nat) (fun k => [(1, vsv), (2, .func (.func 67) #[] #[]), (15, usv), (16, ii ((us.length : Int))), (17, ii ((k : Int)))]) (fun k => L) (fun k F' => F = F' ∧ (k ≤ us.length) ∧ (∀ i, i < k → us.getD i [] = vs.getD i [])) (fun k => us.length - k) 0 ⟨rfl, rfl, rfl, rfl, rfl, ⟨⟩⟩ sR ⟨rfl, (by (try dsimp only) <;> omega), (fun i hi => absurd hi (by omega))⟩ ?_))))))))))
 rintro k rE _ _ ⟨rfl, hk, hall⟩
 show X _ _ _ _ (envs [(1, vsv), (2, .func (.func 67) #[] #[]), (15, usv), (16, ii ((us.length : Int))), (17, ii ((k : Int)))] rE) _ (L)
 have hubk := hub k
 refine qc (qa (cX (qT rfl rfl (qb (qc ?_)))))
 refine qA (p := (k : Int) < (us.length : Int)) rfl (fun h2 => ?_) (fun h2 => ?_)
 ·refine qz (qc (qL (qc (qa (qf (ii ((k : Int))) rfl (cX (qu k qB qp rfl rfl rfl hus.slv (by omega) (Nat.mul_one _) ?_)))))))
  obtain ⟨a1, ha1, hr1⟩ := hus.rd (i := k) (by omega)
  refine cX (qi qW rfl (hr1 _) (qg (ii ((k : Int))) rfl (qg (a1) rfl (qb (qc (qa (qf (vsv) rfl (qf (ii ((k : Int))) rfl (cX (qu k qB qp rfl rfl rfl hvs.slv (by omega) (Nat.mul_one _) ?_))))))))))
  obtain ⟨a2, ha2, hr2⟩ := hvs.rd (i := k) (by omega)
  refine cX (qi qW rfl (hr2 _) (qg (a2) rfl (qb (qc (qa (qf (.func (.func 67) #[] #[]) rfl (qf (a1) rfl (qf (a2) rfl (cX (XOp.callV (first := []) (captured := []) (args := [a1, a2]) call67 rfl rfl (Equal_spec ha1 ha2 (hbd := (by first | assumption | rfl | omega | (left; simp; done) | (right; simp; done)))) ?_))))))))))
  rintro _ _ _ _ ⟨rfl, rfl, rfl⟩
  refine cX (XOp.notD rfl (qb ?_))
  refine qA (p := ¬(((us.getD k [])) = ((vs.getD k [])))) rfl (fun h3 => ?_) (fun h3 => ?_)
  ·refine qc (qa (qg (.bool (false)) rfl (qb (qw (qR (qq (qq (qR (qq (qv (L' := L) [.bool (false)] (.bool (false)) (.tmp rfl .nil) rfl rF rF sR ?_))))))))))
   exact ⟨(vB (decide_eq_false (fun e => by subst e; simp at *))), rfl, rfl⟩
  refine qz (qa (cX (qS (((k + 1 : Nat) : Int)) rfl rfl (by omega) (by omega) (qf (ii (((k + 1 : Nat) : Int))) rfl (qb ?_)))))
  exact ⟨k + 1, _, FLe.refl _, rF, ⟨rfl, rfl, rfl, rfl, rfl, ⟨⟩⟩, sR, ⟨rfl, (by (try dsimp only) <;> omega), (fun i hi => (Nat.lt_or_ge i k).elim (fun h => hall i h) (fun h => by obtain rfl : i = k := (by omega); first | assumption | exact Classical.not_not.1 (by assumption)))⟩, (by omega)⟩
 refine jj (qx (qx (qO (qc (qa (qg (.bool (true)) rfl (qb (qw (qv (L' := L) [.bool (true)] (.bool (true)) (.tmp rfl .nil) rfl rF rF sR ?_)))))))))
 exact ⟨(vB (decide_eq_true (ext_any ([] : List Int) (by omega) (fun i hi => hall i (by omega))))), rfl, rfl⟩

/- impl.sameTerms -/
theorem sameTerms_spec {F : FH} {L : List HP} {usv : Value} {us : List (List Int)} (hus : RowsF F usv us) {vsv : Value} {vs : List (List Int)} (hvs : RowsF F vsv vs) (hlu : us.length ≤ 9223372036854775807) (hub : ∀ i, i < us.length → (us.getD i []).length ≤ 9223372036854775807) :
    Does prog 122 [usv, vsv] F (L) (fun v F' L' => (.bool (decide (us = vs)) : Value) = v ∧ F = F' ∧ L = L') := by
 refine qI func122 rfl rfl rfl (qc (qa (qg (.bool (false)) rfl (qb (qc (qa (qf (usv) rfl (qf (vsv) rfl (cX (qr (args := [usv, vsv, .func (.func 67) #[] #[]]) call187 rfl (EqualFuncR_spec hus hvs (hlu := (by first | assumption | rfl | omega | simp)) (hub := (by first | assumption | rfl | omega | simp))) ?_))))))))))
 rintro _ _ _ _ ⟨rfl, rfl, rfl⟩
 refine qg (.bool (decide (us = vs))) rfl (qb (qw (qv (L' := L) [.bool (decide (us = vs))] (.bool (decide (us = vs))) (.tmp rfl .nil) rfl rF rF sR ?_)))
 exact ⟨rfl, rfl, rfl⟩

/- impl.SamePeak -/
theorem SamePeak_spec {F : FH} {L : List HP} {tpv : Value} {tp : List Int} (htp : IntsF F tpv tp) {lfv : Value} {lf : List Int} (hlf : IntsF F lfv lf) {rtv : Value} {rt : List Int} (hrt : IntsF F rtv rt) {i1 : Int} {i2 : Int} {i3 : Int} {tqv : Value} {tq : List Int} (htq : IntsF F tqv tq) {lgv : Value} {lg : List Int} (hlg : IntsF F lgv lg) {ruv : Value} {ru : List Int} (hru : IntsF F ruv ru) {j1 : Int} {j2 : Int} {j3 : Int} (hw1 : tp.length ≤ 9223372036854775807) (hw2 : lf.length ≤ 9223372036854775807) (hw3 : rt.length ≤ 9223372036854775807) :
    Does prog 56 [.agg #[tpv, lfv, rtv, ii (i1), ii (i2), ii (i3)], .agg #[tqv, lgv, ruv, ii (j1), ii (j2), ii (j3)]] F (L) (fun v F' L' => (.bool (decide ((tp, lf, rt, i1, i2, i3) = (tq, lg, ru, j1, j2, j3))) : Value) = v ∧ L = L') := by
 refine qI func56 rfl rfl rfl (qc (qa (cX (jc [tpv, lfv, rtv, ii (i1), ii (i2), ii (i3)] rfl rfl ?_))))
 intro b1
 refine cX (jc [tqv, lgv, ruv, ii (j1), ii (j2), ii (j3)] rfl rfl ?_)
 intro b2
 refine qg (.bool (false)) rfl (qb (qc (qa (cX (qo (0) qC rfl qp (by decide) rfl rfl (cX (qi qW rfl (Rd.own [_] rfl rfl) (cX (qo (1) qC rfl qp (by decide) rfl rfl (cX (qi qW rfl (Rd.own [_] rfl rfl) (cX (qo (2) qC rfl qp (by decide) rfl rfl (cX (qi qW rfl (Rd.own [_] rfl rfl) (cX (qt (s := 1) [tpv, lfv, rtv] [sN] [(0, [tpv]), (1, [lfv]), (2, [rtv])] qB qp jT rfl (by decide) rfl (.cons (cells_one (qD htp)) (.cons (cells_one (qD hlf)) (.cons (cells_one (qD hrt)) CellsAre.nil))) rfl ?_)))))))))))))))))
 intro v1 hv1
 refine cX (qo (0) qC rfl qp (by decide) rfl rfl (cX (qi qW rfl (Rd.own [_] rfl rfl) (cX (qo (1) qC rfl qp (by decide) rfl rfl (cX (qi qW rfl (Rd.own [_] rfl rfl) (cX (qo (2) qC rfl qp (by decide) rfl rfl (cX (qi qW rfl (Rd.own [_] rfl rfl) (cX (qt (s := 1) [tqv, lgv, ruv] [sN] [(0, [tqv]), (1, [lgv]), (2, [ruv])] qB qp jT rfl (by decide) rfl (.cons (cells_one (qD htq)) (.cons (cells_one (qD hlg)) (.cons (cells_one (qD hru)) CellsAre.nil))) rfl ?_)))))))))))))
 intro v2 hv2
 have hc1 : RowsC F [tpv, lfv, rtv] ([tp, lf, rt] : List (List Int)) := (RowsC.snoc (RowsC.snoc (RowsC.snoc (CO.nil : RowsC F [] []) htp) hlf) hrt)
 refine jz [_] _ _ rfl (fun F1 le1 hz1 => ?_)
 replace htq := htq.mono le1
 replace hlg := hlg.mono le1
 replace hru := hru.mono le1
 replace hc1 := hc1.mono le1
 have hf1 : RowsF F1 v1 (([tp, lf, rt] : List (List Int))) := CO.fz hc1 (by first | rfl | omega | (rw [List.length_set]; omega) | (simp; done)) hz1.fz
 have hc2 : RowsC F1 [tqv, lgv, ruv] ([tq, lg, ru] : List (List Int)) := (RowsC.snoc (RowsC.snoc (RowsC.snoc (CO.nil : RowsC F1 [] []) htq) hlg) hru)
 refine jz [] _ _ rfl (fun F2 le2 hz2 => ?_)
 replace hf1 := hf1.mono le2
 replace hc2 := hc2.mono le2
 have hf2 : RowsF F2 v2 (([tq, lg, ru] : List (List Int))) := CO.fz hc2 (by first | rfl | omega | (rw [List.length_set]; omega) | (simp; done)) hz2.fz
 refine cX (qr (args := [v1, v2]) call122 rfl (sameTerms_spec hf1 hf2 (hlu := (by simp)) (hub := (fun i hi => by match i, hi with | 0, _ => exact hw1 | 1, _ => exact hw2 | 2, _ => exact hw3))) ?_)
 rintro _ _ _ _ ⟨rfl, rfl, rfl⟩
 refine qf (.bool (decide ((([tp, lf, rt] : List (List Int))) = (([tq, lg, ru] : List (List Int)))))) rfl ?_
 by_cases h1 : (([tp, lf, rt] : List (List Int))) = (([tq, lg, ru] : List (List Int)))
 ·refine qk (t := 20) rfl (vT h1) (qo (3) qC rfl qm (by decide) rfl rfl (qk (t := 20) rfl (vT h1) (qi qQ rfl (Rd.own [_] rfl rfl) (qk (t := 20) rfl (vT h1) (qo (3) qC rfl qm (by decide) rfl rfl (qk (t := 20) rfl (vT h1) (qi qQ rfl (Rd.own [] rfl rfl) (qk (t := 20) rfl (vT h1) (js rfl rfl (cX (qN (.bool (decide ((i1 : Int) = j1))) (vT h1) rfl (qf (.bool (decide ((i1 : Int) = j1))) rfl ?_))))))))))))
  by_cases h2 : (i1 : Int) = j1
  ·refine qk (t := 27) rfl (vT h2) (qo (4) qC rfl qm (by decide) rfl rfl (qk (t := 27) rfl (vT h2) (qi qQ rfl (Rd.own [_] rfl rfl) (qk (t := 27) rfl (vT h2) (qo (4) qC rfl qm (by decide) rfl rfl (qk (t := 27) rfl (vT h2) (qi qQ rfl (Rd.own [] rfl rfl) (qk (t := 27) rfl (vT h2) (js rfl rfl (cX (qN (.bool (decide ((i2 : Int) = j2))) (vT h2) rfl (qf (.bool (decide ((i2 : Int) = j2))) rfl ?_))))))))))))
   by_cases h3 : (i2 : Int) = j2
   ·refine qk (t := 34) rfl (vT h3) (qo (5) qC rfl qm (by decide) rfl rfl (qk (t := 34) rfl (vT h3) (qi qQ rfl (Rd.own [_] rfl rfl) (qk (t := 34) rfl (vT h3) (qo (5) qC rfl qm (by decide) rfl rfl (qk (t := 34) rfl (vT h3) (qi qQ rfl (Rd.own [] rfl rfl) (qk (t := 34) rfl (vT h3) (js rfl rfl (cX (qN (.bool (decide ((i3 : Int) = j3))) (vT h3) rfl (qg (.bool (decide ((i3 : Int) = j3))) rfl (qb (qw (qv (L' := L) [.bool (decide ((i3 : Int) = j3))] (.bool (decide ((i3 : Int) = j3))) (.tmp rfl .nil) rfl (qh le1 le2) rF (sD (sD sR)) ?_)))))))))))))))
    exact ⟨congrArg Value.bool (decide_eq_decide.2 (by simp_all)), rfl⟩
   refine qn (t := 34) rfl (vF h3) (qn (t := 34) rfl (vF h3) (qn (t := 34) rfl (vF h3) (qn (t := 34) rfl (vF h3) (qn (t := 34) rfl (vF h3) (cX (qG (.bool (false)) (vF h3) rfl (qg (.bool (false)) rfl (qb (qw (qv (L' := L) [.bool (false)] (.bool (false)) (.tmp rfl .nil) rfl (qh le1 le2) rF (sD (sD sR)) ?_))))))))))
   exact ⟨congrArg Value.bool (decide_eq_false (by intro e; simp only [Prod.mk.injEq] at e; obtain ⟨e1, e2, e3, e4, e5, e6⟩ := e; subst e1 e2 e3 e4 e5 e6; simp at *)), rfl⟩
  refine qn (t := 27) rfl (vF h2) (qn (t := 27) rfl (vF h2) (qn (t := 27) rfl (vF h2) (qn (t := 27) rfl (vF h2) (qn (t := 27) rfl (vF h2) (cX (qG (.bool (false)) (vF h2) rfl (qf (.bool (false)) rfl (qn (t := 34) rfl rfl (qn (t := 34) rfl rfl (qn (t := 34) rfl rfl ?_))))))))))
  refine qn (t := 34) rfl rfl (qn (t := 34) rfl rfl (cX (qG (.bool (false)) rfl rfl (qg (.bool (false)) rfl (qb (qw (qv (L' := L) [.bool (false)] (.bool (false)) (.tmp rfl .nil) rfl (qh le1 le2) rF (sD (sD sR)) ?_)))))))
  exact ⟨congrArg Value.bool (decide_eq_false (by intro e; simp only [Prod.mk.injEq] at e; obtain ⟨e1, e2, e3, e4, e5, e6⟩ := e; subst e1 e2 e3 e4 e5 e6; simp at *)), rfl⟩
 refine qn (t := 20) rfl (vF h1) (qn (t := 20) rfl (vF h1) (qn (t := 20) rfl (vF h1) (qn (t := 20) rfl (vF h1) (qn (t := 20) rfl (vF h1) (cX (qG (.bool (false)) (vF h1) rfl (qf (.bool (false)) rfl (qn (t := 27) rfl rfl (qn (t := 27) rfl rfl (qn (t := 27) rfl rfl ?_))))))))))
 refine qn (t := 27) rfl rfl (qn (t := 27) rfl rfl (cX (qG (.bool (false)) rfl rfl (qf (.bool (false)) rfl (qn (t := 34) rfl rfl (qn (t := 34) rfl rfl (qn (t := 34) rfl rfl (qn (t := 34) rfl rfl (qn (t := 34) rfl rfl (cX (qG (.bool (false)) rfl rfl ?_)))))))))))
 refine qg (.bool (false)) rfl (qb (qw (qv (L' := L) [.bool (false)] (.bool (false)) (.tmp rfl .nil) rfl (qh le1 le2) rF (sD (sD sR)) ?_)))
 exact ⟨congrArg Value.bool (decide_eq_false (by intro e; simp only [Prod.mk.injEq] at e; obtain ⟨e1, e2, e3, e4, e5, e6⟩ := e; subst e1 e2 e3 e4 e5 e6; simp at *)), rfl⟩

/- impl.PeakUnder -/
set_option maxRecDepth 20000 in
theorem PeakUnder_spec {F : FH} {L : List HP} {arv : Value} {ar : List Int} (har : IntsF F arv ar) {rsv : Value} {rs : List (List Int × List Int)} (hrs : PairsF F rsv rs) {tpv : Value} {tp : List Int} (htp : IntsF F tpv tp) {lfv : Value} {lf : List Int} (hlf : IntsF F lfv lf) {rtv : Value} {rt : List Int} (hrt : IntsF F rtv rt) {a : Int} {u : Int} {o : Int} {sv : Value} {s : List (List Int)} (hs : RowsF F sv s) (hll0 : lf.length ≤ 4000000) (hlr0 : rt.length ≤ 4000000) :
    Does prog 55 [.agg #[arv, rsv], .agg #[tpv, lfv, rtv, ii (a), ii (u), ii (o)], .agg #[sv]] F (L) (fun v F' L' => ∃ (x : Value), ∃ (y : Value), ∃ (w : Value), (.tuple #[.agg #[x, y, w, ii ((peakUL ar rs tp lf rt a u o s).2.2.2.1.1), ii ((peakUL ar rs tp lf rt a u o s).2.2.2.1.2.1), ii ((peakUL ar rs tp lf rt a u o s).2.2.2.1.2.2)], .bool ((peakUL ar rs tp lf rt a u o s).2.2.2.2)] : Value) = v ∧ (IntsF F' x (peakUL ar rs tp lf rt a u o s).1) ∧ (IntsF F' y (peakUL ar rs tp lf rt a u o s).2.1) ∧ (IntsF F' w (peakUL ar rs tp lf rt a u o s).2.2.1) ∧ (Fresh F F' (star [intsH 2 x (peakUL ar rs tp lf rt a u o s).1, intsH 2 y (peakUL ar rs tp lf rt a u o s).2.1, intsH 2 w (peakUL ar rs tp lf rt a u o s).2.2.1])) ∧ L = L') := by
 refine qI func55 rfl rfl rfl (qc (qa (cX (jc [arv, rsv] rfl rfl ?_))))
 intro b1
 refine cX (jc [tpv, lfv, rtv, ii (a), ii (u), ii (o)] rfl rfl ?_)
 intro b2
 refine cX (jc [sv] rfl rfl ?_)
 intro b3
 refine cX (jo [sN, sN, sN, ii (0), ii (0), ii (0)] jr rfl ?_)
 intro b4
 refine qg (.bool (false)) rfl (qb (qc (qc (qa (cX (qy [arv, rsv] jF jp rfl rfl (Rd.ownN [_, _, _] rfl rfl) (cX (qy [tpv, lfv, rtv, ii (a), ii (u), ii (o)] jM jk rfl rfl (Rd.ownN [_, _] rfl rfl) (cX (qr (args := [.agg #[arv, rsv], .agg #[tpv, lfv, rtv, ii (a), ii (u), ii (o)]]) call52 rfl (PeakOk_spec har hrs htp hlf hrt (hll0 := (by first | assumption | rfl | omega | simp)) (hlr0 := (by first | assumption | rfl | omega | simp))) ?_))))))))))
 rintro _ _ _ _ ⟨rfl, rfl, rfl⟩
 refine cX (jg rfl (qf (.bool (!(peakL ar rs tp lf rt a u o))) rfl ?_))
 by_cases h1 : (!(peakL ar rs tp lf rt a u o)) = true
 ·refine qn (t := 18) rfl (vB h1) (qn (t := 18) rfl (vB h1) (qn (t := 18) rfl (vB h1) (qn (t := 18) rfl (vB h1) (qn (t := 18) rfl (vB h1) (cX (qN (.bool (true)) (vB h1) rfl (qb (jq rfl (qc (qa (cX (qY [sN, sN, sN, ii (0), ii (0), ii (0)] [sN, sN, sN, ii (0), ii (0), ii (0)] [(0, 1), (1, 1), (2, 1), (3, 1), (4, 1), (5, 1)] [] qC jr rfl (.cons rfl qp (.cons rfl qp (.cons rfl qp (.cons rfl qm (.cons rfl qm (.cons rfl qm PlacesAre.nil)))))) rfl CellsAre.nil ?_))))))))))))
  refine cX (qV [] _ [sN, sN, sN, ii (0), ii (0), ii (0)] jk rfl rfl rfl (qs rfl (qs rfl (qs rfl (qs rfl (qs rfl (qs rfl qZ)))))) rfl rfl rfl (qg (.bool (false)) rfl (qb (qw (qq (qv (L' := L) [.agg #[sN, sN, sN, ii (0), ii (0), ii (0)], .bool (false)] (.tuple #[.agg #[sN, sN, sN, ii (0), ii (0), ii (0)], .bool (false)]) (.cell rfl (ju [sN, sN, sN, ii (0), ii (0), ii (0)] jM jk rfl (Rd.ownN [] rfl rfl)) (.tmp rfl .nil)) rfl rF rF (sD (sD (sD (sD sR)))) ?_))))))
  have e : peakUL ar rs tp lf rt a u o s = ([], [], [], (0, 0, 0), false) := peakUL_no (fun h => by obtain ⟨h1, h2, h3, h4, h5⟩ := h; simp_all)
  exact ⟨_, _, _, by rw [e], by rw [e]; exact IntsF.nilV, by rw [e]; exact IntsF.nilV, by rw [e]; exact IntsF.nilV, by rw [e]; exact (Fresh.app (Fresh.app (Fresh.one (Fresh.ofNil (F := F) (F' := F) _)) rF (Fresh.one (Fresh.ofNil (F := F) (F' := F) _)) rF) rF (Fresh.one (Fresh.ofNil (F := F) (F' := F) _)) rF), rfl⟩
 rw [Bool.not_eq_true] at h1
 have hpk : peakL ar rs tp lf rt a u o = true := by simpa using h1
 obtain ⟨hq1, hq2, hq3, hq4⟩ := peakL_iff.1 hpk
 have hto := (stepAt_ok hq3).1
 have hro := (stepAt_ok hq3).2
 have hlo := (stepAt_ok hq4).2
 have htl := termOk_len hto
 have hll := termOk_len hlo
 have hrl := termOk_len hro
 have htg := fun k (hk : k < tp.length) => termOk_ge hto hk
 have hlg := fun k (hk : k < lf.length) => termOk_ge hlo hk
 have hrg := fun k (hk : k < rt.length) => termOk_ge hro hk
 refine qk (t := 18) rfl (vB h1) (qo (0) qK rfl qF (by decide) rfl rfl (qk (t := 18) rfl (vB h1) (qy [arv] ja qF rfl rfl (Rd.ownN [_, _, _] rfl rfl) (qk (t := 18) rfl (vB h1) (qy [sv] jG jl rfl rfl (Rd.ownN [_] rfl rfl) (qk (t := 18) rfl (vB h1) (qr (args := [.agg #[arv], .agg #[sv]]) call121 rfl (SubstOk_spec har hs) ?_)))))))
 rintro _ _ _ _ ⟨rfl, rfl, rfl⟩
 refine qk (t := 18) rfl (vB h1) (jg rfl (cX (qG (.bool (!(substOk ar s))) (vB h1) rfl (qb ?_))))
 refine jO (t := !(substOk ar s)) rfl (fun h2 => ?_) (fun h2 => ?_)
 ·refine qc (qa (cX (qY [sN, sN, sN, ii (0), ii (0), ii (0)] [sN, sN, sN, ii (0), ii (0), ii (0)] [(0, 1), (1, 1), (2, 1), (3, 1), (4, 1), (5, 1)] [] qC jr rfl (.cons rfl qp (.cons rfl qp (.cons rfl qp (.cons rfl qm (.cons rfl qm (.cons rfl qm PlacesAre.nil)))))) rfl CellsAre.nil (cX (qV [] _ [sN, sN, sN, ii (0), ii (0), ii (0)] jk rfl rfl rfl (qs rfl (qs rfl (qs rfl (qs rfl (qs rfl (qs rfl qZ)))))) rfl rfl rfl (qg (.bool (false)) rfl (qb (qw (qq (qv (L' := L) [.agg #[sN, sN, sN, ii (0), ii (0), ii (0)], .bool (false)] (.tuple #[.agg #[sN, sN, sN, ii (0), ii (0), ii (0)], .bool (false)]) (.cell rfl (ju [sN, sN, sN, ii (0), ii (0), ii (0)] jM jk rfl (Rd.ownN [] rfl rfl)) (.tmp rfl .nil)) rfl rF rF (sD (sD (sD (sD sR)))) ?_))))))))))
  have e : peakUL ar rs tp lf rt a u o s = ([], [], [], (0, 0, 0), false) := peakUL_no (fun h => by obtain ⟨h1, h2, h3, h4, h5⟩ := h; simp_all)
  exact ⟨_, _, _, by rw [e], by rw [e]; exact IntsF.nilV, by rw [e]; exact IntsF.nilV, by rw [e]; exact IntsF.nilV, by rw [e]; exact (Fresh.app (Fresh.app (Fresh.one (Fresh.ofNil (F := F) (F' := F) _)) rF (Fresh.one (Fresh.ofNil (F := F) (F' := F) _)) rF) rF (Fresh.one (Fresh.ofNil (F := F) (F' := F) _)) rF), rfl⟩
 have hsk : substOk ar s = true := by simpa using h2
 have hsk2 := substOk_len hsk
 have hsk3 := (substOk_iff.1 hsk).2.1
 refine qz (qc (qa (cX (qy [sv] jG jl rfl rfl (Rd.ownN [_] rfl rfl) (cX (qo (0) qC rfl qp (by decide) rfl rfl (cX (qi qW rfl (Rd.own [_, _] rfl rfl) (cX (qr (args := [.agg #[sv], tpv]) call74 rfl (fill_spec hs htp (hsl := (by first | assumption | rfl | omega | simp)) (hsb := (fun i => by have := hsk2 i; omega)) (htl := (by first | assumption | rfl | omega | simp)) (htg := (by first | (exact fun k hk => by have := htg k hk; omega) | (exact fun k hk => by have := hlg k hk; omega) | (exact fun k hk => by have := hrg k hk; omega)))) ?_))))))))))
 rintro _ F1 _ le1 ⟨x1, rfl, hr1, hr2, rfl⟩
 replace hlf := hlf.mono le1
 replace hrt := hrt.mono le1
 replace hs := hs.mono le1
 refine qf (.tuple #[x1, .bool ((fillL s tp).isSome)]) rfl (cX (qH (x1) rfl rfl (cX (qH (.bool ((fillL s tp).isSome)) rfl rfl (qg (x1) rfl (qg (.bool ((fillL s tp).isSome)) rfl (qb (qc (qa (cX (qy [sv] jG jl rfl rfl (Rd.ownN [_] rfl rfl) (cX (qo (1) qC rfl qp (by decide) rfl rfl (cX (qi qW rfl (Rd.own [_, _] rfl rfl) (cX (qr (args := [.agg #[sv], lfv]) call74 rfl (fill_spec hs hlf (hsl := (by first | assumption | rfl | omega | simp)) (hsb := (fun i => by have := hsk2 i; omega)) (htl := (by first | assumption | rfl | omega | simp)) (htg := (by first | (exact fun k hk => by have := htg k hk; omega) | (exact fun k hk => by have := hlg k hk; omega) | (exact fun k hk => by have := hrg k hk; omega)))) ?_)))))))))))))))))
 rintro _ F2 _ le2 ⟨x2, rfl, hr3, hr4, rfl⟩
 replace hrt := hrt.mono le2
 replace hs := hs.mono le2
 replace hr1 := hr1.mono le2
 refine qf (.tuple #[x2, .bool ((fillL s lf).isSome)]) rfl (cX (qH (x2) rfl rfl (cX (qH (.bool ((fillL s lf).isSome)) rfl rfl (qg (x2) rfl (qg (.bool ((fillL s lf).isSome)) rfl (qb (qc (qa (cX (qy [sv] jG jl rfl rfl (Rd.ownN [_] rfl rfl) (cX (qo (2) qC rfl qp (by decide) rfl rfl (cX (qi qW rfl (Rd.own [_, _] rfl rfl) (cX (qr (args := [.agg #[sv], rtv]) call74 rfl (fill_spec hs hrt (hsl := (by first | assumption | rfl | omega | simp)) (hsb := (fun i => by have := hsk2 i; omega)) (htl := (by first | assumption | rfl | omega | simp)) (htg := (by first | (exact fun k hk => by have := htg k hk; omega) | (exact fun k hk => by have := hlg k hk; omega) | (exact fun k hk => by have := hrg k hk; omega)))) ?_)))))))))))))))))
 rintro _ F3 _ le3 ⟨x3, rfl, hr5, hr6, rfl⟩
 replace hr1 := hr1.mono le3
 replace hr3 := hr3.mono le3
 refine qf (.tuple #[x3, .bool ((fillL s rt).isSome)]) rfl (cX (qH (x3) rfl rfl (cX (qH (.bool ((fillL s rt).isSome)) rfl rfl (qg (x3) rfl (qg (.bool ((fillL s rt).isSome)) rfl (qb (qc (qc (qa (qf (.bool ((fillL s tp).isSome)) rfl (cX (jg rfl (qf (.bool (!((fillL s tp).isSome))) rfl ?_))))))))))))))
 by_cases h3 : (!((fillL s tp).isSome)) = true
 ·refine qn (t := 49) rfl (vB h3) (qn (t := 49) rfl (vB h3) (cX (qN (.bool (true)) (vB h3) rfl (qf (.bool (true)) rfl (qn (t := 53) rfl rfl (qn (t := 53) rfl rfl (cX (qN (.bool (true)) rfl rfl (qb (jq rfl (qc (qa ?_))))))))))))
  refine cX (qY [sN, sN, sN, ii (0), ii (0), ii (0)] [sN, sN, sN, ii (0), ii (0), ii (0)] [(0, 1), (1, 1), (2, 1), (3, 1), (4, 1), (5, 1)] [] qC jr rfl (.cons rfl qp (.cons rfl qp (.cons rfl qp (.cons rfl qm (.cons rfl qm (.cons rfl qm PlacesAre.nil)))))) rfl CellsAre.nil (cX (qV [] _ [sN, sN, sN, ii (0), ii (0), ii (0)] jk rfl rfl rfl (qs rfl (qs rfl (qs rfl (qs rfl (qs rfl (qs rfl qZ)))))) rfl rfl rfl (qg (.bool (false)) rfl (qb (qw (qq (qv (L' := L) [.agg #[sN, sN, sN, ii (0), ii (0), ii (0)], .bool (false)] (.tuple #[.agg #[sN, sN, sN, ii (0), ii (0), ii (0)], .bool (false)]) (.cell rfl (ju [sN, sN, sN, ii (0), ii (0), ii (0)] jM jk rfl (Rd.ownN [] rfl rfl)) (.tmp rfl .nil)) rfl (qh (qh le1 le2) le3) rF (sD (sD (sD (sD sR)))) ?_))))))))
  have e : peakUL ar rs tp lf rt a u o s = ([], [], [], (0, 0, 0), false) := peakUL_no (fun h => by obtain ⟨h1, h2, h3, h4, h5⟩ := h; simp_all)
  exact ⟨_, _, _, by rw [e], by rw [e]; exact IntsF.nilV, by rw [e]; exact IntsF.nilV, by rw [e]; exact IntsF.nilV, by rw [e]; exact (Fresh.app (Fresh.app ((Fresh.one (Fresh.ofNil (F := F3) (F' := F3) _)).base (qh (qh le1 le2) le3)) (qh (qh le1 le2) le3) (Fresh.one (Fresh.ofNil (F := F3) (F' := F3) _)) rF) (qh (qh le1 le2) le3) (Fresh.one (Fresh.ofNil (F := F3) (F' := F3) _)) rF), rfl⟩
 rw [Bool.not_eq_true] at h3
 refine qk (t := 49) rfl (vB h3) (ql (.bool ((fillL s lf).isSome)) rfl (qk (t := 49) rfl (vB h3) (jg rfl (cX (qG (.bool (!((fillL s lf).isSome))) (vB h3) rfl (qf (.bool (!((fillL s lf).isSome))) rfl ?_))))))
 by_cases h4 : (!((fillL s lf).isSome)) = true
 ·refine qn (t := 53) rfl (vB h4) (qn (t := 53) rfl (vB h4) (cX (qN (.bool (true)) (vB h4) rfl (qb (jq rfl (qc (qa (cX (qY [sN, sN, sN, ii (0), ii (0), ii (0)] [sN, sN, sN, ii (0), ii (0), ii (0)] [(0, 1), (1, 1), (2, 1), (3, 1), (4, 1), (5, 1)] [] qC jr rfl (.cons rfl qp (.cons rfl qp (.cons rfl qp (.cons rfl qm (.cons rfl qm (.cons rfl qm PlacesAre.nil)))))) rfl CellsAre.nil (cX (qV [] _ [sN, sN, sN, ii (0), ii (0), ii (0)] jk rfl rfl rfl (qs rfl (qs rfl (qs rfl (qs rfl (qs rfl (qs rfl qZ)))))) rfl rfl rfl (qg (.bool (false)) rfl (qb ?_)))))))))))))
  refine qw (qq (qv (L' := L) [.agg #[sN, sN, sN, ii (0), ii (0), ii (0)], .bool (false)] (.tuple #[.agg #[sN, sN, sN, ii (0), ii (0), ii (0)], .bool (false)]) (.cell rfl (ju [sN, sN, sN, ii (0), ii (0), ii (0)] jM jk rfl (Rd.ownN [] rfl rfl)) (.tmp rfl .nil)) rfl (qh (qh le1 le2) le3) rF (sD (sD (sD (sD sR)))) ?_))
  have e : peakUL ar rs tp lf rt a u o s = ([], [], [], (0, 0, 0), false) := peakUL_no (fun h => by obtain ⟨h1, h2, h3, h4, h5⟩ := h; simp_all)
  exact ⟨_, _, _, by rw [e], by rw [e]; exact IntsF.nilV, by rw [e]; exact IntsF.nilV, by rw [e]; exact IntsF.nilV, by rw [e]; exact (Fresh.app (Fresh.app ((Fresh.one (Fresh.ofNil (F := F3) (F' := F3) _)).base (qh (qh le1 le2) le3)) (qh (qh le1 le2) le3) (Fresh.one (Fresh.ofNil (F := F3) (F' := F3) _)) rF) (qh (qh le1 le2) le3) (Fresh.one (Fresh.ofNil (F := F3) (F' := F3) _)) rF), rfl⟩
 rw [Bool.not_eq_true] at h4
 refine qk (t := 53) rfl (vB h4) (ql (.bool ((fillL s rt).isSome)) rfl (qk (t := 53) rfl (vB h4) (jg rfl (cX (qG (.bool (!((fillL s rt).isSome))) (vB h4) rfl (qb ?_))))))
 refine jO (t := !((fillL s rt).isSome)) rfl (fun h5 => ?_) (fun h5 => ?_)
 ·refine qc (qa (cX (qY [sN, sN, sN, ii (0), ii (0), ii (0)] [sN, sN, sN, ii (0), ii (0), ii (0)] [(0, 1), (1, 1), (2, 1), (3, 1), (4, 1), (5, 1)] [] qC jr rfl (.cons rfl qp (.cons rfl qp (.cons rfl qp (.cons rfl qm (.cons rfl qm (.cons rfl qm PlacesAre.nil)))))) rfl CellsAre.nil (cX (qV [] _ [sN, sN, sN, ii (0), ii (0), ii (0)] jk rfl rfl rfl (qs rfl (qs rfl (qs rfl (qs rfl (qs rfl (qs rfl qZ)))))) rfl rfl rfl (qg (.bool (false)) rfl (qb (qw (qq (qv (L' := L) [.agg #[sN, sN, sN, ii (0), ii (0), ii (0)], .bool (false)] (.tuple #[.agg #[sN, sN, sN, ii (0), ii (0), ii (0)], .bool (false)]) (.cell rfl (ju [sN, sN, sN, ii (0), ii (0), ii (0)] jM jk rfl (Rd.ownN [] rfl rfl)) (.tmp rfl .nil)) rfl (qh (qh le1 le2) le3) rF (sD (sD (sD (sD sR)))) ?_))))))))))
  have e : peakUL ar rs tp lf rt a u o s = ([], [], [], (0, 0, 0), false) := peakUL_no (fun h => by obtain ⟨h1, h2, h3, h4, h5⟩ := h; simp_all)
  exact ⟨_, _, _, by rw [e], by rw [e]; exact IntsF.nilV, by rw [e]; exact IntsF.nilV, by rw [e]; exact IntsF.nilV, by rw [e]; exact (Fresh.app (Fresh.app ((Fresh.one (Fresh.ofNil (F := F3) (F' := F3) _)).base (qh (qh le1 le2) le3)) (qh (qh le1 le2) le3) (Fresh.one (Fresh.ofNil (F := F3) (F' := F3) _)) rF) (qh (qh le1 le2) le3) (Fresh.one (Fresh.ofNil (F := F3) (F' := F3) _)) rF), rfl⟩
 refine qz (qc (qa (qf (x1) rfl (qf (x2) rfl (qf (x3) rfl (cX (qo (3) qC rfl qm (by decide) rfl rfl (cX (qi qQ rfl (Rd.own [_, _] rfl rfl) (cX (qo (4) qC rfl qm (by decide) rfl rfl (cX (qi qQ rfl (Rd.own [_, _] rfl rfl) (cX (qo (5) qC rfl qm (by decide) rfl rfl (cX (qi qQ rfl (Rd.own [_, _] rfl rfl) ?_)))))))))))))))))
 refine cX (qY [x1, x2, x3, ii (a), ii (u), ii (o)] [sN, sN, sN, ii (0), ii (0), ii (0)] [(0, 1), (1, 1), (2, 1), (3, 1), (4, 1), (5, 1)] [(0, [x1]), (1, [x2]), (2, [x3]), (3, [ii (a)]), (4, [ii (u)]), (5, [ii (o)])] qC jr rfl (.cons rfl qp (.cons rfl qp (.cons rfl qp (.cons rfl qm (.cons rfl qm (.cons rfl qm PlacesAre.nil)))))) rfl (.cons (cells_one (qD hr1)) (.cons (cells_one (qD hr3)) (.cons (cells_one (qD hr5)) (.cons rfl (.cons rfl (.cons rfl CellsAre.nil)))))) (cX (qV [] _ [x1, x2, x3, ii (a), ii (u), ii (o)] jk rfl rfl rfl (qs (jb (qD hr1)) (qs (jb (qD hr3)) (qs (jb (qD hr5)) (qs rfl (qs rfl (qs rfl qZ)))))) rfl rfl rfl (qg (.bool (true)) rfl (qb (qw (qv (L' := L) [.agg #[x1, x2, x3, ii (a), ii (u), ii (o)], .bool (true)] (.tuple #[.agg #[x1, x2, x3, ii (a), ii (u), ii (o)], .bool (true)]) (.cell rfl (ju [x1, x2, x3, ii (a), ii (u), ii (o)] jM jk rfl (Rd.ownN [] rfl rfl)) (.tmp rfl .nil)) rfl (qh (qh le1 le2) le3) rF (sD (sD (sD (sD sR)))) ?_)))))))
 have e := peakUL_yes (ar := ar) (rs := rs) (top := tp) (left := lf) (right := rt) (a := a) (u := u) (o := o) (s := s) ⟨hpk, by simp_all, by simp_all, by simp_all, by simp_all⟩
 exact ⟨_, _, _, by rw [e], by rw [e]; exact hr1, by rw [e]; exact hr3, by rw [e]; exact hr5, by rw [e]; exact (Fresh.app (Fresh.app (Fresh.one hr2) le1 (Fresh.one hr4) le2) (qh le1 le2) (Fresh.one hr6) le3), rfl⟩
end Go.Proofs.Ytcdjpapjjoldeaa
