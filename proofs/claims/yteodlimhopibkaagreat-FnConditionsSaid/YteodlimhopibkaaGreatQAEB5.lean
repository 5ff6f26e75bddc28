/-
  Walks, one after the other (part 6).
-/
import Derived.Test.YteodlimhopibkaaGreatQAEL1
import Derived.Test.YteodlimhopibkaaGreatQAEB4
set_option linter.unusedSimpArgs false
set_option linter.unusedVariables false
namespace Go.Proofs.YteodlimhopibkaaGreat
open Go X M Tryz

/- spec.l27DrawTerm -/
set_option maxHeartbeats 1000000 in
set_option maxRecDepth 20000 in
theorem l27DrawTerm_spec {F : FH} {L : List HP} {cb : Nat} {bsv : Value} {bs : List Int} (hbs : BytesF F bsv bs) (hbl : bs.length ≤ 4000000) {arv : Value} {ar : List Int} (har : IntsF F arv ar) {crv : Value} {cr : List CRuleT} (hcr : CRulesF F crv cr) (hla : ar.length ≤ 20) (hlr : cr.length ≤ 4) (hsm : crulesS 3 cr = true) :
    Does prog 41 [ptr cb 0, .agg #[arv, crv]] F (curH .i64 75 cb bsv bs.length :: L) (fun v F' L' => (∃ (a : Value), (a : Value) = v ∧ (SomesF F' a (fun u => u.length ≤ 2000))) ∧ curH .i64 75 cb bsv bs.length :: L = L') := by
 refine qL func41 rfl rfl rfl ?_
 have hrb := crulesS_bounds hsm
 refine qg (qd (cX (je [arv, crv] rfl rfl ?_)))
 intro b1
 refine qj (sN) rfl (qf (qg (qg (qd (cX (qs [arv, crv] qY qK rfl rfl (Rd.ownN [] rfl rfl) (cX (qn (args := [.agg #[arv, crv]]) call30 rfl (sCSystemOk_spec har hcr (hla := (by first | assumption | rfl | omega | simp)) (hlr := (by first | assumption | rfl | omega | simp)) (hrb := (hrb))) ?_))))))))
 rintro _ _ _ _ ⟨rfl, rfl, rfl⟩
 refine cX (jg rfl (qf ?_))
 refine js (t := !(csysOk ar cr)) rfl (fun h1 => ?_) (fun h1 => ?_)
 ·refine qg (qd (qi (ptr cb 0) rfl (cX (qq (0) qF rfl qB (by decide) rfl rfl (cX (qs [arv] qW qB rfl rfl (Rd.ownN [] rfl rfl) (cX (qn (args := [ptr cb 0, .agg #[arv]]) call74 rfl (qZ [_] (l1DrawAny_spec hbs (by omega) har (hal := (by first | assumption | rfl | omega | simp)))) ?_))))))))
  rintro _ F1 _ le1 ⟨⟨x1, rfl, hr1⟩, rfl⟩
  obtain ⟨t1, hr1, q1⟩ := hr1
  replace hbs := hbs.mono le1
  replace har := har.mono le1
  replace hcr := hcr.mono le1
  show XL _ _ _ _ _ _ _ (cellsH b1 [arv, crv] 29 :: curH .i64 75 cb bsv bs.length :: L)
  refine qj (x1) rfl (qf (qu (ql (qt (L' := curH .i64 75 cb bsv bs.length :: L) [x1] (x1) (.tmp rfl .nil) rfl le1 rF (sD (sC sR)) ?_))))
  exact ⟨⟨_, rfl, ⟨_, hr1, by omega⟩⟩, rfl⟩
 have hcs : csysOk ar cr = true := by simpa using h1
 have hso := (csysOk_iff.1 hcs).1
 refine qz (qg (qg (qd (cX (qq (1) qF rfl jp (by decide) rfl rfl (cX (qm jz rfl (Rd.own [] rfl rfl) (cX (qE qU rfl hcr.slv (cX (jF rfl rfl (qi (.bool (decide (((cr.length : Int) : Int) > 0))) rfl ?_))))))))))))
 by_cases h2 : ((cr.length : Int) : Int) > 0
 ·refine qr (t := 20) rfl (vT h2) (qo (ptr cb 0) rfl (qr (t := 20) rfl (vT h2) (qn (args := [ptr cb 0, ii (3)]) call28 rfl (qZ [_] (l1Once_spec (n := 3) hbs (by omega) (hn := (by first | assumption | rfl | omega | simp)))) ?_)))
  rintro _ _ _ _ ⟨⟨rfl, x2, rfl⟩, rfl⟩
  show XL _ _ _ _ _ _ _ (cellsH b1 [arv, crv] 29 :: curH .i64 75 cb bsv bs.length :: L)
  refine qr (t := 20) rfl (vT h2) (jg rfl (cX (qN (.bool (!(x2))) (vT h2) rfl (qf ?_))))
  refine js (t := !(x2)) rfl (fun h3 => ?_) (fun h3 => ?_)
  ·refine qg (qd (cX (jk [sN] [sN] [(0, 1)] [] jd jT rfl (.cons rfl jy PlacesAre.nil) rfl CellsAre.nil (cX (jm [sN] jT rfl ?_)))))
   intro b2
   refine cX (qO [] _ [sN] jJ rfl rfl rfl (qw rfl qT) rfl rfl rfl (qf (qg (qg (qd (qj (ii (0)) rfl (qf (qQ (jr (α := Nat × Value × List (List Int) × List Value × Nat × FH) (fun xQ => [(0, ptr cb 0), (3, ptr b1 0), (5, ptr b2 0), (6, ii (((xQ.1 : Nat) : Int)))]) (fun xQ => slH 24 1 xQ.2.1 xQ.2.2.2.2.1 xQ.2.2.2.1 :: cellsH b2 [xQ.2.1] 95 :: cellsH b1 [arv, crv] 29 :: curH .i64 75 cb bsv bs.length :: L) (fun xQ F' => xQ.2.2.2.2.2 = F' ∧ F ≤ xQ.2.2.2.2.2 ∧ (IsSl xQ.2.1) ∧ (RowsC xQ.2.2.2.2.2 xQ.2.2.2.1 xQ.2.2.1) ∧ (xQ.2.2.2.2.1 = xQ.2.2.1.length) ∧ (xQ.1 ≤ 3) ∧ (xQ.2.2.1.length = xQ.1) ∧ (∀ i, (xQ.2.2.1.getD i []).length ≤ 2000)) (fun xQ => 3 - xQ.1) (0, sN, [], [], 0, F) ⟨rfl, rfl, rfl, rfl, ⟨⟩⟩ (jN (Sub.addNil 24 1 _ _) (sC (sC (sC (sC sR))))) ⟨rfl, FLe.refl _, (⟨_, _, _, rfl⟩), (CO.nil), (rfl), (Nat.zero_le _), (rfl), (fun i => by simp)⟩ ?_)))))))))
   rintro ⟨k, ov, os, cs, m, G1⟩ rE _ _ ⟨rfl, leG, hov, hC, hm, hk, hon, hob⟩
   show X _ _ _ _ (envs [(0, ptr cb 0), (3, ptr b1 0), (5, ptr b2 0), (6, ii ((k : Int)))] rE) _ (slH 24 1 ov m cs :: cellsH b2 [ov] 95 :: cellsH b1 [arv, crv] 29 :: curH .i64 75 cb bsv bs.length :: L)
   replace leG : F ≤ G1 := leG
   dsimp only at hov hC hm hk hon hob
   have leG1 := leG
   replace hbs := hbs.mono leG1
   replace har := har.mono leG1
   replace hcr := hcr.mono leG1
   refine qg (qg (qd (qi (ii ((k : Int))) rfl (cX (jb rfl rfl (qf ?_))))))
   refine qH (p := (k : Int) < 3) rfl (fun h4 => ?_) (fun h4 => ?_)
   ·refine qz (qg (qQ ?_))
    refine jG [slH 24 1 ov m cs, cellsH b2 [ov] 95, cellsH b1 [arv, crv] 29, curH .i64 75 cb bsv bs.length] L 10 [[], [], [], [], [], [], [], [6], [6], [8]] [[], [0], [], [], [3], [], [5], [6], [2, 4, 6, 7], [6, 8]] [] (phiG [pe (ptr b2 0), pe ov, pe (ptr cb 0), pe (ptr b1 0), pe (.agg #[arv]), pe (ptr cb 0), fun FF us v => (ii (((intAt v))) : Value) = v ∧ (0 ≤ ((intAt v)) ∧ (((intAt v)) < 3 ∨ ((intAt v)) = 0)), fun FF us v => v = (ii (1 + (((intAt (us.getD 0 undef))))) : Value), fun FF us v => ((v) : Value) = v ∧ (SomeFrsF 2 G1 FF (v) (fun t => goodT ar t ∧ 1 ≤ t.length ∧ t.length ≤ szT ((1 + (((intAt (us.getD 0 undef))))).toNat))), fun FF us v => ∃ b, v = .slice (some ⟨b, 0, none⟩) 1 1]) (ownL [o0, o0, o0, o0, o0, o0, o0, o0, o0, fun us v => [slH 24 1 v 1 [((us.getD 0 undef))]]]) mixed rfl rfl (by kernel_rfl) (by kernel_rfl) (MonoG.get (m1 (m1 (m1 (m1 (m1 (m1 (mC (fun le h => ⟨h.1, h.2⟩) (mC (fun le h => h) (mC (fun le h => ⟨h.1, h.2.mono le⟩) (mC (fun le h => h) MonoG.nil))))))))))) ?_ ?_
    ·refine gD (fun W Fs R lF z9 => ?_) ?_
     ·refine qk (qq (0) jd rfl jy (by decide) rfl rfl ?_)
      exact ⟨rfl, rfl⟩
     refine gD (fun W Fs R lF z9 => ?_) ?_
     ·replace hbs := hbs.mono lF
      replace har := har.mono lF
      replace hcr := hcr.mono lF
      replace hC := hC.mono lF
      rw [zA 0 (z9 0 rfl)]
      refine qk (qm isAgg70 rfl (Rd.own [_] rfl rfl) ?_)
      exact ⟨rfl, rfl⟩
     refine gD (fun W Fs R lF z9 => ?_) ?_
     ·refine qk (qo (ptr cb 0) rfl ?_)
      exact ⟨rfl, rfl⟩
     refine gD (fun W Fs R lF z9 => ?_) ?_
     ·refine qk (qq (0) qF rfl qB (by decide) rfl rfl ?_)
      exact ⟨rfl, rfl⟩
     refine gD (fun W Fs R lF z9 => ?_) ?_
     ·replace hbs := hbs.mono lF
      replace har := har.mono lF
      replace hcr := hcr.mono lF
      replace hC := hC.mono lF
      rw [zA 3 (z9 3 rfl)]
      refine qk (qs [arv] qW qB rfl rfl (Rd.ownN [_, _] rfl rfl) ?_)
      exact ⟨rfl, rfl⟩
     refine gD (fun W Fs R lF z9 => ?_) ?_
     ·refine qk (qo (ptr cb 0) rfl ?_)
      exact ⟨rfl, rfl⟩
     refine gD (fun W Fs R lF z9 => ?_) ?_
     ·replace hbs := hbs.mono lF
      replace har := har.mono lF
      replace hcr := hcr.mono lF
      replace hC := hC.mono lF
      rw [zA 5 (z9 5 rfl)]
      refine qk (qn (args := [ptr cb 0, ii (3)]) jO rfl (qZ [_, _, _] (l1Below_spec (n := 3) hbs (by omega) (hn := (by first | assumption | rfl | omega | simp)))) ?_)
      rintro _ _ _ _ ⟨⟨rfl, x5, rfl, hr4⟩, rfl⟩
      exact ⟨⟨rfl, hr4⟩, rfl⟩
     refine gD (fun W Fs R lF z9 => ?_) ?_
     ·obtain ⟨e6, f6_1hx⟩ := z9 6 rfl
      rw [eS (l := [(6, (ii (((intAt (W 6))))))]) ⟨(e6).symm, ⟨⟩⟩]
      refine qk (qS (1 + (((intAt (W 6))))) rfl rfl (by omega) (by omega) ?_)
      exact ⟨rfl, rfl⟩
     refine gD (fun W Fs R lF z9 => ?_) ?_
     ·obtain ⟨e6, f6_1hx⟩ := z9 6 rfl
      have e7 : W 7 = (ii (1 + (((intAt (W 6))))) : Value) := z9 7 rfl
      replace hbs := hbs.mono lF
      replace har := har.mono lF
      replace hcr := hcr.mono lF
      replace hC := hC.mono lF
      rw [eS (l := [(2, _), (4, _), (6, (ii (((intAt (W 6)))))), (7, (ii (1 + (((intAt (W 6)))))))]) ⟨z9 2 rfl, z9 4 rfl, (e6).symm, e7, ⟨⟩⟩]
      refine qk (qn (args := [ptr cb 0, .agg #[arv], ii (((1 + (((intAt (W 6))))).toNat : Nat) : Int), ii (0)]) call75 (by rw [show (((1 + (((intAt (W 6))))).toNat : Nat) : Int) = 1 + (((intAt (W 6)))) from by omega]; rfl) (qZ [_, _, _] (l1DrawTermF_spec (dp := (1 + (((intAt (W 6))))).toNat) (vs := 0) hbs (by omega) har (hso := (by first | assumption | rfl | omega | simp)) (hdp := (by first | assumption | rfl | omega | simp)) (hvs := (by first | assumption | rfl | omega | simp)))) ?_)
      rintro _ F6 _ le6 ⟨⟨x6, rfl, hr5⟩, rfl⟩
      replace hbs := hbs.mono le6
      replace har := har.mono le6
      replace hcr := hcr.mono le6
      replace hC := hC.mono le6
      exact ⟨⟨rfl, (hr5.base lF)⟩, rfl⟩
     refine gD (fun W Fs R lF z9 => ?_) ?_
     ·obtain ⟨e6, f6_1hx⟩ := z9 6 rfl
      obtain ⟨e8, f8_1hp⟩ : (((W 8)) : Value) = (W 8) ∧ (SomeFrsF 2 G1 Fs ((W 8)) (fun t => goodT ar t ∧ 1 ≤ t.length ∧ t.length ≤ szT ((1 + (((intAt (W 6))))).toNat))) := z9 8 rfl
      obtain ⟨t8_1, hf8_1, hq8_1, hz8_1⟩ := id f8_1hp
      replace hbs := hbs.mono lF
      replace har := har.mono lF
      replace hcr := hcr.mono lF
      replace hC := hC.mono lF
      rw [eS (l := [(6, (ii (((intAt (W 6)))))), (8, ((W 8)))]) ⟨(e6).symm, (e8).symm, ⟨⟩⟩]
      refine qk (qx (s := 1) [((W 8))] [sN] [(0, [((W 8))])] ja qy zeroValue24 rfl (by decide) rfl (.cons (cells_one (qv hf8_1)) CellsAre.nil) rfl ?_)
      intro v2 hv2
      exact ⟨hv2, rfl⟩
     exact stepsG.nil
    intro W F7 le7 hphi
    obtain ⟨e6, f6_1hx⟩ := hphi 6 (by decide)
    have e7 : W 7 = (ii (1 + (((intAt (W 6))))) : Value) := hphi 7 (by decide)
    obtain ⟨e8, f8_1hp⟩ : (((W 8)) : Value) = (W 8) ∧ (SomeFrsF 2 G1 F7 ((W 8)) (fun t => goodT ar t ∧ 1 ≤ t.length ∧ t.length ≤ szT ((1 + (((intAt (W 6))))).toNat))) := hphi 8 (by decide)
    obtain ⟨t8_1, hf8_1, hq8_1, hz8_1⟩ := id f8_1hp
    have f9 : ∃ b, (W 9) = .slice (some ⟨b, 0, none⟩) 1 1 := hphi 9 (by decide)
    generalize hu1 : (intAt (W 6)) = u1 at e6 f6_1hx e7 e8 f8_1hp hf8_1 hq8_1 hz8_1 f9
    generalize hu2 : ((W 8)) = u2 at e6 f6_1hx e7 e8 f8_1hp hf8_1 hq8_1 hz8_1 f9
    generalize huu9 : W 9 = u3 at e6 f6_1hx e7 e8 f8_1hp hf8_1 hq8_1 hz8_1 f9
    rw [eS (l := [(1, _), (6, (ii ((u1)))), (8, u2), (9, u3)]) ⟨(hphi 1 (by decide)), (e6).symm, hu2, huu9, ⟨⟩⟩]
    replace hbs := hbs.mono le7
    replace har := har.mono le7
    replace hcr := hcr.mono le7
    replace hC := hC.mono le7
    show XL _ _ _ _ _ _ _ (slH 24 1 u3 1 [u2] :: slH 24 1 ov m cs :: cellsH b2 [ov] 95 :: cellsH b1 [arv, crv] 29 :: curH .i64 75 cb bsv bs.length :: L)
    refine cX (XOp.append (m := 1) (bytes := 24) (cs := cs) [_] _ [u2] ja typeInfo24 rfl rfl rfl rfl rfl rfl rfl (SlV.own [] rfl) rfl (Rd.lit [] rfl) (qw (qJ (qv hf8_1)) qT) (by (try simp only [List.length_append, List.length_nil, List.length_cons, List.length_singleton]); omega) (by (try simp only [List.length_append, List.length_nil, List.length_cons, List.length_singleton]); omega) ?_)
    intro v3 hs1 hn1 hm1
    have hc1 := RowsC.snoc hC hf8_1
    refine cX (qq (0) jd rfl jy (by decide) rfl rfl (cX (jL [_, _] _ [v3] jy rfl rfl (qJ hs1) rfl rfl rfl (qf (qd (qi (ii ((k : Int))) rfl (cX (qS (((k + 1 : Nat) : Int)) rfl rfl (by omega) (by omega) (qj (ii (((k + 1 : Nat) : Int))) rfl (qf ?_))))))))))
    exact ⟨(k + 1, v3, os ++ [t8_1], cs ++ [u2], (m) + 1, F7), _, (qc leG1 le7), rF, ⟨rfl, rfl, rfl, rfl, ⟨⟩⟩, (sD (sC (sC (sC (sC sR))))), ⟨rfl, (qc leG1 le7), (hs1), (hc1), (by (try dsimp only); rw [List.length_append]; simp only [List.length_singleton]; omega), (by (try dsimp only) <;> omega), (by (try dsimp only); rw [List.length_append]; simp only [List.length_singleton]; omega), (rows_snoc hob (Nat.le_trans hq8_1.2.2 (Nat.le_trans (szT_le (e := 4) (by omega)) (by decide))))⟩, (by omega)⟩
   refine jn (qA (qA (qV (qg (ji [] _ _ rfl (fun F8 le8 hz1 => ?_))))))
   replace hbs := hbs.mono le8
   replace har := har.mono le8
   replace hcr := hcr.mono le8
   replace hC := hC.mono le8
   have hf1 : RowsF F8 ov os := CO.fz hC (by first | rfl | omega | (rw [List.length_set]; omega) | (simp; done)) hz1.fz
   refine jG [cellsH b2 [ov] 95, cellsH b1 [arv, crv] 29, curH .i64 75 cb bsv bs.length] L 16 [[], [], [], [], [], [], [], [], [7], [7], [7], [], [11], [11], [11], [11]] [[], [], [1], [], [], [4], [5], [3, 6], [2, 7], [7, 8], [7, 9], [0, 7, 10], [11], [11, 12], [11, 12], [11, 13]] [] (phiG [pe (.agg #[ov]), pe (ptr b1 1), pe crv, pe (ptr cb 0), pe (ptr b1 1), pe crv, pe (ii ((cr.length : Int)) : Value), fun FF us v => (ii (((intAt v))) : Value) = v ∧ (0 ≤ ((intAt v)) ∧ (((intAt v)) < ((cr.length : Int)) ∨ ((intAt v)) = 0)), fun FF us v => v = (.pointer (some (elemA crv (((((intAt (us.getD 0 undef)))).toNat) * 3))) : Value), fun FF us v => v = (.pointer (some (elemA crv (((((intAt (us.getD 0 undef)))).toNat) * 3))) : Value), fun FF us v => (v : Value) = v ∧ (IntsF FF v ((cr.getD ((((intAt (us.getD 0 undef)))).toNat) ([], [], [])).1)), fun FF us v => (.tuple #[((tupAt v 0)), .bool (((boolAt (tupAt v 1))))] : Value) = v ∧ (SomesF FF ((tupAt v 0)) (fun u => u.length ≤ 60)), fun FF us v => v = (.tuple #[((tupAt (us.getD 0 undef) 0)), .bool (((boolAt (tupAt (us.getD 0 undef) 1))))] : Value), fun FF us v => v = ((tupAt (us.getD 0 undef) 0)), fun FF us v => v = (.bool (((boolAt (tupAt (us.getD 0 undef) 1)))) : Value), fun FF us v => v = ((tupAt (us.getD 0 undef) 0))]) (ownL []) mixed rfl rfl (by kernel_rfl) (by kernel_rfl) (MonoG.get (m1 (m1 (m1 (m1 (m1 (m1 (m1 (mC (fun le h => ⟨h.1, h.2⟩) (mC (fun le h => h) (mC (fun le h => h) (mC (fun le h => ⟨h.1, h.2.mono le⟩) (mC (fun le h => ⟨h.1, h.2.mono le⟩) (mC (fun le h => h) (mC (fun le h => h) (mC (fun le h => h) (mC (fun le h => h) MonoG.nil))))))))))))))))) ?_ ?_
   ·refine gD (fun W Fs R lF z9 => ?_) ?_
    ·replace hbs := hbs.mono lF
     replace har := har.mono lF
     replace hcr := hcr.mono lF
     replace hf1 := hf1.mono lF
     refine qk (qs [ov] isAgg95 jJ rfl rfl (Rd.ownN [] rfl rfl) ?_)
     exact ⟨rfl, rfl⟩
    refine gD (fun W Fs R lF z9 => ?_) ?_
    ·refine qk (qq (1) qF rfl jp (by decide) rfl rfl ?_)
     exact ⟨rfl, rfl⟩
    refine gD (fun W Fs R lF z9 => ?_) ?_
    ·replace hbs := hbs.mono lF
     replace har := har.mono lF
     replace hcr := hcr.mono lF
     replace hf1 := hf1.mono lF
     rw [zA 1 (z9 1 rfl)]
     refine qk (qm jz rfl (Rd.own [_] rfl rfl) ?_)
     exact ⟨rfl, rfl⟩
    refine gD (fun W Fs R lF z9 => ?_) ?_
    ·refine qk (qo (ptr cb 0) rfl ?_)
     exact ⟨rfl, rfl⟩
    refine gD (fun W Fs R lF z9 => ?_) ?_
    ·refine qk (qq (1) qF rfl jp (by decide) rfl rfl ?_)
     exact ⟨rfl, rfl⟩
    refine gD (fun W Fs R lF z9 => ?_) ?_
    ·replace hbs := hbs.mono lF
     replace har := har.mono lF
     replace hcr := hcr.mono lF
     replace hf1 := hf1.mono lF
     rw [zA 4 (z9 4 rfl)]
     refine qk (qm jz rfl (Rd.own [_] rfl rfl) ?_)
     exact ⟨rfl, rfl⟩
    refine gD (fun W Fs R lF z9 => ?_) ?_
    ·replace hbs := hbs.mono lF
     replace har := har.mono lF
     replace hcr := hcr.mono lF
     replace hf1 := hf1.mono lF
     rw [zA 5 (z9 5 rfl)]
     refine qk (qE qU rfl hcr.slv ?_)
     exact ⟨rfl, rfl⟩
    refine gD (fun W Fs R lF z9 => ?_) ?_
    ·replace hbs := hbs.mono lF
     replace har := har.mono lF
     replace hcr := hcr.mono lF
     replace hf1 := hf1.mono lF
     rw [zB 3 6 (z9 3 rfl) (z9 6 rfl)]
     refine qk (qn (args := [ptr cb 0, ii ((cr.length : Int))]) jO rfl (qZ [_, _] (l1Below_spec (n := (cr.length : Int)) hbs (by omega) (hn := (by first | assumption | rfl | omega | simp)))) ?_)
     rintro _ _ _ _ ⟨⟨rfl, x10, rfl, hr8⟩, rfl⟩
     exact ⟨⟨rfl, hr8⟩, rfl⟩
    refine gD (fun W Fs R lF z9 => ?_) ?_
    ·obtain ⟨e7, f7_2hx⟩ := z9 7 rfl
     replace hbs := hbs.mono lF
     replace har := har.mono lF
     replace hcr := hcr.mono lF
     replace hf1 := hf1.mono lF
     rw [eS (l := [(2, _), (7, (ii (((intAt (W 7))))))]) ⟨z9 2 rfl, (e7).symm, ⟨⟩⟩]
     refine qk (qD ((((intAt (W 7)))).toNat) qU jv rfl rfl (by omega) hcr.slv (by omega) rfl ?_)
     exact ⟨rfl, rfl⟩
    refine gD (fun W Fs R lF z9 => ?_) ?_
    ·obtain ⟨e7, f7_2hx⟩ := z9 7 rfl
     have e8 : W 8 = (.pointer (some (elemA crv (((((intAt (W 7)))).toNat) * 3))) : Value) := z9 8 rfl
     rw [eS (l := [(7, (ii (((intAt (W 7)))))), (8, (.pointer (some (elemA crv (((((intAt (W 7)))).toNat) * 3)))))]) ⟨(e7).symm, e8, ⟨⟩⟩]
     refine qk (jV (((((intAt (W 7)))).toNat) * 3) qR rfl qy (by decide) rfl rfl ?_)
     exact ⟨rfl, rfl⟩
    refine gD (fun W Fs R lF z9 => ?_) ?_
    ·obtain ⟨e7, f7_2hx⟩ := z9 7 rfl
     have e9 : W 9 = (.pointer (some (elemA crv (((((intAt (W 7)))).toNat) * 3))) : Value) := z9 9 rfl
     replace hbs := hbs.mono lF
     replace har := har.mono lF
     replace hcr := hcr.mono lF
     replace hf1 := hf1.mono lF
     rw [eS (l := [(7, (ii (((intAt (W 7)))))), (9, (.pointer (some (elemA crv (((((intAt (W 7)))).toNat) * 3)))))]) ⟨(e7).symm, e9, ⟨⟩⟩]
     obtain ⟨a4, a5, a6, ha4, ha5, ha6, hrg2, hq2⟩ := hcr.rd (i := (((intAt (W 7)))).toNat) (by omega)
     refine qk (qm qX rfl (hrg2 _ 0 _ rfl) ?_)
     exact ⟨⟨rfl, ha4⟩, rfl⟩
    refine gD (fun W Fs R lF z9 => ?_) ?_
    ·obtain ⟨e7, f7_2hx⟩ := z9 7 rfl
     obtain ⟨e10, f10_2ld⟩ : ((W 10) : Value) = (W 10) ∧ (IntsF Fs (W 10) ((cr.getD ((((intAt (W 7)))).toNat) ([], [], [])).1)) := z9 10 rfl
     replace hbs := hbs.mono lF
     replace har := har.mono lF
     replace hf1 := hf1.mono lF
     rw [eS (l := [(0, _), (7, (ii (((intAt (W 7)))))), (10, (W 10))]) ⟨z9 0 rfl, (e7).symm, (e10).symm, ⟨⟩⟩]
     refine qk (qn (args := [.agg #[ov], (W 10)]) call66 rfl (l2FilledW_spec hf1 f10_2ld (hsl := (by first | assumption | rfl | omega | simp)) (hsb := (fun i => Nat.le_trans (hob i) (by decide))) (htl := ((hrb _ (by omega)).1)) (htg := (fun k hk => Int.le_trans (show (-4000000 : Int) ≤ -24 by omega) (termOk_ge (csysOk_at hcs (by omega)).left hk)))) ?_)
     rintro _ F12 _ le12 ⟨⟨x11, x12, rfl, hr9⟩, rfl⟩
     replace hbs := hbs.mono le12
     replace har := har.mono le12
     replace f10_2ld := f10_2ld.mono le12
     exact ⟨⟨rfl, hr9⟩, rfl⟩
    refine gD (fun W Fs R lF z9 => ?_) ?_
    ·obtain ⟨e11, f11_2hp_a⟩ := z9 11 rfl
     obtain ⟨t11X2_a, f11_2hp_a, q11_2_a0⟩ := f11_2hp_a
     rw [eS (l := [(11, (.tuple #[((tupAt (W 11) 0)), .bool (((boolAt (tupAt (W 11) 1))))]))]) ⟨(e11).symm, ⟨⟩⟩]
     refine qk (qo (.tuple #[((tupAt (W 11) 0)), .bool (((boolAt (tupAt (W 11) 1))))]) rfl ?_)
     exact ⟨rfl, rfl⟩
    refine gD (fun W Fs R lF z9 => ?_) ?_
    ·obtain ⟨e11, f11_2hp_a⟩ := z9 11 rfl
     obtain ⟨t11X2_a, f11_2hp_a, q11_2_a0⟩ := f11_2hp_a
     have e12 : W 12 = (.tuple #[((tupAt (W 11) 0)), .bool (((boolAt (tupAt (W 11) 1))))] : Value) := z9 12 rfl
     rw [eS (l := [(11, (.tuple #[((tupAt (W 11) 0)), .bool (((boolAt (tupAt (W 11) 1))))])), (12, (.tuple #[((tupAt (W 11) 0)), .bool (((boolAt (tupAt (W 11) 1))))]))]) ⟨(e11).symm, e12, ⟨⟩⟩]
     refine qk (qG (((tupAt (W 11) 0))) rfl rfl ?_)
     exact ⟨rfl, rfl⟩
    refine gD (fun W Fs R lF z9 => ?_) ?_
    ·obtain ⟨e11, f11_2hp_a⟩ := z9 11 rfl
     obtain ⟨t11X2_a, f11_2hp_a, q11_2_a0⟩ := f11_2hp_a
     have e12 : W 12 = (.tuple #[((tupAt (W 11) 0)), .bool (((boolAt (tupAt (W 11) 1))))] : Value) := z9 12 rfl
     rw [eS (l := [(11, (.tuple #[((tupAt (W 11) 0)), .bool (((boolAt (tupAt (W 11) 1))))])), (12, (.tuple #[((tupAt (W 11) 0)), .bool (((boolAt (tupAt (W 11) 1))))]))]) ⟨(e11).symm, e12, ⟨⟩⟩]
     refine qk (qG (.bool (((boolAt (tupAt (W 11) 1))))) rfl rfl ?_)
     exact ⟨rfl, rfl⟩
    refine gD (fun W Fs R lF z9 => ?_) ?_
    ·obtain ⟨e11, f11_2hp_a⟩ := z9 11 rfl
     obtain ⟨t11X2_a, f11_2hp_a, q11_2_a0⟩ := f11_2hp_a
     have e13 : W 13 = ((tupAt (W 11) 0)) := z9 13 rfl
     rw [eS (l := [(11, (.tuple #[((tupAt (W 11) 0)), .bool (((boolAt (tupAt (W 11) 1))))])), (13, ((tupAt (W 11) 0)))]) ⟨(e11).symm, e13, ⟨⟩⟩]
     refine qk (jo (((tupAt (W 11) 0))) rfl ?_)
     exact ⟨rfl, rfl⟩
    exact stepsG.nil
   intro W F13 le13 hphi
   obtain ⟨e7, f7_2hx⟩ := hphi 7 (by decide)
   have e8 : W 8 = (.pointer (some (elemA crv (((((intAt (W 7)))).toNat) * 3))) : Value) := hphi 8 (by decide)
   have e9 : W 9 = (.pointer (some (elemA crv (((((intAt (W 7)))).toNat) * 3))) : Value) := hphi 9 (by decide)
   obtain ⟨e10, f10_2ld⟩ : ((W 10) : Value) = (W 10) ∧ (IntsF F13 (W 10) ((cr.getD ((((intAt (W 7)))).toNat) ([], [], [])).1)) := hphi 10 (by decide)
   obtain ⟨e11, f11_2hp_a⟩ := hphi 11 (by decide)
   obtain ⟨t11X2_a, f11_2hp_a, q11_2_a0⟩ := f11_2hp_a
   have e12 : W 12 = (.tuple #[((tupAt (W 11) 0)), .bool (((boolAt (tupAt (W 11) 1))))] : Value) := hphi 12 (by decide)
   have e13 : W 13 = ((tupAt (W 11) 0)) := hphi 13 (by decide)
   have e14 : W 14 = (.bool (((boolAt (tupAt (W 11) 1)))) : Value) := hphi 14 (by decide)
   have e15 : W 15 = ((tupAt (W 11) 0)) := hphi 15 (by decide)
   generalize hu3 : (intAt (W 7)) = u4 at e7 f7_2hx e8 e9 e10 f10_2ld e11 f11_2hp_a e12 e13 e14 e15
   generalize hu4 : (W 10) = u5 at e7 f7_2hx e8 e9 e10 f10_2ld e11 f11_2hp_a e12 e13 e14 e15
   generalize hu5 : ((tupAt (W 11) 0)) = u6 at e7 f7_2hx e8 e9 e10 f10_2ld e11 f11_2hp_a e12 e13 e14 e15
   generalize hu6 : (boolAt (tupAt (W 11) 1)) = u7 at e7 f7_2hx e8 e9 e10 f10_2ld e11 f11_2hp_a e12 e13 e14 e15
   rw [eS (l := [(7, (ii ((u4)))), (11, (.tuple #[u6, .bool ((u7))])), (14, (.bool ((u7)))), (15, u6)]) ⟨(e7).symm, (e11).symm, e14, e15, ⟨⟩⟩]
   replace hbs := hbs.mono le13
   replace har := har.mono le13
   show XL _ _ _ _ _ _ _ (cellsH b2 [ov] 95 :: cellsH b1 [arv, crv] 29 :: curH .i64 75 cb bsv bs.length :: L)
   refine qj (.bool ((u7))) rfl (qf (qg (qd (qi (.bool ((u7))) rfl (qf ?_)))))
   refine js (t := (u7)) rfl (fun h5 => ?_) (fun h5 => ?_)
   ·refine qg (qd (qi (u6) rfl (qj (u6) rfl (qf (qu (ql (qt (L' := curH .i64 75 cb bsv bs.length :: L) [u6] (u6) (.tmp rfl .nil) rfl (qc (qc leG1 le8) le13) rF (sD (sD (sC sR))) ?_)))))))
    exact ⟨⟨_, rfl, ⟨_, f11_2hp_a, by omega⟩⟩, rfl⟩
   refine qz (qg ?_)
   refine jG [cellsH b2 [ov] 95, cellsH b1 [arv, crv] 29, curH .i64 75 cb bsv bs.length] L 6 [[], [], [], [], [], [4]] [[], [], [1], [], [3], [4]] [] (phiG [pe (ptr cb 0), pe (ptr b1 0), pe (.agg #[arv]), pe (ptr cb 0), fun FF us v => (ii (((intAt v))) : Value) = v ∧ (0 ≤ ((intAt v)) ∧ (((intAt v)) < 4 ∨ ((intAt v)) = 0)), fun FF us v => v = (ii (1 + (((intAt (us.getD 0 undef))))) : Value)]) (ownL []) mixed rfl rfl (by kernel_rfl) (by kernel_rfl) (MonoG.get (m1 (m1 (m1 (m1 (mC (fun le h => ⟨h.1, h.2⟩) (mC (fun le h => h) MonoG.nil))))))) ?_ ?_
   ·refine gD (fun W Fs R lF z9 => ?_) ?_
    ·refine qk (qo (ptr cb 0) rfl ?_)
     exact ⟨rfl, rfl⟩
    refine gD (fun W Fs R lF z9 => ?_) ?_
    ·refine qk (qq (0) qF rfl qB (by decide) rfl rfl ?_)
     exact ⟨rfl, rfl⟩
    refine gD (fun W Fs R lF z9 => ?_) ?_
    ·replace hbs := hbs.mono lF
     replace har := har.mono lF
     rw [zA 1 (z9 1 rfl)]
     refine qk (qs [arv] qW qB rfl rfl (Rd.ownN [_] rfl rfl) ?_)
     exact ⟨rfl, rfl⟩
    refine gD (fun W Fs R lF z9 => ?_) ?_
    ·refine qk (qo (ptr cb 0) rfl ?_)
     exact ⟨rfl, rfl⟩
    refine gD (fun W Fs R lF z9 => ?_) ?_
    ·replace hbs := hbs.mono lF
     replace har := har.mono lF
     rw [zA 3 (z9 3 rfl)]
     refine qk (qn (args := [ptr cb 0, ii (4)]) jO rfl (qZ [_, _] (l1Below_spec (n := 4) hbs (by omega) (hn := (by first | assumption | rfl | omega | simp)))) ?_)
     rintro _ _ _ _ ⟨⟨rfl, x14, rfl, hr11⟩, rfl⟩
     exact ⟨⟨rfl, hr11⟩, rfl⟩
    refine gD (fun W Fs R lF z9 => ?_) ?_
    ·obtain ⟨e4, f4_3hx⟩ := z9 4 rfl
     rw [eS (l := [(4, (ii (((intAt (W 4))))))]) ⟨(e4).symm, ⟨⟩⟩]
     refine qk (qS (1 + (((intAt (W 4))))) rfl rfl (by omega) (by omega) ?_)
     exact ⟨rfl, rfl⟩
    exact stepsG.nil
   intro W F16 le16 hphi
   obtain ⟨e4, f4_3hx⟩ := hphi 4 (by decide)
   have e5 : W 5 = (ii (1 + (((intAt (W 4))))) : Value) := hphi 5 (by decide)
   generalize hu7 : (intAt (W 4)) = u8 at e4 f4_3hx e5
   rw [eS (l := [(0, _), (2, _), (4, (ii ((u8)))), (5, (ii (1 + ((u8)))))]) ⟨(hphi 0 (by decide)), (hphi 2 (by decide)), (e4).symm, e5, ⟨⟩⟩]
   replace hbs := hbs.mono le16
   replace har := har.mono le16
   show XL _ _ _ _ _ _ _ (cellsH b2 [ov] 95 :: cellsH b1 [arv, crv] 29 :: curH .i64 75 cb bsv bs.length :: L)
   refine cX (qn (args := [ptr cb 0, .agg #[arv], ii (((1 + ((u8))).toNat : Nat) : Int), ii (0)]) call75 (by rw [show (((1 + ((u8))).toNat : Nat) : Int) = 1 + ((u8)) from by omega]; rfl) (Does.atO [_, _] (l1DrawTerm_spec ((1 + ((u8))).toNat) (vs := 0) hbs (by omega) har (hso := (by first | assumption | rfl | omega | simp)) (hdp := (by first | assumption | rfl | omega | simp)) (hvs := (by first | assumption | rfl | omega | simp)))) ?_)
   rintro _ F17 _ le17 ⟨x16, ⟨rfl, hsl1⟩, rfl⟩
   replace hbs := hbs.mono le17
   replace har := har.mono le17
   show XL _ _ _ _ _ _ _ (drawnH 2 x16 (fun t => goodT ar t ∧ 1 ≤ t.length ∧ t.length ≤ szT ((1 + ((u8))).toNat)) :: cellsH b2 [ov] 95 :: cellsH b1 [arv, crv] 29 :: curH .i64 75 cb bsv bs.length :: L)
   refine XL.undraw [] rfl (fun t2 hq9 => ?_)
   obtain ⟨q2, q3, q4⟩ := hq9
   show XL _ _ _ _ _ _ _ (intsH 2 x16 t2 :: cellsH b2 [ov] 95 :: cellsH b1 [arv, crv] 29 :: curH .i64 75 cb bsv bs.length :: L)
   have hz9 := szT_le (d := (1 + ((u8))).toNat) (e := 4) (by omega)
   have hz8 : szT 4 = 121 := rfl
   refine qj (x16) rfl (qf (ji [] _ _ rfl (fun F18 le18 hz2 => ?_)))
   replace hbs := hbs.mono le18
   replace har := har.mono le18
   have hf2 : IntsF F18 x16 t2 := intsH.fz (xs := t2) hz2.fz
   refine qu (qt (L' := curH .i64 75 cb bsv bs.length :: L) [x16] (x16) (.tmp rfl .nil) rfl (qc (qc (qc (qc (qc leG1 le8) le13) le16) le17) le18) rF (sD (sD (sC sR))) ?_)
   exact ⟨⟨_, rfl, ⟨_, hf2, by omega⟩⟩, rfl⟩
  refine qz (qg ?_)
  refine jG [cellsH b1 [arv, crv] 29, curH .i64 75 cb bsv bs.length] L 6 [[], [], [], [], [], [4]] [[], [], [1], [], [3], [4]] [] (phiG [pe (ptr cb 0), pe (ptr b1 0), pe (.agg #[arv]), pe (ptr cb 0), fun FF us v => (ii (((intAt v))) : Value) = v ∧ (0 ≤ ((intAt v)) ∧ (((intAt v)) < 4 ∨ ((intAt v)) = 0)), fun FF us v => v = (ii (1 + (((intAt (us.getD 0 undef))))) : Value)]) (ownL []) mixed rfl rfl (by kernel_rfl) (by kernel_rfl) (MonoG.get (m1 (m1 (m1 (m1 (mC (fun le h => ⟨h.1, h.2⟩) (mC (fun le h => h) MonoG.nil))))))) ?_ ?_
  ·refine gD (fun W Fs R lF z9 => ?_) ?_
   ·refine qk (qo (ptr cb 0) rfl ?_)
    exact ⟨rfl, rfl⟩
   refine gD (fun W Fs R lF z9 => ?_) ?_
   ·refine qk (qq (0) qF rfl qB (by decide) rfl rfl ?_)
    exact ⟨rfl, rfl⟩
   refine gD (fun W Fs R lF z9 => ?_) ?_
   ·replace hbs := hbs.mono lF
    replace har := har.mono lF
    rw [zA 1 (z9 1 rfl)]
    refine qk (qs [arv] qW qB rfl rfl (Rd.ownN [] rfl rfl) ?_)
    exact ⟨rfl, rfl⟩
   refine gD (fun W Fs R lF z9 => ?_) ?_
   ·refine qk (qo (ptr cb 0) rfl ?_)
    exact ⟨rfl, rfl⟩
   refine gD (fun W Fs R lF z9 => ?_) ?_
   ·replace hbs := hbs.mono lF
    replace har := har.mono lF
    rw [zA 3 (z9 3 rfl)]
    refine qk (qn (args := [ptr cb 0, ii (4)]) jO rfl (qZ [_] (l1Below_spec (n := 4) hbs (by omega) (hn := (by first | assumption | rfl | omega | simp)))) ?_)
    rintro _ _ _ _ ⟨⟨rfl, x18, rfl, hr13⟩, rfl⟩
    exact ⟨⟨rfl, hr13⟩, rfl⟩
   refine gD (fun W Fs R lF z9 => ?_) ?_
   ·obtain ⟨e4, f4_4hx⟩ := z9 4 rfl
    rw [eS (l := [(4, (ii (((intAt (W 4))))))]) ⟨(e4).symm, ⟨⟩⟩]
    refine qk (qS (1 + (((intAt (W 4))))) rfl rfl (by omega) (by omega) ?_)
    exact ⟨rfl, rfl⟩
   exact stepsG.nil
  intro W F21 le21 hphi
  obtain ⟨e4, f4_4hx⟩ := hphi 4 (by decide)
  have e5 : W 5 = (ii (1 + (((intAt (W 4))))) : Value) := hphi 5 (by decide)
  generalize hu8 : (intAt (W 4)) = u9 at e4 f4_4hx e5
  rw [eS (l := [(0, _), (2, _), (4, (ii ((u9)))), (5, (ii (1 + ((u9)))))]) ⟨(hphi 0 (by decide)), (hphi 2 (by decide)), (e4).symm, e5, ⟨⟩⟩]
  replace hbs := hbs.mono le21
  replace har := har.mono le21
  show XL _ _ _ _ _ _ _ (cellsH b1 [arv, crv] 29 :: curH .i64 75 cb bsv bs.length :: L)
  refine cX (qn (args := [ptr cb 0, .agg #[arv], ii (((1 + ((u9))).toNat : Nat) : Int), ii (0)]) call75 (by rw [show (((1 + ((u9))).toNat : Nat) : Int) = 1 + ((u9)) from by omega]; rfl) (Does.atO [_] (l1DrawTerm_spec ((1 + ((u9))).toNat) (vs := 0) hbs (by omega) har (hso := (by first | assumption | rfl | omega | simp)) (hdp := (by first | assumption | rfl | omega | simp)) (hvs := (by first | assumption | rfl | omega | simp)))) ?_)
  rintro _ F22 _ le22 ⟨x20, ⟨rfl, hsl2⟩, rfl⟩
  replace hbs := hbs.mono le22
  replace har := har.mono le22
  show XL _ _ _ _ _ _ _ (drawnH 2 x20 (fun t => goodT ar t ∧ 1 ≤ t.length ∧ t.length ≤ szT ((1 + ((u9))).toNat)) :: cellsH b1 [arv, crv] 29 :: curH .i64 75 cb bsv bs.length :: L)
  refine XL.undraw [] rfl (fun t3 hq9 => ?_)
  obtain ⟨q5, q6, q7⟩ := hq9
  show XL _ _ _ _ _ _ _ (intsH 2 x20 t3 :: cellsH b1 [arv, crv] 29 :: curH .i64 75 cb bsv bs.length :: L)
  have hz9 := szT_le (d := (1 + ((u9))).toNat) (e := 4) (by omega)
  have hz8 : szT 4 = 121 := rfl
  refine qj (x20) rfl (qf (ji [] _ _ rfl (fun F23 le23 hz3 => ?_)))
  replace hbs := hbs.mono le23
  replace har := har.mono le23
  have hf3 : IntsF F23 x20 t3 := intsH.fz (xs := t3) hz3.fz
  refine qu (qt (L' := curH .i64 75 cb bsv bs.length :: L) [x20] (x20) (.tmp rfl .nil) rfl (qc (qc le21 le22) le23) rF (sD (sC sR)) ?_)
  exact ⟨⟨_, rfl, ⟨_, hf3, by omega⟩⟩, rfl⟩
 refine qp (t := 20) rfl (vF h2) (qp (t := 20) rfl (vF h2) (qp (t := 20) rfl (vF h2) (cX (qM (.bool (false)) (vF h2) rfl (qf (jS rfl (qz (qg ?_))))))))
 refine jG [cellsH b1 [arv, crv] 29, curH .i64 75 cb bsv bs.length] L 6 [[], [], [], [], [], [4]] [[], [], [1], [], [3], [4]] [] (phiG [pe (ptr cb 0), pe (ptr b1 0), pe (.agg #[arv]), pe (ptr cb 0), fun FF us v => (ii (((intAt v))) : Value) = v ∧ (0 ≤ ((intAt v)) ∧ (((intAt v)) < 4 ∨ ((intAt v)) = 0)), fun FF us v => v = (ii (1 + (((intAt (us.getD 0 undef))))) : Value)]) (ownL []) mixed rfl rfl (by kernel_rfl) (by kernel_rfl) (MonoG.get (m1 (m1 (m1 (m1 (mC (fun le h => ⟨h.1, h.2⟩) (mC (fun le h => h) MonoG.nil))))))) ?_ ?_
 ·refine gD (fun W Fs R lF z9 => ?_) ?_
  ·refine qk (qo (ptr cb 0) rfl ?_)
   exact ⟨rfl, rfl⟩
  refine gD (fun W Fs R lF z9 => ?_) ?_
  ·refine qk (qq (0) qF rfl qB (by decide) rfl rfl ?_)
   exact ⟨rfl, rfl⟩
  refine gD (fun W Fs R lF z9 => ?_) ?_
  ·replace hbs := hbs.mono lF
   replace har := har.mono lF
   rw [zA 1 (z9 1 rfl)]
   refine qk (qs [arv] qW qB rfl rfl (Rd.ownN [] rfl rfl) ?_)
   exact ⟨rfl, rfl⟩
  refine gD (fun W Fs R lF z9 => ?_) ?_
  ·refine qk (qo (ptr cb 0) rfl ?_)
   exact ⟨rfl, rfl⟩
  refine gD (fun W Fs R lF z9 => ?_) ?_
  ·replace hbs := hbs.mono lF
   replace har := har.mono lF
   rw [zA 3 (z9 3 rfl)]
   refine qk (qn (args := [ptr cb 0, ii (4)]) jO rfl (qZ [_] (l1Below_spec (n := 4) hbs (by omega) (hn := (by first | assumption | rfl | omega | simp)))) ?_)
   rintro _ _ _ _ ⟨⟨rfl, x22, rfl, hr15⟩, rfl⟩
   exact ⟨⟨rfl, hr15⟩, rfl⟩
  refine gD (fun W Fs R lF z9 => ?_) ?_
  ·obtain ⟨e4, f4_5hx⟩ := z9 4 rfl
   rw [eS (l := [(4, (ii (((intAt (W 4))))))]) ⟨(e4).symm, ⟨⟩⟩]
   refine qk (qS (1 + (((intAt (W 4))))) rfl rfl (by omega) (by omega) ?_)
   exact ⟨rfl, rfl⟩
  exact stepsG.nil
 intro W F26 le26 hphi
 obtain ⟨e4, f4_5hx⟩ := hphi 4 (by decide)
 have e5 : W 5 = (ii (1 + (((intAt (W 4))))) : Value) := hphi 5 (by decide)
 generalize hu9 : (intAt (W 4)) = u10 at e4 f4_5hx e5
 rw [eS (l := [(0, _), (2, _), (4, (ii ((u10)))), (5, (ii (1 + ((u10)))))]) ⟨(hphi 0 (by decide)), (hphi 2 (by decide)), (e4).symm, e5, ⟨⟩⟩]
 replace hbs := hbs.mono le26
 replace har := har.mono le26
 show XL _ _ _ _ _ _ _ (cellsH b1 [arv, crv] 29 :: curH .i64 75 cb bsv bs.length :: L)
 refine cX (qn (args := [ptr cb 0, .agg #[arv], ii (((1 + ((u10))).toNat : Nat) : Int), ii (0)]) call75 (by rw [show (((1 + ((u10))).toNat : Nat) : Int) = 1 + ((u10)) from by omega]; rfl) (Does.atO [_] (l1DrawTerm_spec ((1 + ((u10))).toNat) (vs := 0) hbs (by omega) har (hso := (by first | assumption | rfl | omega | simp)) (hdp := (by first | assumption | rfl | omega | simp)) (hvs := (by first | assumption | rfl | omega | simp)))) ?_)
 rintro _ F27 _ le27 ⟨x24, ⟨rfl, hsl3⟩, rfl⟩
 show XL _ _ _ _ _ _ _ (drawnH 2 x24 (fun t => goodT ar t ∧ 1 ≤ t.length ∧ t.length ≤ szT ((1 + ((u10))).toNat)) :: cellsH b1 [arv, crv] 29 :: curH .i64 75 cb bsv bs.length :: L)
 refine XL.undraw [] rfl (fun t4 hq9 => ?_)
 obtain ⟨q8, q9, q10⟩ := hq9
 show XL _ _ _ _ _ _ _ (intsH 2 x24 t4 :: cellsH b1 [arv, crv] 29 :: curH .i64 75 cb bsv bs.length :: L)
 have hz9 := szT_le (d := (1 + ((u10))).toNat) (e := 4) (by omega)
 have hz8 : szT 4 = 121 := rfl
 refine qj (x24) rfl (qf (ji [] _ _ rfl (fun F28 le28 hz4 => ?_)))
 have hf4 : IntsF F28 x24 t4 := intsH.fz (xs := t4) hz4.fz
 refine qu (qt (L' := curH .i64 75 cb bsv bs.length :: L) [x24] (x24) (.tmp rfl .nil) rfl (qc (qc le26 le27) le28) rF (sD (sC sR)) ?_)
 exact ⟨⟨_, rfl, ⟨_, hf4, by omega⟩⟩, rfl⟩

/- spec.l1Num -/
theorem l1NumB_spec {F : FH} {L : List HP} {cb : Nat} {bsv : Value} {bs : List Int} (hbs : BytesF F bsv bs) (hbl : bs.length ≤ 4000000) {m : Int} (hm : 0 ≤ m ∧ m ≤ 5000) :
    Does prog 45 [ptr cb 0, ii (m)] F (curH .i64 75 cb bsv bs.length :: L) (fun v F' L' => (F = F' ∧ ∃ (x : Int), (ii (x) : Value) = v) ∧ curH .i64 75 cb bsv bs.length :: L = L') := by
 refine qL func45 rfl rfl rfl (qg (qd (qj (ii (0)) rfl (qf (qg (qg (qd (qi (ptr cb 0) rfl (cX (qn (args := [ptr cb 0, ii (10)]) call28 rfl (qZ [] (l1Once_spec (n := 10) hbs (by omega) (hn := (by first | assumption | rfl | omega | simp)))) ?_))))))))))
 rintro _ _ _ _ ⟨⟨rfl, x1, rfl⟩, rfl⟩
 show XL _ _ _ _ _ _ _ (curH .i64 75 cb bsv bs.length :: L)
 refine qf ?_
 refine js (t := x1) rfl (fun h1 => ?_) (fun h1 => ?_)
 ·refine qg (qd (qi (ii (m)) rfl (qi (ii (m)) rfl (cX (qS (m + 1) rfl rfl (by omega) (by omega) (qi (ptr cb 0) rfl (cX (qn (args := [ptr cb 0]) call77 rfl (qZ [] (l1Odd_spec hbs (by omega))) ?_))))))))
  rintro _ _ _ _ ⟨⟨rfl, x2, rfl⟩, rfl⟩
  show XL _ _ _ _ _ _ _ (curH .i64 75 cb bsv bs.length :: L)
  refine cX (qx (s := 1) [ii (-1), ii (m), ii (m + 1), ii (x2)] [ii (0)] [(0, [ii (-1)]), (1, [ii (m)]), (2, [ii (m + 1)]), (3, [ii (x2)])] qh qC qP rfl (by decide) rfl (.cons rfl (.cons rfl (.cons rfl (.cons rfl CellsAre.nil)))) rfl ?_)
  intro v1 hv1
  show XL _ _ _ _ _ _ _ (intsH 2 v1 ([-1, m, m + 1, x2] : List Int) :: curH .i64 75 cb bsv bs.length :: L)
  have hl4 : ([-1, m, m + 1, x2] : List Int).length = 4 := rfl
  refine qi (ptr cb 0) rfl (cX (qn (args := [ptr cb 0, ii (4)]) jO rfl (qZ [_] (l1Below_spec (n := 4) hbs (by omega) (hn := (by first | assumption | rfl | omega | simp)))) ?_))
  rintro _ _ _ _ ⟨⟨rfl, x3, rfl, hr1⟩, rfl⟩
  show XL _ _ _ _ _ _ _ (intsH 2 v1 ([-1, m, m + 1, x2] : List Int) :: curH .i64 75 cb bsv bs.length :: L)
  refine cX (qD ((x3).toNat) qh qC rfl rfl (by omega) (intsH.slv [] rfl) (by omega) (Nat.mul_one _) (cX (qm jj rfl (intsH.rd [] rfl (by omega)) (qj (ii (([-1, m, m + 1, x2]).getD ((x3).toNat) 0)) rfl (qf (qu (ql (qt (L' := curH .i64 75 cb bsv bs.length :: L) [ii (([-1, m, m + 1, x2]).getD ((x3).toNat) 0)] (ii (([-1, m, m + 1, x2]).getD ((x3).toNat) 0)) (.tmp rfl .nil) rfl rF rF (sD (sC sR)) ?_))))))))
  exact ⟨⟨rfl, _, rfl⟩, rfl⟩
 refine qz (qg (qg (qd (qi (ptr cb 0) rfl (cX (qn (args := [ptr cb 0, ii (2)]) call28 rfl (qZ [] (l1Once_spec (n := 2) hbs (by omega) (hn := (by first | assumption | rfl | omega | simp)))) ?_))))))
 rintro _ _ _ _ ⟨⟨rfl, x4, rfl⟩, rfl⟩
 show XL _ _ _ _ _ _ _ (curH .i64 75 cb bsv bs.length :: L)
 refine qf ?_
 refine js (t := x4) rfl (fun h2 => ?_) (fun h2 => ?_)
 ·refine qg (qd (qi (ptr cb 0) rfl (qi (ii (m)) rfl (cX (qn (args := [ii (m), ii (4)]) call78 rfl (l1Min_spec (a := m) (b := 4)) ?_)))))
  rintro _ _ _ _ ⟨rfl, rfl, rfl⟩
  refine cX (qS ((min m 4) + 1) rfl rfl (by omega) (by omega) (cX (qn (args := [ptr cb 0, ii ((min m 4) + 1)]) jO rfl (qZ [] (l1Below_spec (n := (min m 4) + 1) hbs (by omega) (hn := (by first | assumption | rfl | omega | simp)))) ?_)))
  rintro _ _ _ _ ⟨⟨rfl, x5, rfl, hr2⟩, rfl⟩
  show XL _ _ _ _ _ _ _ (curH .i64 75 cb bsv bs.length :: L)
  refine qj (ii (x5)) rfl (qf (qu (ql (qt (L' := curH .i64 75 cb bsv bs.length :: L) [ii (x5)] (ii (x5)) (.tmp rfl .nil) rfl rF rF (sC sR) ?_))))
  exact ⟨⟨rfl, _, rfl⟩, rfl⟩
 refine qz (qg (qd (qi (ptr cb 0) rfl (qi (ii (m)) rfl (cX (qS (m + 1) rfl rfl (by omega) (by omega) (cX (qn (args := [ptr cb 0, ii (m + 1)]) jO rfl (qZ [] (l1Below_spec (n := m + 1) hbs (by omega) (hn := (by first | assumption | rfl | omega | simp)))) ?_))))))))
 rintro _ _ _ _ ⟨⟨rfl, x6, rfl, hr3⟩, rfl⟩
 show XL _ _ _ _ _ _ _ (curH .i64 75 cb bsv bs.length :: L)
 refine qj (ii (x6)) rfl (qf (qu (qt (L' := curH .i64 75 cb bsv bs.length :: L) [ii (x6)] (ii (x6)) (.tmp rfl .nil) rfl rF rF (sC sR) ?_)))
 exact ⟨⟨rfl, _, rfl⟩, rfl⟩

/- spec.l27DrawStep -/
set_option maxHeartbeats 1000000 in
set_option maxRecDepth 20000 in
theorem l27DrawStep_spec {F : FH} {L : List HP} {cb : Nat} {bsv : Value} {bs : List Int} (hbs : BytesF F bsv bs) (hbl : bs.length ≤ 4000000) :
    Does prog 19 [ptr cb 0] F (curH .i64 75 cb bsv bs.length :: L) (fun v F' L' => (∃ (a : Value), ∃ (b : Value), ∃ (c : Value), ∃ (ar : List Int), ∃ (cr : List CRuleT), ∃ (t : List Int), ∃ (p : Int), ∃ (r : Int), ∃ (z : Int), (.tuple #[.agg #[a, b], c, ii (p), ii (r), ii (z)] : Value) = v ∧ (IntsF F' a ar) ∧ (CRulesF F' b cr) ∧ (IntsF F' c t) ∧ (ar.length ≤ 20) ∧ (cr.length ≤ 4) ∧ (crulesS 3 cr = true) ∧ (t.length ≤ 2000)) ∧ curH .i64 75 cb bsv bs.length :: L = L') := by
 refine qL func19 rfl rfl rfl (qg (qd (cX (jm [sN, sN] jQ rfl ?_))))
 intro b1
 refine qj (sN) rfl (qj (ii (0)) rfl (qj (ii (0)) rfl (qj (ii (0)) rfl (qf (qg (qd (qi (ptr cb 0) rfl (cX (qn (args := [ptr cb 0]) call27 rfl ((Does.weaken (Sub.front (A := [_])) (l27DrawAny_spec hbs (by omega)))) ?_)))))))))
 rintro _ F1 _ le1 ⟨x1, x2, ar1, rs1, cs1, ⟨rfl, ha1, hsl1, hc1, h_1, h_2, h_3⟩, rfl⟩
 replace hbs := hbs.mono le1
 show XL _ _ _ _ _ _ _ (slH 51 3 x2 rs1.length cs1 :: curH .i64 75 cb bsv bs.length :: cellsH b1 [sN, sN] 29 :: L)
 refine cX (jm [sN, sN] jQ rfl ?_)
 intro b2
 refine cX (qO [] _ [x1, x2] qK rfl rfl rfl (qw (qJ (qv ha1)) (qw (qJ hsl1) qT)) rfl rfl rfl ?_)
 have hrb := crulesS_bounds h_3
 refine qf (qg (qd (qi (ptr cb 0) rfl (cX (qs [x1, x2] qY qK rfl rfl (Rd.ownN [] rfl rfl) (jf [_] _ _ rfl (fun F2 le2 hz1 => ?_)))))))
 replace hbs := hbs.mono le2
 replace ha1 := ha1.mono le2
 replace hc1 := hc1.mono le2
 have hf1 : CRulesF F2 x2 rs1 := CO.fz hc1 (by first | rfl | omega | (rw [List.length_set]; omega) | (simp; done)) hz1.fz
 refine cX (qn (args := [ptr cb 0, .agg #[x1, x2]]) call41 rfl (qZ [_] (l27DrawTerm_spec hbs (by omega) ha1 hf1 (hla := (by first | assumption | rfl | omega | simp)) (hlr := (by first | assumption | rfl | omega | simp)) (hsm := (by assumption)))) ?_)
 rintro _ F3 _ le3 ⟨⟨x3, rfl, hr1⟩, rfl⟩
 obtain ⟨t1, hr1, q1⟩ := hr1
 replace hbs := hbs.mono le3
 replace ha1 := ha1.mono le3
 replace hf1 := hf1.mono le3
 show XL _ _ _ _ _ _ _ (cellsH b2 [x1, x2] 29 :: curH .i64 75 cb bsv bs.length :: cellsH b1 [sN, sN] 29 :: L)
 skip
 refine qj (x3) rfl (qf (qg (qd (qi (ptr cb 0) rfl (cX (qn (args := [ptr cb 0, ii (3)]) jO rfl (qZ [_] (l1Below_spec (n := 3) hbs (by omega) (hn := (by first | assumption | rfl | omega | simp)))) ?_))))))
 rintro _ _ _ _ ⟨⟨rfl, x4, rfl, hr2⟩, rfl⟩
 show XL _ _ _ _ _ _ _ (cellsH b2 [x1, x2] 29 :: curH .i64 75 cb bsv bs.length :: cellsH b1 [sN, sN] 29 :: L)
 refine qj (ii (x4)) rfl (qf (qg (qg (qd (qi (ptr cb 0) rfl (cX (qn (args := [ptr cb 0, ii (20)]) call28 rfl (qZ [_] (l1Once_spec (n := 20) hbs (by omega) (hn := (by first | assumption | rfl | omega | simp)))) ?_)))))))
 rintro _ _ _ _ ⟨⟨rfl, x5, rfl⟩, rfl⟩
 show XL _ _ _ _ _ _ _ (cellsH b2 [x1, x2] 29 :: curH .i64 75 cb bsv bs.length :: cellsH b1 [sN, sN] 29 :: L)
 refine qf ?_
 refine js (t := x5) rfl (fun h1 => ?_) (fun h1 => ?_)
 ·refine qd (qi (ptr cb 0) rfl (cX (qn (args := [ptr cb 0, ii (-1), ii (3)]) call43 rfl (qZ [_] (l1From_spec (lo := -1) (hi := 3) hbs (by omega) (hlo := (by first | assumption | rfl | omega | simp)))) ?_)))
  rintro _ _ _ _ ⟨⟨rfl, x6, rfl, hr3⟩, rfl⟩
  show XL _ _ _ _ _ _ _ (cellsH b2 [x1, x2] 29 :: curH .i64 75 cb bsv bs.length :: cellsH b1 [sN, sN] 29 :: L)
  refine qj (ii (x6)) rfl (qf (qg (qg (qd (cX (qs [x1, x2] qY qK rfl rfl (Rd.ownN [] rfl rfl) (cX (qn (args := [.agg #[x1, x2]]) call30 rfl (sCSystemOk_spec ha1 hf1 (hla := (by first | assumption | rfl | omega | simp)) (hlr := (by first | assumption | rfl | omega | simp)) (hrb := (hrb))) ?_))))))))
  rintro _ _ _ _ ⟨rfl, rfl, rfl⟩
  refine qi (.bool (csysOk ar1 rs1)) rfl ?_
  by_cases h2 : (csysOk ar1 rs1) = true
  ·have hcs : csysOk _ _ = true := h2
   refine qr (t := 27) rfl (vB h2) (qo (ptr cb 0) rfl (qr (t := 27) rfl (vB h2) (qn (args := [ptr cb 0, ii (4)]) call28 rfl (qZ [_] (l1Once_spec (n := 4) hbs (by omega) (hn := (by first | assumption | rfl | omega | simp)))) ?_)))
   rintro _ _ _ _ ⟨⟨rfl, x7, rfl⟩, rfl⟩
   show XL _ _ _ _ _ _ _ (cellsH b2 [x1, x2] 29 :: curH .i64 75 cb bsv bs.length :: cellsH b1 [sN, sN] 29 :: L)
   refine qr (t := 27) rfl (vB h2) (jg rfl (cX (qN (.bool (!(x7))) (vB h2) rfl (qi (.bool (!(x7))) rfl ?_))))
   by_cases h3 : (!(x7)) = true
   ·refine qr (t := 32) rfl (vB h3) (qo (ii (x6)) rfl (qr (t := 32) rfl (vB h3) (qn (args := [ii (x6), ii (0), ii (2)]) call35 rfl (l1In_spec (n := x6) (a := 0) (b := 2)) ?_)))
    rintro _ _ _ _ ⟨rfl, rfl, rfl⟩
    refine cX (qN (.bool (decide (0 ≤ x6 ∧ x6 ≤ 2))) (vB h3) rfl (qi (.bool (decide (0 ≤ x6 ∧ x6 ≤ 2))) rfl ?_))
    by_cases h4 : 0 ≤ x6 ∧ x6 ≤ 2
    ·refine qr (t := 36) rfl (vT h4) (qq (0) qF rfl qB (by decide) rfl rfl (qr (t := 36) rfl (vT h4) (qs [x1] qW qB rfl rfl (Rd.ownN [] rfl rfl) (qr (t := 36) rfl (vT h4) (qo (x3) rfl (qr (t := 36) rfl (vT h4) (qn (args := [.agg #[x1], x3]) call44 rfl (sTermOk_spec ha1 hr1 (hla := (by first | assumption | rfl | omega | simp)) (hlt := (by first | assumption | rfl | omega | simp))) ?_)))))))
     rintro _ _ _ _ ⟨rfl, rfl, rfl⟩
     refine cX (qN (.bool (termOk ar1 t1)) (vT h4) rfl (qf ?_))
     refine js (t := termOk ar1 t1) rfl (fun h5 => ?_) (fun h5 => ?_)
     ·have hto : termOk _ _ = true := h5
      refine qg (qd (cX (qs [x1, x2] qY qK rfl rfl (Rd.ownN [] rfl rfl) (qi (x3) rfl (qi (ii (x6)) rfl (cX (qn (args := [.agg #[x1, x2], x3, ii (((x6).toNat : Nat) : Int)]) call26 (by rw [show (((x6).toNat : Nat) : Int) = x6 from by omega]; rfl) (spick_step (d := (x6).toNat) (fun m9 _ => snormal m9) ha1 hf1 hr1 (hc := (hcs)) (ho := (hto)) (hd2 := (by first | assumption | rfl | omega | simp))) ?_)))))))
      rintro _ F8 _ le8 ⟨⟨rfl, hr4⟩, rfl⟩
      replace hbs := hbs.mono le8
      replace ha1 := ha1.mono le8
      replace hf1 := hf1.mono le8
      replace hr1 := hr1.mono le8
      show XL _ _ _ _ _ _ _ (cellsH b2 [x1, x2] 29 :: curH .i64 75 cb bsv bs.length :: cellsH b1 [sN, sN] 29 :: L)
      refine qi (.tuple #[ii ((pickV ar1 rs1 ((x6).toNat) t1).1), ii ((pickV ar1 rs1 ((x6).toNat) t1).2.1), .bool ((pickV ar1 rs1 ((x6).toNat) t1).2.2)]) rfl (cX (qG (ii ((pickV ar1 rs1 ((x6).toNat) t1).1)) rfl rfl (cX (qG (ii ((pickV ar1 rs1 ((x6).toNat) t1).2.1)) rfl rfl (cX (qG (.bool ((pickV ar1 rs1 ((x6).toNat) t1).2.2)) rfl rfl (qj (ii ((pickV ar1 rs1 ((x6).toNat) t1).1)) rfl (qj (ii ((pickV ar1 rs1 ((x6).toNat) t1).2.1)) rfl (qj (.bool ((pickV ar1 rs1 ((x6).toNat) t1).2.2)) rfl (qf (qg (qd (qi (.bool ((pickV ar1 rs1 ((x6).toNat) t1).2.2)) rfl (qf ?_))))))))))))))
      refine js (t := (pickV ar1 rs1 ((x6).toNat) t1).2.2) rfl (fun h6 => ?_) (fun h6 => ?_)
      ·refine qg (qd (cX (qs [x1, x2] qY qK rfl rfl (Rd.ownN [] rfl rfl) (qi (x3) rfl (qi (ii ((pickV ar1 rs1 ((x6).toNat) t1).1)) rfl (qi (ii ((pickV ar1 rs1 ((x6).toNat) t1).2.1)) rfl (qi (ii (x6)) rfl (cX (qO [_, _] _ [x1, x2] qK rfl rfl rfl (qw (qJ (qv ha1)) (qw (qJ (CRulesF.isSl hf1)) qT)) rfl rfl rfl (qj (x3) rfl (qj (ii ((pickV ar1 rs1 ((x6).toNat) t1).1)) rfl (qj (ii ((pickV ar1 rs1 ((x6).toNat) t1).2.1)) rfl ?_))))))))))))
       refine qj (ii (x6)) rfl (qf (qu (ql (qt (L' := curH .i64 75 cb bsv bs.length :: L) [.agg #[x1, x2], x3, ii ((pickV ar1 rs1 ((x6).toNat) t1).1), ii ((pickV ar1 rs1 ((x6).toNat) t1).2.1), ii (x6)] (.tuple #[.agg #[x1, x2], x3, ii ((pickV ar1 rs1 ((x6).toNat) t1).1), ii ((pickV ar1 rs1 ((x6).toNat) t1).2.1), ii (x6)]) (.cell rfl (jt [x1, x2] qY qK rfl (Rd.ownN [_, _] rfl rfl)) (.tmp rfl (.tmp rfl (.tmp rfl (.tmp rfl .nil))))) rfl (qc (qc (qc le1 le2) le3) le8) rF (sD (sC (sD sR))) ?_))))
       exact ⟨⟨_, _, _, _, _, _, _, _, _, rfl, ha1, hf1, hr1, h_1, h_2, h_3, q1⟩, rfl⟩
      refine qz (qg (qd (qi (ptr cb 0) rfl (qi (x3) rfl (cX (qE qh rfl hr1.slv (cX (qn (args := [ptr cb 0, ii ((t1.length : Int))]) call45 rfl (qZ [_] (l1NumB_spec (m := (t1.length : Int)) hbs (by omega) (hm := (by first | assumption | rfl | omega | simp)))) ?_))))))))
      rintro _ _ _ _ ⟨⟨rfl, x8, rfl⟩, rfl⟩
      show XL _ _ _ _ _ _ _ (cellsH b2 [x1, x2] 29 :: curH .i64 75 cb bsv bs.length :: cellsH b1 [sN, sN] 29 :: L)
      refine qj (ii (x8)) rfl (qf (qg (X.weaken (Sub.front (A := [_, _])) ?_)))
      show X _ _ _ _ _ _ (cellsH b1 [sN, sN] 29 :: cellsH b2 [x1, x2] 29 :: curH .i64 75 cb bsv bs.length :: L)
      refine X.drawH [cellsH b2 [x1, x2] 29, curH .i64 75 cb bsv bs.length] L 13 [[], [], [], [], [], [], [], [], [], [], [], [], [7]] [[], [], [], [], [], [4], [5], [3, 6], [], [0], [1], [2], [7]] [] (phiG [pe (.agg #[x1, x2]), pe x3, pe (ii (x8)), pe (ptr cb 0), pe (ptr b2 1), pe x2, pe (ii ((rs1.length : Int)) : Value), fun FF us v => (ii (((intAt v))) : Value) = v, pe (ii (x6)), fun FF us v => True, pe x3, pe (ii (x8)), fun FF us v => v = (ii (((intAt (us.getD 0 undef)))) : Value)]) (ownL [o0, o0, o0, o0, o0, o0, o0, o0, o0, fun us v => [cellsH b1 [x1, x2] 29]]) (fun i => ([[], [], [], [], [], [], [], [], [], [cellsH b1 [sN, sN] 29], [], [], []] : List (List HP)).getD i []) mixed rfl rfl (by kernel_rfl) (by kernel_rfl) (MonoG.get (m1 (m1 (m1 (m1 (m1 (m1 (m1 (mC (fun le h => h) (m1 (mC (fun le h => h) (m1 (m1 (mC (fun le h => h) MonoG.nil)))))))))))))) ?_ ?_
      ·refine tD (fun W Fs R lF z9 => ?_) ?_
       ·replace hbs := hbs.mono lF
        replace ha1 := ha1.mono lF
        replace hf1 := hf1.mono lF
        replace hr1 := hr1.mono lF
        refine qk (qs [x1, x2] qY qK rfl rfl (Rd.ownN [] rfl rfl) ?_)
        exact ⟨rfl, rfl⟩
       refine tD (fun W Fs R lF z9 => ?_) ?_
       ·refine qk (qo (x3) rfl ?_)
        exact ⟨rfl, rfl⟩
       refine tD (fun W Fs R lF z9 => ?_) ?_
       ·refine qk (qo (ii (x8)) rfl ?_)
        exact ⟨rfl, rfl⟩
       refine tD (fun W Fs R lF z9 => ?_) ?_
       ·refine qk (qo (ptr cb 0) rfl ?_)
        exact ⟨rfl, rfl⟩
       refine tD (fun W Fs R lF z9 => ?_) ?_
       ·refine qk (qq (1) qF rfl jp (by decide) rfl rfl ?_)
        exact ⟨rfl, rfl⟩
       refine tD (fun W Fs R lF z9 => ?_) ?_
       ·replace hbs := hbs.mono lF
        replace ha1 := ha1.mono lF
        replace hf1 := hf1.mono lF
        replace hr1 := hr1.mono lF
        rw [zA 4 (z9 4 rfl)]
        refine qk (qm jz rfl (Rd.own [] rfl rfl) ?_)
        exact ⟨rfl, rfl⟩
       refine tD (fun W Fs R lF z9 => ?_) ?_
       ·replace hbs := hbs.mono lF
        replace ha1 := ha1.mono lF
        replace hf1 := hf1.mono lF
        replace hr1 := hr1.mono lF
        rw [zA 5 (z9 5 rfl)]
        refine qk (qE qU rfl hf1.slv ?_)
        exact ⟨rfl, rfl⟩
       refine tD (fun W Fs R lF z9 => ?_) ?_
       ·replace hbs := hbs.mono lF
        replace ha1 := ha1.mono lF
        replace hf1 := hf1.mono lF
        replace hr1 := hr1.mono lF
        rw [zB 3 6 (z9 3 rfl) (z9 6 rfl)]
        refine qk (qn (args := [ptr cb 0, ii ((rs1.length : Int))]) call45 rfl (qZ [_] (l1NumB_spec (m := (rs1.length : Int)) hbs (by omega) (hm := (by first | assumption | rfl | omega | simp)))) ?_)
        rintro _ _ _ _ ⟨⟨rfl, x10, rfl⟩, rfl⟩
        exact ⟨rfl, rfl⟩
       refine tD (fun W Fs R lF z9 => ?_) ?_
       ·refine qk (qo (ii (x6)) rfl ?_)
        exact ⟨rfl, rfl⟩
       refine tD (fun W Fs R lF z9 => ?_) ?_
       ·replace hbs := hbs.mono lF
        replace ha1 := ha1.mono lF
        replace hf1 := hf1.mono lF
        replace hr1 := hr1.mono lF
        rw [zA 0 (z9 0 rfl)]
        show XG _ _ _ _ _ (cellsH b1 [sN, sN] 29 :: ([cellsH b2 [x1, x2] 29, curH .i64 75 cb bsv bs.length] ++ R)) _
        refine qk (qO [] _ [x1, x2] qK rfl rfl rfl (qw (qJ (qv ha1)) (qw (qJ (CRulesF.isSl hf1)) qT)) rfl rfl rfl ?_)
        exact ⟨trivial, rfl⟩
       refine tD (fun W Fs R lF z9 => ?_) ?_
       ·rw [zA 1 (z9 1 rfl)]
        refine qk (jo (x3) rfl ?_)
        exact ⟨rfl, rfl⟩
       refine tD (fun W Fs R lF z9 => ?_) ?_
       ·rw [zA 2 (z9 2 rfl)]
        refine qk (jo (ii (x8)) rfl ?_)
        exact ⟨rfl, rfl⟩
       refine tD (fun W Fs R lF z9 => ?_) ?_
       ·have e7 : (ii (((intAt (W 7)))) : Value) = (W 7) := z9 7 rfl
        rw [eS (l := [(7, (ii (((intAt (W 7))))))]) ⟨(e7).symm, ⟨⟩⟩]
        refine qk (jo (ii (((intAt (W 7))))) rfl ?_)
        exact ⟨rfl, rfl⟩
       exact stepsT.nil
      intro W F12 le12 hphi
      have e7 : (ii (((intAt (W 7)))) : Value) = (W 7) := hphi 7 (by decide)
      have e12 : W 12 = (ii (((intAt (W 7)))) : Value) := hphi 12 (by decide)
      generalize hu1 : (intAt (W 7)) = u1 at e7 e12
      rw [eS (l := [(7, (ii ((u1)))), (8, _), (10, _), (11, _), (12, (ii ((u1))))]) ⟨(e7).symm, (hphi 8 (by decide)), (hphi 10 (by decide)), (hphi 11 (by decide)), e12, ⟨⟩⟩]
      replace hbs := hbs.mono le12
      replace ha1 := ha1.mono le12
      replace hf1 := hf1.mono le12
      replace hr1 := hr1.mono le12
      show XL _ _ _ _ _ _ _ (cellsH b1 [x1, x2] 29 :: cellsH b2 [x1, x2] 29 :: curH .i64 75 cb bsv bs.length :: L)
      refine qj (ii (x6)) rfl (qf (qu (qt (L' := curH .i64 75 cb bsv bs.length :: L) [.agg #[x1, x2], x3, ii (x8), ii ((u1)), ii (x6)] (.tuple #[.agg #[x1, x2], x3, ii (x8), ii ((u1)), ii (x6)]) (.cell rfl (jt [x1, x2] qY qK rfl (Rd.ownN [] rfl rfl)) (.tmp rfl (.tmp rfl (.tmp rfl (.tmp rfl .nil))))) rfl (qc (qc (qc (qc le1 le2) le3) le8) le12) rF (sD (sD (sC sR))) ?_)))
      exact ⟨⟨_, _, _, _, _, _, _, _, _, rfl, ha1, hf1, hr1, h_1, h_2, h_3, q1⟩, rfl⟩
     refine qz (qg (qd (qi (ptr cb 0) rfl (qi (x3) rfl (cX (qE qh rfl hr1.slv (cX (qn (args := [ptr cb 0, ii ((t1.length : Int))]) call45 rfl (qZ [_] (l1NumB_spec (m := (t1.length : Int)) hbs (by omega) (hm := (by first | assumption | rfl | omega | simp)))) ?_))))))))
     rintro _ _ _ _ ⟨⟨rfl, x11, rfl⟩, rfl⟩
     show XL _ _ _ _ _ _ _ (cellsH b2 [x1, x2] 29 :: curH .i64 75 cb bsv bs.length :: cellsH b1 [sN, sN] 29 :: L)
     refine qj (ii (x11)) rfl (qf (qg (X.weaken (Sub.front (A := [_, _])) ?_)))
     show X _ _ _ _ _ _ (cellsH b1 [sN, sN] 29 :: cellsH b2 [x1, x2] 29 :: curH .i64 75 cb bsv bs.length :: L)
     refine X.drawH [cellsH b2 [x1, x2] 29, curH .i64 75 cb bsv bs.length] L 13 [[], [], [], [], [], [], [], [], [], [], [], [], [7]] [[], [], [], [], [], [4], [5], [3, 6], [], [0], [1], [2], [7]] [] (phiG [pe (.agg #[x1, x2]), pe x3, pe (ii (x11)), pe (ptr cb 0), pe (ptr b2 1), pe x2, pe (ii ((rs1.length : Int)) : Value), fun FF us v => (ii (((intAt v))) : Value) = v, pe (ii (x6)), fun FF us v => True, pe x3, pe (ii (x11)), fun FF us v => v = (ii (((intAt (us.getD 0 undef)))) : Value)]) (ownL [o0, o0, o0, o0, o0, o0, o0, o0, o0, fun us v => [cellsH b1 [x1, x2] 29]]) (fun i => ([[], [], [], [], [], [], [], [], [], [cellsH b1 [sN, sN] 29], [], [], []] : List (List HP)).getD i []) mixed rfl rfl (by kernel_rfl) (by kernel_rfl) (MonoG.get (m1 (m1 (m1 (m1 (m1 (m1 (m1 (mC (fun le h => h) (m1 (mC (fun le h => h) (m1 (m1 (mC (fun le h => h) MonoG.nil)))))))))))))) ?_ ?_
     ·refine tD (fun W Fs R lF z9 => ?_) ?_
      ·replace hbs := hbs.mono lF
       replace ha1 := ha1.mono lF
       replace hf1 := hf1.mono lF
       replace hr1 := hr1.mono lF
       refine qk (qs [x1, x2] qY qK rfl rfl (Rd.ownN [] rfl rfl) ?_)
       exact ⟨rfl, rfl⟩
      refine tD (fun W Fs R lF z9 => ?_) ?_
      ·refine qk (qo (x3) rfl ?_)
       exact ⟨rfl, rfl⟩
      refine tD (fun W Fs R lF z9 => ?_) ?_
      ·refine qk (qo (ii (x11)) rfl ?_)
       exact ⟨rfl, rfl⟩
      refine tD (fun W Fs R lF z9 => ?_) ?_
      ·refine qk (qo (ptr cb 0) rfl ?_)
       exact ⟨rfl, rfl⟩
      refine tD (fun W Fs R lF z9 => ?_) ?_
      ·refine qk (qq (1) qF rfl jp (by decide) rfl rfl ?_)
       exact ⟨rfl, rfl⟩
      refine tD (fun W Fs R lF z9 => ?_) ?_
      ·replace hbs := hbs.mono lF
       replace ha1 := ha1.mono lF
       replace hf1 := hf1.mono lF
       replace hr1 := hr1.mono lF
       rw [zA 4 (z9 4 rfl)]
       refine qk (qm jz rfl (Rd.own [] rfl rfl) ?_)
       exact ⟨rfl, rfl⟩
      refine tD (fun W Fs R lF z9 => ?_) ?_
      ·replace hbs := hbs.mono lF
       replace ha1 := ha1.mono lF
       replace hf1 := hf1.mono lF
       replace hr1 := hr1.mono lF
       rw [zA 5 (z9 5 rfl)]
       refine qk (qE qU rfl hf1.slv ?_)
       exact ⟨rfl, rfl⟩
      refine tD (fun W Fs R lF z9 => ?_) ?_
      ·replace hbs := hbs.mono lF
       replace ha1 := ha1.mono lF
       replace hf1 := hf1.mono lF
       replace hr1 := hr1.mono lF
       rw [zB 3 6 (z9 3 rfl) (z9 6 rfl)]
       refine qk (qn (args := [ptr cb 0, ii ((rs1.length : Int))]) call45 rfl (qZ [_] (l1NumB_spec (m := (rs1.length : Int)) hbs (by omega) (hm := (by first | assumption | rfl | omega | simp)))) ?_)
       rintro _ _ _ _ ⟨⟨rfl, x13, rfl⟩, rfl⟩
       exact ⟨rfl, rfl⟩
      refine tD (fun W Fs R lF z9 => ?_) ?_
      ·refine qk (qo (ii (x6)) rfl ?_)
       exact ⟨rfl, rfl⟩
      refine tD (fun W Fs R lF z9 => ?_) ?_
      ·replace hbs := hbs.mono lF
       replace ha1 := ha1.mono lF
       replace hf1 := hf1.mono lF
       replace hr1 := hr1.mono lF
       rw [zA 0 (z9 0 rfl)]
       show XG _ _ _ _ _ (cellsH b1 [sN, sN] 29 :: ([cellsH b2 [x1, x2] 29, curH .i64 75 cb bsv bs.length] ++ R)) _
       refine qk (qO [] _ [x1, x2] qK rfl rfl rfl (qw (qJ (qv ha1)) (qw (qJ (CRulesF.isSl hf1)) qT)) rfl rfl rfl ?_)
       exact ⟨trivial, rfl⟩
      refine tD (fun W Fs R lF z9 => ?_) ?_
      ·rw [zA 1 (z9 1 rfl)]
       refine qk (jo (x3) rfl ?_)
       exact ⟨rfl, rfl⟩
      refine tD (fun W Fs R lF z9 => ?_) ?_
      ·rw [zA 2 (z9 2 rfl)]
       refine qk (jo (ii (x11)) rfl ?_)
       exact ⟨rfl, rfl⟩
      refine tD (fun W Fs R lF z9 => ?_) ?_
      ·have e7 : (ii (((intAt (W 7)))) : Value) = (W 7) := z9 7 rfl
       rw [eS (l := [(7, (ii (((intAt (W 7))))))]) ⟨(e7).symm, ⟨⟩⟩]
       refine qk (jo (ii (((intAt (W 7))))) rfl ?_)
       exact ⟨rfl, rfl⟩
      exact stepsT.nil
     intro W F16 le16 hphi
     have e7 : (ii (((intAt (W 7)))) : Value) = (W 7) := hphi 7 (by decide)
     have e12 : W 12 = (ii (((intAt (W 7)))) : Value) := hphi 12 (by decide)
     generalize hu2 : (intAt (W 7)) = u2 at e7 e12
     rw [eS (l := [(7, (ii ((u2)))), (8, _), (10, _), (11, _), (12, (ii ((u2))))]) ⟨(e7).symm, (hphi 8 (by decide)), (hphi 10 (by decide)), (hphi 11 (by decide)), e12, ⟨⟩⟩]
     replace hbs := hbs.mono le16
     replace ha1 := ha1.mono le16
     replace hf1 := hf1.mono le16
     replace hr1 := hr1.mono le16
     show XL _ _ _ _ _ _ _ (cellsH b1 [x1, x2] 29 :: cellsH b2 [x1, x2] 29 :: curH .i64 75 cb bsv bs.length :: L)
     refine qj (ii (x6)) rfl (qf (qu (qt (L' := curH .i64 75 cb bsv bs.length :: L) [.agg #[x1, x2], x3, ii (x11), ii ((u2)), ii (x6)] (.tuple #[.agg #[x1, x2], x3, ii (x11), ii ((u2)), ii (x6)]) (.cell rfl (jt [x1, x2] qY qK rfl (Rd.ownN [] rfl rfl)) (.tmp rfl (.tmp rfl (.tmp rfl (.tmp rfl .nil))))) rfl (qc (qc (qc le1 le2) le3) le16) rF (sD (sD (sC sR))) ?_)))
     exact ⟨⟨_, _, _, _, _, _, _, _, _, rfl, ha1, hf1, hr1, h_1, h_2, h_3, q1⟩, rfl⟩
    refine qp (t := 36) rfl (vF h4) (qp (t := 36) rfl (vF h4) (qp (t := 36) rfl (vF h4) (qp (t := 36) rfl (vF h4) (cX (qM (.bool (false)) (vF h4) rfl (qf (jS rfl (qz (qg (qd (qi (ptr cb 0) rfl (qi (x3) rfl ?_))))))))))))
    refine cX (qE qh rfl hr1.slv (cX (qn (args := [ptr cb 0, ii ((t1.length : Int))]) call45 rfl (qZ [_] (l1NumB_spec (m := (t1.length : Int)) hbs (by omega) (hm := (by first | assumption | rfl | omega | simp)))) ?_)))
    rintro _ _ _ _ ⟨⟨rfl, x14, rfl⟩, rfl⟩
    show XL _ _ _ _ _ _ _ (cellsH b2 [x1, x2] 29 :: curH .i64 75 cb bsv bs.length :: cellsH b1 [sN, sN] 29 :: L)
    refine qj (ii (x14)) rfl (qf (qg (X.weaken (Sub.front (A := [_, _])) ?_)))
    show X _ _ _ _ _ _ (cellsH b1 [sN, sN] 29 :: cellsH b2 [x1, x2] 29 :: curH .i64 75 cb bsv bs.length :: L)
    refine X.drawH [cellsH b2 [x1, x2] 29, curH .i64 75 cb bsv bs.length] L 13 [[], [], [], [], [], [], [], [], [], [], [], [], [7]] [[], [], [], [], [], [4], [5], [3, 6], [], [0], [1], [2], [7]] [] (phiG [pe (.agg #[x1, x2]), pe x3, pe (ii (x14)), pe (ptr cb 0), pe (ptr b2 1), pe x2, pe (ii ((rs1.length : Int)) : Value), fun FF us v => (ii (((intAt v))) : Value) = v, pe (ii (x6)), fun FF us v => True, pe x3, pe (ii (x14)), fun FF us v => v = (ii (((intAt (us.getD 0 undef)))) : Value)]) (ownL [o0, o0, o0, o0, o0, o0, o0, o0, o0, fun us v => [cellsH b1 [x1, x2] 29]]) (fun i => ([[], [], [], [], [], [], [], [], [], [cellsH b1 [sN, sN] 29], [], [], []] : List (List HP)).getD i []) mixed rfl rfl (by kernel_rfl) (by kernel_rfl) (MonoG.get (m1 (m1 (m1 (m1 (m1 (m1 (m1 (mC (fun le h => h) (m1 (mC (fun le h => h) (m1 (m1 (mC (fun le h => h) MonoG.nil)))))))))))))) ?_ ?_
    ·refine tD (fun W Fs R lF z9 => ?_) ?_
     ·replace hbs := hbs.mono lF
      replace ha1 := ha1.mono lF
      replace hf1 := hf1.mono lF
      replace hr1 := hr1.mono lF
      refine qk (qs [x1, x2] qY qK rfl rfl (Rd.ownN [] rfl rfl) ?_)
      exact ⟨rfl, rfl⟩
     refine tD (fun W Fs R lF z9 => ?_) ?_
     ·refine qk (qo (x3) rfl ?_)
      exact ⟨rfl, rfl⟩
     refine tD (fun W Fs R lF z9 => ?_) ?_
     ·refine qk (qo (ii (x14)) rfl ?_)
      exact ⟨rfl, rfl⟩
     refine tD (fun W Fs R lF z9 => ?_) ?_
     ·refine qk (qo (ptr cb 0) rfl ?_)
      exact ⟨rfl, rfl⟩
     refine tD (fun W Fs R lF z9 => ?_) ?_
     ·refine qk (qq (1) qF rfl jp (by decide) rfl rfl ?_)
      exact ⟨rfl, rfl⟩
     refine tD (fun W Fs R lF z9 => ?_) ?_
     ·replace hbs := hbs.mono lF
      replace ha1 := ha1.mono lF
      replace hf1 := hf1.mono lF
      replace hr1 := hr1.mono lF
      rw [zA 4 (z9 4 rfl)]
      refine qk (qm jz rfl (Rd.own [] rfl rfl) ?_)
      exact ⟨rfl, rfl⟩
     refine tD (fun W Fs R lF z9 => ?_) ?_
     ·replace hbs := hbs.mono lF
      replace ha1 := ha1.mono lF
      replace hf1 := hf1.mono lF
      replace hr1 := hr1.mono lF
      rw [zA 5 (z9 5 rfl)]
      refine qk (qE qU rfl hf1.slv ?_)
      exact ⟨rfl, rfl⟩
     refine tD (fun W Fs R lF z9 => ?_) ?_
     ·replace hbs := hbs.mono lF
      replace ha1 := ha1.mono lF
      replace hf1 := hf1.mono lF
      replace hr1 := hr1.mono lF
      rw [zB 3 6 (z9 3 rfl) (z9 6 rfl)]
      refine qk (qn (args := [ptr cb 0, ii ((rs1.length : Int))]) call45 rfl (qZ [_] (l1NumB_spec (m := (rs1.length : Int)) hbs (by omega) (hm := (by first | assumption | rfl | omega | simp)))) ?_)
      rintro _ _ _ _ ⟨⟨rfl, x16, rfl⟩, rfl⟩
      exact ⟨rfl, rfl⟩
     refine tD (fun W Fs R lF z9 => ?_) ?_
     ·refine qk (qo (ii (x6)) rfl ?_)
      exact ⟨rfl, rfl⟩
     refine tD (fun W Fs R lF z9 => ?_) ?_
     ·replace hbs := hbs.mono lF
      replace ha1 := ha1.mono lF
      replace hf1 := hf1.mono lF
      replace hr1 := hr1.mono lF
      rw [zA 0 (z9 0 rfl)]
      show XG _ _ _ _ _ (cellsH b1 [sN, sN] 29 :: ([cellsH b2 [x1, x2] 29, curH .i64 75 cb bsv bs.length] ++ R)) _
      refine qk (qO [] _ [x1, x2] qK rfl rfl rfl (qw (qJ (qv ha1)) (qw (qJ (CRulesF.isSl hf1)) qT)) rfl rfl rfl ?_)
      exact ⟨trivial, rfl⟩
     refine tD (fun W Fs R lF z9 => ?_) ?_
     ·rw [zA 1 (z9 1 rfl)]
      refine qk (jo (x3) rfl ?_)
      exact ⟨rfl, rfl⟩
     refine tD (fun W Fs R lF z9 => ?_) ?_
     ·rw [zA 2 (z9 2 rfl)]
      refine qk (jo (ii (x14)) rfl ?_)
      exact ⟨rfl, rfl⟩
     refine tD (fun W Fs R lF z9 => ?_) ?_
     ·have e7 : (ii (((intAt (W 7)))) : Value) = (W 7) := z9 7 rfl
      rw [eS (l := [(7, (ii (((intAt (W 7))))))]) ⟨(e7).symm, ⟨⟩⟩]
      refine qk (jo (ii (((intAt (W 7))))) rfl ?_)
      exact ⟨rfl, rfl⟩
     exact stepsT.nil
    intro W F20 le20 hphi
    have e7 : (ii (((intAt (W 7)))) : Value) = (W 7) := hphi 7 (by decide)
    have e12 : W 12 = (ii (((intAt (W 7)))) : Value) := hphi 12 (by decide)
    generalize hu3 : (intAt (W 7)) = u3 at e7 e12
    rw [eS (l := [(7, (ii ((u3)))), (8, _), (10, _), (11, _), (12, (ii ((u3))))]) ⟨(e7).symm, (hphi 8 (by decide)), (hphi 10 (by decide)), (hphi 11 (by decide)), e12, ⟨⟩⟩]
    replace hbs := hbs.mono le20
    replace ha1 := ha1.mono le20
    replace hf1 := hf1.mono le20
    replace hr1 := hr1.mono le20
    show XL _ _ _ _ _ _ _ (cellsH b1 [x1, x2] 29 :: cellsH b2 [x1, x2] 29 :: curH .i64 75 cb bsv bs.length :: L)
    refine qj (ii (x6)) rfl (qf (qu (qt (L' := curH .i64 75 cb bsv bs.length :: L) [.agg #[x1, x2], x3, ii (x14), ii ((u3)), ii (x6)] (.tuple #[.agg #[x1, x2], x3, ii (x14), ii ((u3)), ii (x6)]) (.cell rfl (jt [x1, x2] qY qK rfl (Rd.ownN [] rfl rfl)) (.tmp rfl (.tmp rfl (.tmp rfl (.tmp rfl .nil))))) rfl (qc (qc (qc le1 le2) le3) le20) rF (sD (sD (sC sR))) ?_)))
    exact ⟨⟨_, _, _, _, _, _, _, _, _, rfl, ha1, hf1, hr1, h_1, h_2, h_3, q1⟩, rfl⟩
   rw [Bool.not_eq_true] at h3
   refine qp (t := 32) rfl (vB h3) (qp (t := 32) rfl (vB h3) (cX (qM (.bool (false)) (vB h3) rfl (qi (.bool (false)) rfl (qp (t := 36) rfl rfl (qp (t := 36) rfl rfl (qp (t := 36) rfl rfl (qp (t := 36) rfl rfl (cX (qM (.bool (false)) rfl rfl (qf ?_)))))))))))
   refine jS rfl (qz (qg (qd (qi (ptr cb 0) rfl (qi (x3) rfl (cX (qE qh rfl hr1.slv (cX (qn (args := [ptr cb 0, ii ((t1.length : Int))]) call45 rfl (qZ [_] (l1NumB_spec (m := (t1.length : Int)) hbs (by omega) (hm := (by first | assumption | rfl | omega | simp)))) ?_)))))))))
   rintro _ _ _ _ ⟨⟨rfl, x17, rfl⟩, rfl⟩
   show XL _ _ _ _ _ _ _ (cellsH b2 [x1, x2] 29 :: curH .i64 75 cb bsv bs.length :: cellsH b1 [sN, sN] 29 :: L)
   refine qj (ii (x17)) rfl (qf (qg (X.weaken (Sub.front (A := [_, _])) ?_)))
   show X _ _ _ _ _ _ (cellsH b1 [sN, sN] 29 :: cellsH b2 [x1, x2] 29 :: curH .i64 75 cb bsv bs.length :: L)
   refine X.drawH [cellsH b2 [x1, x2] 29, curH .i64 75 cb bsv bs.length] L 13 [[], [], [], [], [], [], [], [], [], [], [], [], [7]] [[], [], [], [], [], [4], [5], [3, 6], [], [0], [1], [2], [7]] [] (phiG [pe (.agg #[x1, x2]), pe x3, pe (ii (x17)), pe (ptr cb 0), pe (ptr b2 1), pe x2, pe (ii ((rs1.length : Int)) : Value), fun FF us v => (ii (((intAt v))) : Value) = v, pe (ii (x6)), fun FF us v => True, pe x3, pe (ii (x17)), fun FF us v => v = (ii (((intAt (us.getD 0 undef)))) : Value)]) (ownL [o0, o0, o0, o0, o0, o0, o0, o0, o0, fun us v => [cellsH b1 [x1, x2] 29]]) (fun i => ([[], [], [], [], [], [], [], [], [], [cellsH b1 [sN, sN] 29], [], [], []] : List (List HP)).getD i []) mixed rfl rfl (by kernel_rfl) (by kernel_rfl) (MonoG.get (m1 (m1 (m1 (m1 (m1 (m1 (m1 (mC (fun le h => h) (m1 (mC (fun le h => h) (m1 (m1 (mC (fun le h => h) MonoG.nil)))))))))))))) ?_ ?_
   ·refine tD (fun W Fs R lF z9 => ?_) ?_
    ·replace hbs := hbs.mono lF
     replace ha1 := ha1.mono lF
     replace hf1 := hf1.mono lF
     replace hr1 := hr1.mono lF
     refine qk (qs [x1, x2] qY qK rfl rfl (Rd.ownN [] rfl rfl) ?_)
     exact ⟨rfl, rfl⟩
    refine tD (fun W Fs R lF z9 => ?_) ?_
    ·refine qk (qo (x3) rfl ?_)
     exact ⟨rfl, rfl⟩
    refine tD (fun W Fs R lF z9 => ?_) ?_
    ·refine qk (qo (ii (x17)) rfl ?_)
     exact ⟨rfl, rfl⟩
    refine tD (fun W Fs R lF z9 => ?_) ?_
    ·refine qk (qo (ptr cb 0) rfl ?_)
     exact ⟨rfl, rfl⟩
    refine tD (fun W Fs R lF z9 => ?_) ?_
    ·refine qk (qq (1) qF rfl jp (by decide) rfl rfl ?_)
     exact ⟨rfl, rfl⟩
    refine tD (fun W Fs R lF z9 => ?_) ?_
    ·replace hbs := hbs.mono lF
     replace ha1 := ha1.mono lF
     replace hf1 := hf1.mono lF
     replace hr1 := hr1.mono lF
     rw [zA 4 (z9 4 rfl)]
     refine qk (qm jz rfl (Rd.own [] rfl rfl) ?_)
     exact ⟨rfl, rfl⟩
    refine tD (fun W Fs R lF z9 => ?_) ?_
    ·replace hbs := hbs.mono lF
     replace ha1 := ha1.mono lF
     replace hf1 := hf1.mono lF
     replace hr1 := hr1.mono lF
     rw [zA 5 (z9 5 rfl)]
     refine qk (qE qU rfl hf1.slv ?_)
     exact ⟨rfl, rfl⟩
    refine tD (fun W Fs R lF z9 => ?_) ?_
    ·replace hbs := hbs.mono lF
     replace ha1 := ha1.mono lF
     replace hf1 := hf1.mono lF
     replace hr1 := hr1.mono lF
     rw [zB 3 6 (z9 3 rfl) (z9 6 rfl)]
     refine qk (qn (args := [ptr cb 0, ii ((rs1.length : Int))]) call45 rfl (qZ [_] (l1NumB_spec (m := (rs1.length : Int)) hbs (by omega) (hm := (by first | assumption | rfl | omega | simp)))) ?_)
     rintro _ _ _ _ ⟨⟨rfl, x19, rfl⟩, rfl⟩
     exact ⟨rfl, rfl⟩
    refine tD (fun W Fs R lF z9 => ?_) ?_
    ·refine qk (qo (ii (x6)) rfl ?_)
     exact ⟨rfl, rfl⟩
    refine tD (fun W Fs R lF z9 => ?_) ?_
    ·replace hbs := hbs.mono lF
     replace ha1 := ha1.mono lF
     replace hf1 := hf1.mono lF
     replace hr1 := hr1.mono lF
     rw [zA 0 (z9 0 rfl)]
     show XG _ _ _ _ _ (cellsH b1 [sN, sN] 29 :: ([cellsH b2 [x1, x2] 29, curH .i64 75 cb bsv bs.length] ++ R)) _
     refine qk (qO [] _ [x1, x2] qK rfl rfl rfl (qw (qJ (qv ha1)) (qw (qJ (CRulesF.isSl hf1)) qT)) rfl rfl rfl ?_)
     exact ⟨trivial, rfl⟩
    refine tD (fun W Fs R lF z9 => ?_) ?_
    ·rw [zA 1 (z9 1 rfl)]
     refine qk (jo (x3) rfl ?_)
     exact ⟨rfl, rfl⟩
    refine tD (fun W Fs R lF z9 => ?_) ?_
    ·rw [zA 2 (z9 2 rfl)]
     refine qk (jo (ii (x17)) rfl ?_)
     exact ⟨rfl, rfl⟩
    refine tD (fun W Fs R lF z9 => ?_) ?_
    ·have e7 : (ii (((intAt (W 7)))) : Value) = (W 7) := z9 7 rfl
     rw [eS (l := [(7, (ii (((intAt (W 7))))))]) ⟨(e7).symm, ⟨⟩⟩]
     refine qk (jo (ii (((intAt (W 7))))) rfl ?_)
     exact ⟨rfl, rfl⟩
    exact stepsT.nil
   intro W F24 le24 hphi
   have e7 : (ii (((intAt (W 7)))) : Value) = (W 7) := hphi 7 (by decide)
   have e12 : W 12 = (ii (((intAt (W 7)))) : Value) := hphi 12 (by decide)
   generalize hu4 : (intAt (W 7)) = u4 at e7 e12
   rw [eS (l := [(7, (ii ((u4)))), (8, _), (10, _), (11, _), (12, (ii ((u4))))]) ⟨(e7).symm, (hphi 8 (by decide)), (hphi 10 (by decide)), (hphi 11 (by decide)), e12, ⟨⟩⟩]
   replace hbs := hbs.mono le24
   replace ha1 := ha1.mono le24
   replace hf1 := hf1.mono le24
   replace hr1 := hr1.mono le24
   show XL _ _ _ _ _ _ _ (cellsH b1 [x1, x2] 29 :: cellsH b2 [x1, x2] 29 :: curH .i64 75 cb bsv bs.length :: L)
   refine qj (ii (x6)) rfl (qf (qu (qt (L' := curH .i64 75 cb bsv bs.length :: L) [.agg #[x1, x2], x3, ii (x17), ii ((u4)), ii (x6)] (.tuple #[.agg #[x1, x2], x3, ii (x17), ii ((u4)), ii (x6)]) (.cell rfl (jt [x1, x2] qY qK rfl (Rd.ownN [] rfl rfl)) (.tmp rfl (.tmp rfl (.tmp rfl (.tmp rfl .nil))))) rfl (qc (qc (qc le1 le2) le3) le24) rF (sD (sD (sC sR))) ?_)))
   exact ⟨⟨_, _, _, _, _, _, _, _, _, rfl, ha1, hf1, hr1, h_1, h_2, h_3, q1⟩, rfl⟩
  rw [Bool.not_eq_true] at h2
  refine qp (t := 27) rfl (vB h2) (qp (t := 27) rfl (vB h2) (qp (t := 27) rfl (vB h2) (cX (qM (.bool (false)) (vB h2) rfl (qi (.bool (false)) rfl (qp (t := 32) rfl rfl (qp (t := 32) rfl rfl (cX (qM (.bool (false)) rfl rfl (qi (.bool (false)) rfl (qp (t := 36) rfl rfl ?_)))))))))))
  refine qp (t := 36) rfl rfl (qp (t := 36) rfl rfl (qp (t := 36) rfl rfl (cX (qM (.bool (false)) rfl rfl (qf (jS rfl (qz (qg (qd (qi (ptr cb 0) rfl (qi (x3) rfl (cX (qE qh rfl hr1.slv ?_)))))))))))))
  refine cX (qn (args := [ptr cb 0, ii ((t1.length : Int))]) call45 rfl (qZ [_] (l1NumB_spec (m := (t1.length : Int)) hbs (by omega) (hm := (by first | assumption | rfl | omega | simp)))) ?_)
  rintro _ _ _ _ ⟨⟨rfl, x20, rfl⟩, rfl⟩
  show XL _ _ _ _ _ _ _ (cellsH b2 [x1, x2] 29 :: curH .i64 75 cb bsv bs.length :: cellsH b1 [sN, sN] 29 :: L)
  refine qj (ii (x20)) rfl (qf (qg (X.weaken (Sub.front (A := [_, _])) ?_)))
  show X _ _ _ _ _ _ (cellsH b1 [sN, sN] 29 :: cellsH b2 [x1, x2] 29 :: curH .i64 75 cb bsv bs.length :: L)
  refine X.drawH [cellsH b2 [x1, x2] 29, curH .i64 75 cb bsv bs.length] L 13 [[], [], [], [], [], [], [], [], [], [], [], [], [7]] [[], [], [], [], [], [4], [5], [3, 6], [], [0], [1], [2], [7]] [] (phiG [pe (.agg #[x1, x2]), pe x3, pe (ii (x20)), pe (ptr cb 0), pe (ptr b2 1), pe x2, pe (ii ((rs1.length : Int)) : Value), fun FF us v => (ii (((intAt v))) : Value) = v, pe (ii (x6)), fun FF us v => True, pe x3, pe (ii (x20)), fun FF us v => v = (ii (((intAt (us.getD 0 undef)))) : Value)]) (ownL [o0, o0, o0, o0, o0, o0, o0, o0, o0, fun us v => [cellsH b1 [x1, x2] 29]]) (fun i => ([[], [], [], [], [], [], [], [], [], [cellsH b1 [sN, sN] 29], [], [], []] : List (List HP)).getD i []) mixed rfl rfl (by kernel_rfl) (by kernel_rfl) (MonoG.get (m1 (m1 (m1 (m1 (m1 (m1 (m1 (mC (fun le h => h) (m1 (mC (fun le h => h) (m1 (m1 (mC (fun le h => h) MonoG.nil)))))))))))))) ?_ ?_
  ·refine tD (fun W Fs R lF z9 => ?_) ?_
   ·replace hbs := hbs.mono lF
    replace ha1 := ha1.mono lF
    replace hf1 := hf1.mono lF
    replace hr1 := hr1.mono lF
    refine qk (qs [x1, x2] qY qK rfl rfl (Rd.ownN [] rfl rfl) ?_)
    exact ⟨rfl, rfl⟩
   refine tD (fun W Fs R lF z9 => ?_) ?_
   ·refine qk (qo (x3) rfl ?_)
    exact ⟨rfl, rfl⟩
   refine tD (fun W Fs R lF z9 => ?_) ?_
   ·refine qk (qo (ii (x20)) rfl ?_)
    exact ⟨rfl, rfl⟩
   refine tD (fun W Fs R lF z9 => ?_) ?_
   ·refine qk (qo (ptr cb 0) rfl ?_)
    exact ⟨rfl, rfl⟩
   refine tD (fun W Fs R lF z9 => ?_) ?_
   ·refine qk (qq (1) qF rfl jp (by decide) rfl rfl ?_)
    exact ⟨rfl, rfl⟩
   refine tD (fun W Fs R lF z9 => ?_) ?_
   ·replace hbs := hbs.mono lF
    replace ha1 := ha1.mono lF
    replace hf1 := hf1.mono lF
    replace hr1 := hr1.mono lF
    rw [zA 4 (z9 4 rfl)]
    refine qk (qm jz rfl (Rd.own [] rfl rfl) ?_)
    exact ⟨rfl, rfl⟩
   refine tD (fun W Fs R lF z9 => ?_) ?_
   ·replace hbs := hbs.mono lF
    replace ha1 := ha1.mono lF
    replace hf1 := hf1.mono lF
    replace hr1 := hr1.mono lF
    rw [zA 5 (z9 5 rfl)]
    refine qk (qE qU rfl hf1.slv ?_)
    exact ⟨rfl, rfl⟩
   refine tD (fun W Fs R lF z9 => ?_) ?_
   ·replace hbs := hbs.mono lF
    replace ha1 := ha1.mono lF
    replace hf1 := hf1.mono lF
    replace hr1 := hr1.mono lF
    rw [zB 3 6 (z9 3 rfl) (z9 6 rfl)]
    refine qk (qn (args := [ptr cb 0, ii ((rs1.length : Int))]) call45 rfl (qZ [_] (l1NumB_spec (m := (rs1.length : Int)) hbs (by omega) (hm := (by first | assumption | rfl | omega | simp)))) ?_)
    rintro _ _ _ _ ⟨⟨rfl, x22, rfl⟩, rfl⟩
    exact ⟨rfl, rfl⟩
   refine tD (fun W Fs R lF z9 => ?_) ?_
   ·refine qk (qo (ii (x6)) rfl ?_)
    exact ⟨rfl, rfl⟩
   refine tD (fun W Fs R lF z9 => ?_) ?_
   ·replace hbs := hbs.mono lF
    replace ha1 := ha1.mono lF
    replace hf1 := hf1.mono lF
    replace hr1 := hr1.mono lF
    rw [zA 0 (z9 0 rfl)]
    show XG _ _ _ _ _ (cellsH b1 [sN, sN] 29 :: ([cellsH b2 [x1, x2] 29, curH .i64 75 cb bsv bs.length] ++ R)) _
    refine qk (qO [] _ [x1, x2] qK rfl rfl rfl (qw (qJ (qv ha1)) (qw (qJ (CRulesF.isSl hf1)) qT)) rfl rfl rfl ?_)
    exact ⟨trivial, rfl⟩
   refine tD (fun W Fs R lF z9 => ?_) ?_
   ·rw [zA 1 (z9 1 rfl)]
    refine qk (jo (x3) rfl ?_)
    exact ⟨rfl, rfl⟩
   refine tD (fun W Fs R lF z9 => ?_) ?_
   ·rw [zA 2 (z9 2 rfl)]
    refine qk (jo (ii (x20)) rfl ?_)
    exact ⟨rfl, rfl⟩
   refine tD (fun W Fs R lF z9 => ?_) ?_
   ·have e7 : (ii (((intAt (W 7)))) : Value) = (W 7) := z9 7 rfl
    rw [eS (l := [(7, (ii (((intAt (W 7))))))]) ⟨(e7).symm, ⟨⟩⟩]
    refine qk (jo (ii (((intAt (W 7))))) rfl ?_)
    exact ⟨rfl, rfl⟩
   exact stepsT.nil
  intro W F28 le28 hphi
  have e7 : (ii (((intAt (W 7)))) : Value) = (W 7) := hphi 7 (by decide)
  have e12 : W 12 = (ii (((intAt (W 7)))) : Value) := hphi 12 (by decide)
  generalize hu5 : (intAt (W 7)) = u5 at e7 e12
  rw [eS (l := [(7, (ii ((u5)))), (8, _), (10, _), (11, _), (12, (ii ((u5))))]) ⟨(e7).symm, (hphi 8 (by decide)), (hphi 10 (by decide)), (hphi 11 (by decide)), e12, ⟨⟩⟩]
  replace hbs := hbs.mono le28
  replace ha1 := ha1.mono le28
  replace hf1 := hf1.mono le28
  replace hr1 := hr1.mono le28
  show XL _ _ _ _ _ _ _ (cellsH b1 [x1, x2] 29 :: cellsH b2 [x1, x2] 29 :: curH .i64 75 cb bsv bs.length :: L)
  refine qj (ii (x6)) rfl (qf (qu (qt (L' := curH .i64 75 cb bsv bs.length :: L) [.agg #[x1, x2], x3, ii (x20), ii ((u5)), ii (x6)] (.tuple #[.agg #[x1, x2], x3, ii (x20), ii ((u5)), ii (x6)]) (.cell rfl (jt [x1, x2] qY qK rfl (Rd.ownN [] rfl rfl)) (.tmp rfl (.tmp rfl (.tmp rfl (.tmp rfl .nil))))) rfl (qc (qc (qc le1 le2) le3) le28) rF (sD (sD (sC sR))) ?_)))
  exact ⟨⟨_, _, _, _, _, _, _, _, _, rfl, ha1, hf1, hr1, h_1, h_2, h_3, q1⟩, rfl⟩
 refine qz (qg (qg (qd (cX (qs [x1, x2] qY qK rfl rfl (Rd.ownN [] rfl rfl) (cX (qn (args := [.agg #[x1, x2]]) call30 rfl (sCSystemOk_spec ha1 hf1 (hla := (by first | assumption | rfl | omega | simp)) (hlr := (by first | assumption | rfl | omega | simp)) (hrb := (hrb))) ?_)))))))
 rintro _ _ _ _ ⟨rfl, rfl, rfl⟩
 refine qi (.bool (csysOk ar1 rs1)) rfl ?_
 by_cases h7 : (csysOk ar1 rs1) = true
 ·have hcs : csysOk _ _ = true := h7
  refine qr (t := 27) rfl (vB h7) (qo (ptr cb 0) rfl (qr (t := 27) rfl (vB h7) (qn (args := [ptr cb 0, ii (4)]) call28 rfl (qZ [_] (l1Once_spec (n := 4) hbs (by omega) (hn := (by first | assumption | rfl | omega | simp)))) ?_)))
  rintro _ _ _ _ ⟨⟨rfl, x23, rfl⟩, rfl⟩
  show XL _ _ _ _ _ _ _ (cellsH b2 [x1, x2] 29 :: curH .i64 75 cb bsv bs.length :: cellsH b1 [sN, sN] 29 :: L)
  refine qr (t := 27) rfl (vB h7) (jg rfl (cX (qN (.bool (!(x23))) (vB h7) rfl (qi (.bool (!(x23))) rfl ?_))))
  by_cases h8 : (!(x23)) = true
  ·refine qr (t := 32) rfl (vB h8) (qo (ii (x4)) rfl (qr (t := 32) rfl (vB h8) (qn (args := [ii (x4), ii (0), ii (2)]) call35 rfl (l1In_spec (n := x4) (a := 0) (b := 2)) ?_)))
   rintro _ _ _ _ ⟨rfl, rfl, rfl⟩
   refine cX (qN (.bool (decide (0 ≤ x4 ∧ x4 ≤ 2))) (vB h8) rfl (qi (.bool (decide (0 ≤ x4 ∧ x4 ≤ 2))) rfl ?_))
   by_cases h9 : 0 ≤ x4 ∧ x4 ≤ 2
   ·refine qr (t := 36) rfl (vT h9) (qq (0) qF rfl qB (by decide) rfl rfl (qr (t := 36) rfl (vT h9) (qs [x1] qW qB rfl rfl (Rd.ownN [] rfl rfl) (qr (t := 36) rfl (vT h9) (qo (x3) rfl (qr (t := 36) rfl (vT h9) (qn (args := [.agg #[x1], x3]) call44 rfl (sTermOk_spec ha1 hr1 (hla := (by first | assumption | rfl | omega | simp)) (hlt := (by first | assumption | rfl | omega | simp))) ?_)))))))
    rintro _ _ _ _ ⟨rfl, rfl, rfl⟩
    refine cX (qN (.bool (termOk ar1 t1)) (vT h9) rfl (qf ?_))
    refine js (t := termOk ar1 t1) rfl (fun h10 => ?_) (fun h10 => ?_)
    ·have hto : termOk _ _ = true := h10
     refine qg (qd (cX (qs [x1, x2] qY qK rfl rfl (Rd.ownN [] rfl rfl) (qi (x3) rfl (qi (ii (x4)) rfl (cX (qn (args := [.agg #[x1, x2], x3, ii (((x4).toNat : Nat) : Int)]) call26 (by rw [show (((x4).toNat : Nat) : Int) = x4 from by omega]; rfl) (spick_step (d := (x4).toNat) (fun m9 _ => snormal m9) ha1 hf1 hr1 (hc := (hcs)) (ho := (hto)) (hd2 := (by first | assumption | rfl | omega | simp))) ?_)))))))
     rintro _ F30 _ le30 ⟨⟨rfl, hr5⟩, rfl⟩
     replace hbs := hbs.mono le30
     replace ha1 := ha1.mono le30
     replace hf1 := hf1.mono le30
     replace hr1 := hr1.mono le30
     show XL _ _ _ _ _ _ _ (cellsH b2 [x1, x2] 29 :: curH .i64 75 cb bsv bs.length :: cellsH b1 [sN, sN] 29 :: L)
     refine qi (.tuple #[ii ((pickV ar1 rs1 ((x4).toNat) t1).1), ii ((pickV ar1 rs1 ((x4).toNat) t1).2.1), .bool ((pickV ar1 rs1 ((x4).toNat) t1).2.2)]) rfl (cX (qG (ii ((pickV ar1 rs1 ((x4).toNat) t1).1)) rfl rfl (cX (qG (ii ((pickV ar1 rs1 ((x4).toNat) t1).2.1)) rfl rfl (cX (qG (.bool ((pickV ar1 rs1 ((x4).toNat) t1).2.2)) rfl rfl (qj (ii ((pickV ar1 rs1 ((x4).toNat) t1).1)) rfl (qj (ii ((pickV ar1 rs1 ((x4).toNat) t1).2.1)) rfl (qj (.bool ((pickV ar1 rs1 ((x4).toNat) t1).2.2)) rfl (qf (qg (qd (qi (.bool ((pickV ar1 rs1 ((x4).toNat) t1).2.2)) rfl (qf ?_))))))))))))))
     refine js (t := (pickV ar1 rs1 ((x4).toNat) t1).2.2) rfl (fun h11 => ?_) (fun h11 => ?_)
     ·refine qg (qd (cX (qs [x1, x2] qY qK rfl rfl (Rd.ownN [] rfl rfl) (qi (x3) rfl (qi (ii ((pickV ar1 rs1 ((x4).toNat) t1).1)) rfl (qi (ii ((pickV ar1 rs1 ((x4).toNat) t1).2.1)) rfl (qi (ii (x4)) rfl (cX (qO [_, _] _ [x1, x2] qK rfl rfl rfl (qw (qJ (qv ha1)) (qw (qJ (CRulesF.isSl hf1)) qT)) rfl rfl rfl (qj (x3) rfl (qj (ii ((pickV ar1 rs1 ((x4).toNat) t1).1)) rfl (qj (ii ((pickV ar1 rs1 ((x4).toNat) t1).2.1)) rfl ?_))))))))))))
      refine qj (ii (x4)) rfl (qf (qu (ql (qt (L' := curH .i64 75 cb bsv bs.length :: L) [.agg #[x1, x2], x3, ii ((pickV ar1 rs1 ((x4).toNat) t1).1), ii ((pickV ar1 rs1 ((x4).toNat) t1).2.1), ii (x4)] (.tuple #[.agg #[x1, x2], x3, ii ((pickV ar1 rs1 ((x4).toNat) t1).1), ii ((pickV ar1 rs1 ((x4).toNat) t1).2.1), ii (x4)]) (.cell rfl (jt [x1, x2] qY qK rfl (Rd.ownN [_, _] rfl rfl)) (.tmp rfl (.tmp rfl (.tmp rfl (.tmp rfl .nil))))) rfl (qc (qc (qc le1 le2) le3) le30) rF (sD (sC (sD sR))) ?_))))
      exact ⟨⟨_, _, _, _, _, _, _, _, _, rfl, ha1, hf1, hr1, h_1, h_2, h_3, q1⟩, rfl⟩
     refine qz (qg (qd (qi (ptr cb 0) rfl (qi (x3) rfl (cX (qE qh rfl hr1.slv (cX (qn (args := [ptr cb 0, ii ((t1.length : Int))]) call45 rfl (qZ [_] (l1NumB_spec (m := (t1.length : Int)) hbs (by omega) (hm := (by first | assumption | rfl | omega | simp)))) ?_))))))))
     rintro _ _ _ _ ⟨⟨rfl, x24, rfl⟩, rfl⟩
     show XL _ _ _ _ _ _ _ (cellsH b2 [x1, x2] 29 :: curH .i64 75 cb bsv bs.length :: cellsH b1 [sN, sN] 29 :: L)
     refine qj (ii (x24)) rfl (qf (qg (X.weaken (Sub.front (A := [_, _])) ?_)))
     show X _ _ _ _ _ _ (cellsH b1 [sN, sN] 29 :: cellsH b2 [x1, x2] 29 :: curH .i64 75 cb bsv bs.length :: L)
     refine X.drawH [cellsH b2 [x1, x2] 29, curH .i64 75 cb bsv bs.length] L 13 [[], [], [], [], [], [], [], [], [], [], [], [], [7]] [[], [], [], [], [], [4], [5], [3, 6], [], [0], [1], [2], [7]] [] (phiG [pe (.agg #[x1, x2]), pe x3, pe (ii (x24)), pe (ptr cb 0), pe (ptr b2 1), pe x2, pe (ii ((rs1.length : Int)) : Value), fun FF us v => (ii (((intAt v))) : Value) = v, pe (ii (x4)), fun FF us v => True, pe x3, pe (ii (x24)), fun FF us v => v = (ii (((intAt (us.getD 0 undef)))) : Value)]) (ownL [o0, o0, o0, o0, o0, o0, o0, o0, o0, fun us v => [cellsH b1 [x1, x2] 29]]) (fun i => ([[], [], [], [], [], [], [], [], [], [cellsH b1 [sN, sN] 29], [], [], []] : List (List HP)).getD i []) mixed rfl rfl (by kernel_rfl) (by kernel_rfl) (MonoG.get (m1 (m1 (m1 (m1 (m1 (m1 (m1 (mC (fun le h => h) (m1 (mC (fun le h => h) (m1 (m1 (mC (fun le h => h) MonoG.nil)))))))))))))) ?_ ?_
     ·refine tD (fun W Fs R lF z9 => ?_) ?_
      ·replace hbs := hbs.mono lF
       replace ha1 := ha1.mono lF
       replace hf1 := hf1.mono lF
       replace hr1 := hr1.mono lF
       refine qk (qs [x1, x2] qY qK rfl rfl (Rd.ownN [] rfl rfl) ?_)
       exact ⟨rfl, rfl⟩
      refine tD (fun W Fs R lF z9 => ?_) ?_
      ·refine qk (qo (x3) rfl ?_)
       exact ⟨rfl, rfl⟩
      refine tD (fun W Fs R lF z9 => ?_) ?_
      ·refine qk (qo (ii (x24)) rfl ?_)
       exact ⟨rfl, rfl⟩
      refine tD (fun W Fs R lF z9 => ?_) ?_
      ·refine qk (qo (ptr cb 0) rfl ?_)
       exact ⟨rfl, rfl⟩
      refine tD (fun W Fs R lF z9 => ?_) ?_
      ·refine qk (qq (1) qF rfl jp (by decide) rfl rfl ?_)
       exact ⟨rfl, rfl⟩
      refine tD (fun W Fs R lF z9 => ?_) ?_
      ·replace hbs := hbs.mono lF
       replace ha1 := ha1.mono lF
       replace hf1 := hf1.mono lF
       replace hr1 := hr1.mono lF
       rw [zA 4 (z9 4 rfl)]
       refine qk (qm jz rfl (Rd.own [] rfl rfl) ?_)
       exact ⟨rfl, rfl⟩
      refine tD (fun W Fs R lF z9 => ?_) ?_
      ·replace hbs := hbs.mono lF
       replace ha1 := ha1.mono lF
       replace hf1 := hf1.mono lF
       replace hr1 := hr1.mono lF
       rw [zA 5 (z9 5 rfl)]
       refine qk (qE qU rfl hf1.slv ?_)
       exact ⟨rfl, rfl⟩
      refine tD (fun W Fs R lF z9 => ?_) ?_
      ·replace hbs := hbs.mono lF
       replace ha1 := ha1.mono lF
       replace hf1 := hf1.mono lF
       replace hr1 := hr1.mono lF
       rw [zB 3 6 (z9 3 rfl) (z9 6 rfl)]
       refine qk (qn (args := [ptr cb 0, ii ((rs1.length : Int))]) call45 rfl (qZ [_] (l1NumB_spec (m := (rs1.length : Int)) hbs (by omega) (hm := (by first | assumption | rfl | omega | simp)))) ?_)
       rintro _ _ _ _ ⟨⟨rfl, x26, rfl⟩, rfl⟩
       exact ⟨rfl, rfl⟩
      refine tD (fun W Fs R lF z9 => ?_) ?_
      ·refine qk (qo (ii (x4)) rfl ?_)
       exact ⟨rfl, rfl⟩
      refine tD (fun W Fs R lF z9 => ?_) ?_
      ·replace hbs := hbs.mono lF
       replace ha1 := ha1.mono lF
       replace hf1 := hf1.mono lF
       replace hr1 := hr1.mono lF
       rw [zA 0 (z9 0 rfl)]
       show XG _ _ _ _ _ (cellsH b1 [sN, sN] 29 :: ([cellsH b2 [x1, x2] 29, curH .i64 75 cb bsv bs.length] ++ R)) _
       refine qk (qO [] _ [x1, x2] qK rfl rfl rfl (qw (qJ (qv ha1)) (qw (qJ (CRulesF.isSl hf1)) qT)) rfl rfl rfl ?_)
       exact ⟨trivial, rfl⟩
      refine tD (fun W Fs R lF z9 => ?_) ?_
      ·rw [zA 1 (z9 1 rfl)]
       refine qk (jo (x3) rfl ?_)
       exact ⟨rfl, rfl⟩
      refine tD (fun W Fs R lF z9 => ?_) ?_
      ·rw [zA 2 (z9 2 rfl)]
       refine qk (jo (ii (x24)) rfl ?_)
       exact ⟨rfl, rfl⟩
      refine tD (fun W Fs R lF z9 => ?_) ?_
      ·have e7 : (ii (((intAt (W 7)))) : Value) = (W 7) := z9 7 rfl
       rw [eS (l := [(7, (ii (((intAt (W 7))))))]) ⟨(e7).symm, ⟨⟩⟩]
       refine qk (jo (ii (((intAt (W 7))))) rfl ?_)
       exact ⟨rfl, rfl⟩
      exact stepsT.nil
     intro W F34 le34 hphi
     have e7 : (ii (((intAt (W 7)))) : Value) = (W 7) := hphi 7 (by decide)
     have e12 : W 12 = (ii (((intAt (W 7)))) : Value) := hphi 12 (by decide)
     generalize hu6 : (intAt (W 7)) = u6 at e7 e12
     rw [eS (l := [(7, (ii ((u6)))), (8, _), (10, _), (11, _), (12, (ii ((u6))))]) ⟨(e7).symm, (hphi 8 (by decide)), (hphi 10 (by decide)), (hphi 11 (by decide)), e12, ⟨⟩⟩]
     replace hbs := hbs.mono le34
     replace ha1 := ha1.mono le34
     replace hf1 := hf1.mono le34
     replace hr1 := hr1.mono le34
     show XL _ _ _ _ _ _ _ (cellsH b1 [x1, x2] 29 :: cellsH b2 [x1, x2] 29 :: curH .i64 75 cb bsv bs.length :: L)
     refine qj (ii (x4)) rfl (qf (qu (qt (L' := curH .i64 75 cb bsv bs.length :: L) [.agg #[x1, x2], x3, ii (x24), ii ((u6)), ii (x4)] (.tuple #[.agg #[x1, x2], x3, ii (x24), ii ((u6)), ii (x4)]) (.cell rfl (jt [x1, x2] qY qK rfl (Rd.ownN [] rfl rfl)) (.tmp rfl (.tmp rfl (.tmp rfl (.tmp rfl .nil))))) rfl (qc (qc (qc (qc le1 le2) le3) le30) le34) rF (sD (sD (sC sR))) ?_)))
     exact ⟨⟨_, _, _, _, _, _, _, _, _, rfl, ha1, hf1, hr1, h_1, h_2, h_3, q1⟩, rfl⟩
    refine qz (qg (qd (qi (ptr cb 0) rfl (qi (x3) rfl (cX (qE qh rfl hr1.slv (cX (qn (args := [ptr cb 0, ii ((t1.length : Int))]) call45 rfl (qZ [_] (l1NumB_spec (m := (t1.length : Int)) hbs (by omega) (hm := (by first | assumption | rfl | omega | simp)))) ?_))))))))
    rintro _ _ _ _ ⟨⟨rfl, x27, rfl⟩, rfl⟩
    show XL _ _ _ _ _ _ _ (cellsH b2 [x1, x2] 29 :: curH .i64 75 cb bsv bs.length :: cellsH b1 [sN, sN] 29 :: L)
    refine qj (ii (x27)) rfl (qf (qg (X.weaken (Sub.front (A := [_, _])) ?_)))
    show X _ _ _ _ _ _ (cellsH b1 [sN, sN] 29 :: cellsH b2 [x1, x2] 29 :: curH .i64 75 cb bsv bs.length :: L)
    refine X.drawH [cellsH b2 [x1, x2] 29, curH .i64 75 cb bsv bs.length] L 13 [[], [], [], [], [], [], [], [], [], [], [], [], [7]] [[], [], [], [], [], [4], [5], [3, 6], [], [0], [1], [2], [7]] [] (phiG [pe (.agg #[x1, x2]), pe x3, pe (ii (x27)), pe (ptr cb 0), pe (ptr b2 1), pe x2, pe (ii ((rs1.length : Int)) : Value), fun FF us v => (ii (((intAt v))) : Value) = v, pe (ii (x4)), fun FF us v => True, pe x3, pe (ii (x27)), fun FF us v => v = (ii (((intAt (us.getD 0 undef)))) : Value)]) (ownL [o0, o0, o0, o0, o0, o0, o0, o0, o0, fun us v => [cellsH b1 [x1, x2] 29]]) (fun i => ([[], [], [], [], [], [], [], [], [], [cellsH b1 [sN, sN] 29], [], [], []] : List (List HP)).getD i []) mixed rfl rfl (by kernel_rfl) (by kernel_rfl) (MonoG.get (m1 (m1 (m1 (m1 (m1 (m1 (m1 (mC (fun le h => h) (m1 (mC (fun le h => h) (m1 (m1 (mC (fun le h => h) MonoG.nil)))))))))))))) ?_ ?_
    ·refine tD (fun W Fs R lF z9 => ?_) ?_
     ·replace hbs := hbs.mono lF
      replace ha1 := ha1.mono lF
      replace hf1 := hf1.mono lF
      replace hr1 := hr1.mono lF
      refine qk (qs [x1, x2] qY qK rfl rfl (Rd.ownN [] rfl rfl) ?_)
      exact ⟨rfl, rfl⟩
     refine tD (fun W Fs R lF z9 => ?_) ?_
     ·refine qk (qo (x3) rfl ?_)
      exact ⟨rfl, rfl⟩
     refine tD (fun W Fs R lF z9 => ?_) ?_
     ·refine qk (qo (ii (x27)) rfl ?_)
      exact ⟨rfl, rfl⟩
     refine tD (fun W Fs R lF z9 => ?_) ?_
     ·refine qk (qo (ptr cb 0) rfl ?_)
      exact ⟨rfl, rfl⟩
     refine tD (fun W Fs R lF z9 => ?_) ?_
     ·refine qk (qq (1) qF rfl jp (by decide) rfl rfl ?_)
      exact ⟨rfl, rfl⟩
     refine tD (fun W Fs R lF z9 => ?_) ?_
     ·replace hbs := hbs.mono lF
      replace ha1 := ha1.mono lF
      replace hf1 := hf1.mono lF
      replace hr1 := hr1.mono lF
      rw [zA 4 (z9 4 rfl)]
      refine qk (qm jz rfl (Rd.own [] rfl rfl) ?_)
      exact ⟨rfl, rfl⟩
     refine tD (fun W Fs R lF z9 => ?_) ?_
     ·replace hbs := hbs.mono lF
      replace ha1 := ha1.mono lF
      replace hf1 := hf1.mono lF
      replace hr1 := hr1.mono lF
      rw [zA 5 (z9 5 rfl)]
      refine qk (qE qU rfl hf1.slv ?_)
      exact ⟨rfl, rfl⟩
     refine tD (fun W Fs R lF z9 => ?_) ?_
     ·replace hbs := hbs.mono lF
      replace ha1 := ha1.mono lF
      replace hf1 := hf1.mono lF
      replace hr1 := hr1.mono lF
      rw [zB 3 6 (z9 3 rfl) (z9 6 rfl)]
      refine qk (qn (args := [ptr cb 0, ii ((rs1.length : Int))]) call45 rfl (qZ [_] (l1NumB_spec (m := (rs1.length : Int)) hbs (by omega) (hm := (by first | assumption | rfl | omega | simp)))) ?_)
      rintro _ _ _ _ ⟨⟨rfl, x29, rfl⟩, rfl⟩
      exact ⟨rfl, rfl⟩
     refine tD (fun W Fs R lF z9 => ?_) ?_
     ·refine qk (qo (ii (x4)) rfl ?_)
      exact ⟨rfl, rfl⟩
     refine tD (fun W Fs R lF z9 => ?_) ?_
     ·replace hbs := hbs.mono lF
      replace ha1 := ha1.mono lF
      replace hf1 := hf1.mono lF
      replace hr1 := hr1.mono lF
      rw [zA 0 (z9 0 rfl)]
      show XG _ _ _ _ _ (cellsH b1 [sN, sN] 29 :: ([cellsH b2 [x1, x2] 29, curH .i64 75 cb bsv bs.length] ++ R)) _
      refine qk (qO [] _ [x1, x2] qK rfl rfl rfl (qw (qJ (qv ha1)) (qw (qJ (CRulesF.isSl hf1)) qT)) rfl rfl rfl ?_)
      exact ⟨trivial, rfl⟩
     refine tD (fun W Fs R lF z9 => ?_) ?_
     ·rw [zA 1 (z9 1 rfl)]
      refine qk (jo (x3) rfl ?_)
      exact ⟨rfl, rfl⟩
     refine tD (fun W Fs R lF z9 => ?_) ?_
     ·rw [zA 2 (z9 2 rfl)]
      refine qk (jo (ii (x27)) rfl ?_)
      exact ⟨rfl, rfl⟩
     refine tD (fun W Fs R lF z9 => ?_) ?_
     ·have e7 : (ii (((intAt (W 7)))) : Value) = (W 7) := z9 7 rfl
      rw [eS (l := [(7, (ii (((intAt (W 7))))))]) ⟨(e7).symm, ⟨⟩⟩]
      refine qk (jo (ii (((intAt (W 7))))) rfl ?_)
      exact ⟨rfl, rfl⟩
     exact stepsT.nil
    intro W F38 le38 hphi
    have e7 : (ii (((intAt (W 7)))) : Value) = (W 7) := hphi 7 (by decide)
    have e12 : W 12 = (ii (((intAt (W 7)))) : Value) := hphi 12 (by decide)
    generalize hu7 : (intAt (W 7)) = u7 at e7 e12
    rw [eS (l := [(7, (ii ((u7)))), (8, _), (10, _), (11, _), (12, (ii ((u7))))]) ⟨(e7).symm, (hphi 8 (by decide)), (hphi 10 (by decide)), (hphi 11 (by decide)), e12, ⟨⟩⟩]
    replace hbs := hbs.mono le38
    replace ha1 := ha1.mono le38
    replace hf1 := hf1.mono le38
    replace hr1 := hr1.mono le38
    show XL _ _ _ _ _ _ _ (cellsH b1 [x1, x2] 29 :: cellsH b2 [x1, x2] 29 :: curH .i64 75 cb bsv bs.length :: L)
    refine qj (ii (x4)) rfl (qf (qu (qt (L' := curH .i64 75 cb bsv bs.length :: L) [.agg #[x1, x2], x3, ii (x27), ii ((u7)), ii (x4)] (.tuple #[.agg #[x1, x2], x3, ii (x27), ii ((u7)), ii (x4)]) (.cell rfl (jt [x1, x2] qY qK rfl (Rd.ownN [] rfl rfl)) (.tmp rfl (.tmp rfl (.tmp rfl (.tmp rfl .nil))))) rfl (qc (qc (qc le1 le2) le3) le38) rF (sD (sD (sC sR))) ?_)))
    exact ⟨⟨_, _, _, _, _, _, _, _, _, rfl, ha1, hf1, hr1, h_1, h_2, h_3, q1⟩, rfl⟩
   refine qp (t := 36) rfl (vF h9) (qp (t := 36) rfl (vF h9) (qp (t := 36) rfl (vF h9) (qp (t := 36) rfl (vF h9) (cX (qM (.bool (false)) (vF h9) rfl (qf (jS rfl (qz (qg (qd (qi (ptr cb 0) rfl (qi (x3) rfl ?_))))))))))))
   refine cX (qE qh rfl hr1.slv (cX (qn (args := [ptr cb 0, ii ((t1.length : Int))]) call45 rfl (qZ [_] (l1NumB_spec (m := (t1.length : Int)) hbs (by omega) (hm := (by first | assumption | rfl | omega | simp)))) ?_)))
   rintro _ _ _ _ ⟨⟨rfl, x30, rfl⟩, rfl⟩
   show XL _ _ _ _ _ _ _ (cellsH b2 [x1, x2] 29 :: curH .i64 75 cb bsv bs.length :: cellsH b1 [sN, sN] 29 :: L)
   refine qj (ii (x30)) rfl (qf (qg (X.weaken (Sub.front (A := [_, _])) ?_)))
   show X _ _ _ _ _ _ (cellsH b1 [sN, sN] 29 :: cellsH b2 [x1, x2] 29 :: curH .i64 75 cb bsv bs.length :: L)
   refine X.drawH [cellsH b2 [x1, x2] 29, curH .i64 75 cb bsv bs.length] L 13 [[], [], [], [], [], [], [], [], [], [], [], [], [7]] [[], [], [], [], [], [4], [5], [3, 6], [], [0], [1], [2], [7]] [] (phiG [pe (.agg #[x1, x2]), pe x3, pe (ii (x30)), pe (ptr cb 0), pe (ptr b2 1), pe x2, pe (ii ((rs1.length : Int)) : Value), fun FF us v => (ii (((intAt v))) : Value) = v, pe (ii (x4)), fun FF us v => True, pe x3, pe (ii (x30)), fun FF us v => v = (ii (((intAt (us.getD 0 undef)))) : Value)]) (ownL [o0, o0, o0, o0, o0, o0, o0, o0, o0, fun us v => [cellsH b1 [x1, x2] 29]]) (fun i => ([[], [], [], [], [], [], [], [], [], [cellsH b1 [sN, sN] 29], [], [], []] : List (List HP)).getD i []) mixed rfl rfl (by kernel_rfl) (by kernel_rfl) (MonoG.get (m1 (m1 (m1 (m1 (m1 (m1 (m1 (mC (fun le h => h) (m1 (mC (fun le h => h) (m1 (m1 (mC (fun le h => h) MonoG.nil)))))))))))))) ?_ ?_
   ·refine tD (fun W Fs R lF z9 => ?_) ?_
    ·replace hbs := hbs.mono lF
     replace ha1 := ha1.mono lF
     replace hf1 := hf1.mono lF
     replace hr1 := hr1.mono lF
     refine qk (qs [x1, x2] qY qK rfl rfl (Rd.ownN [] rfl rfl) ?_)
     exact ⟨rfl, rfl⟩
    refine tD (fun W Fs R lF z9 => ?_) ?_
    ·refine qk (qo (x3) rfl ?_)
     exact ⟨rfl, rfl⟩
    refine tD (fun W Fs R lF z9 => ?_) ?_
    ·refine qk (qo (ii (x30)) rfl ?_)
     exact ⟨rfl, rfl⟩
    refine tD (fun W Fs R lF z9 => ?_) ?_
    ·refine qk (qo (ptr cb 0) rfl ?_)
     exact ⟨rfl, rfl⟩
    refine tD (fun W Fs R lF z9 => ?_) ?_
    ·refine qk (qq (1) qF rfl jp (by decide) rfl rfl ?_)
     exact ⟨rfl, rfl⟩
    refine tD (fun W Fs R lF z9 => ?_) ?_
    ·replace hbs := hbs.mono lF
     replace ha1 := ha1.mono lF
     replace hf1 := hf1.mono lF
     replace hr1 := hr1.mono lF
     rw [zA 4 (z9 4 rfl)]
     refine qk (qm jz rfl (Rd.own [] rfl rfl) ?_)
     exact ⟨rfl, rfl⟩
    refine tD (fun W Fs R lF z9 => ?_) ?_
    ·replace hbs := hbs.mono lF
     replace ha1 := ha1.mono lF
     replace hf1 := hf1.mono lF
     replace hr1 := hr1.mono lF
     rw [zA 5 (z9 5 rfl)]
     refine qk (qE qU rfl hf1.slv ?_)
     exact ⟨rfl, rfl⟩
    refine tD (fun W Fs R lF z9 => ?_) ?_
    ·replace hbs := hbs.mono lF
     replace ha1 := ha1.mono lF
     replace hf1 := hf1.mono lF
     replace hr1 := hr1.mono lF
     rw [zB 3 6 (z9 3 rfl) (z9 6 rfl)]
     refine qk (qn (args := [ptr cb 0, ii ((rs1.length : Int))]) call45 rfl (qZ [_] (l1NumB_spec (m := (rs1.length : Int)) hbs (by omega) (hm := (by first | assumption | rfl | omega | simp)))) ?_)
     rintro _ _ _ _ ⟨⟨rfl, x32, rfl⟩, rfl⟩
     exact ⟨rfl, rfl⟩
    refine tD (fun W Fs R lF z9 => ?_) ?_
    ·refine qk (qo (ii (x4)) rfl ?_)
     exact ⟨rfl, rfl⟩
    refine tD (fun W Fs R lF z9 => ?_) ?_
    ·replace hbs := hbs.mono lF
     replace ha1 := ha1.mono lF
     replace hf1 := hf1.mono lF
     replace hr1 := hr1.mono lF
     rw [zA 0 (z9 0 rfl)]
     show XG _ _ _ _ _ (cellsH b1 [sN, sN] 29 :: ([cellsH b2 [x1, x2] 29, curH .i64 75 cb bsv bs.length] ++ R)) _
     refine qk (qO [] _ [x1, x2] qK rfl rfl rfl (qw (qJ (qv ha1)) (qw (qJ (CRulesF.isSl hf1)) qT)) rfl rfl rfl ?_)
     exact ⟨trivial, rfl⟩
    refine tD (fun W Fs R lF z9 => ?_) ?_
    ·rw [zA 1 (z9 1 rfl)]
     refine qk (jo (x3) rfl ?_)
     exact ⟨rfl, rfl⟩
    refine tD (fun W Fs R lF z9 => ?_) ?_
    ·rw [zA 2 (z9 2 rfl)]
     refine qk (jo (ii (x30)) rfl ?_)
     exact ⟨rfl, rfl⟩
    refine tD (fun W Fs R lF z9 => ?_) ?_
    ·have e7 : (ii (((intAt (W 7)))) : Value) = (W 7) := z9 7 rfl
     rw [eS (l := [(7, (ii (((intAt (W 7))))))]) ⟨(e7).symm, ⟨⟩⟩]
     refine qk (jo (ii (((intAt (W 7))))) rfl ?_)
     exact ⟨rfl, rfl⟩
    exact stepsT.nil
   intro W F42 le42 hphi
   have e7 : (ii (((intAt (W 7)))) : Value) = (W 7) := hphi 7 (by decide)
   have e12 : W 12 = (ii (((intAt (W 7)))) : Value) := hphi 12 (by decide)
   generalize hu8 : (intAt (W 7)) = u8 at e7 e12
   rw [eS (l := [(7, (ii ((u8)))), (8, _), (10, _), (11, _), (12, (ii ((u8))))]) ⟨(e7).symm, (hphi 8 (by decide)), (hphi 10 (by decide)), (hphi 11 (by decide)), e12, ⟨⟩⟩]
   replace hbs := hbs.mono le42
   replace ha1 := ha1.mono le42
   replace hf1 := hf1.mono le42
   replace hr1 := hr1.mono le42
   show XL _ _ _ _ _ _ _ (cellsH b1 [x1, x2] 29 :: cellsH b2 [x1, x2] 29 :: curH .i64 75 cb bsv bs.length :: L)
   refine qj (ii (x4)) rfl (qf (qu (qt (L' := curH .i64 75 cb bsv bs.length :: L) [.agg #[x1, x2], x3, ii (x30), ii ((u8)), ii (x4)] (.tuple #[.agg #[x1, x2], x3, ii (x30), ii ((u8)), ii (x4)]) (.cell rfl (jt [x1, x2] qY qK rfl (Rd.ownN [] rfl rfl)) (.tmp rfl (.tmp rfl (.tmp rfl (.tmp rfl .nil))))) rfl (qc (qc (qc le1 le2) le3) le42) rF (sD (sD (sC sR))) ?_)))
   exact ⟨⟨_, _, _, _, _, _, _, _, _, rfl, ha1, hf1, hr1, h_1, h_2, h_3, q1⟩, rfl⟩
  rw [Bool.not_eq_true] at h8
  refine qp (t := 32) rfl (vB h8) (qp (t := 32) rfl (vB h8) (cX (qM (.bool (false)) (vB h8) rfl (qi (.bool (false)) rfl (qp (t := 36) rfl rfl (qp (t := 36) rfl rfl (qp (t := 36) rfl rfl (qp (t := 36) rfl rfl (cX (qM (.bool (false)) rfl rfl (qf ?_)))))))))))
  refine jS rfl (qz (qg (qd (qi (ptr cb 0) rfl (qi (x3) rfl (cX (qE qh rfl hr1.slv (cX (qn (args := [ptr cb 0, ii ((t1.length : Int))]) call45 rfl (qZ [_] (l1NumB_spec (m := (t1.length : Int)) hbs (by omega) (hm := (by first | assumption | rfl | omega | simp)))) ?_)))))))))
  rintro _ _ _ _ ⟨⟨rfl, x33, rfl⟩, rfl⟩
  show XL _ _ _ _ _ _ _ (cellsH b2 [x1, x2] 29 :: curH .i64 75 cb bsv bs.length :: cellsH b1 [sN, sN] 29 :: L)
  refine qj (ii (x33)) rfl (qf (qg (X.weaken (Sub.front (A := [_, _])) ?_)))
  show X _ _ _ _ _ _ (cellsH b1 [sN, sN] 29 :: cellsH b2 [x1, x2] 29 :: curH .i64 75 cb bsv bs.length :: L)
  refine X.drawH [cellsH b2 [x1, x2] 29, curH .i64 75 cb bsv bs.length] L 13 [[], [], [], [], [], [], [], [], [], [], [], [], [7]] [[], [], [], [], [], [4], [5], [3, 6], [], [0], [1], [2], [7]] [] (phiG [pe (.agg #[x1, x2]), pe x3, pe (ii (x33)), pe (ptr cb 0), pe (ptr b2 1), pe x2, pe (ii ((rs1.length : Int)) : Value), fun FF us v => (ii (((intAt v))) : Value) = v, pe (ii (x4)), fun FF us v => True, pe x3, pe (ii (x33)), fun FF us v => v = (ii (((intAt (us.getD 0 undef)))) : Value)]) (ownL [o0, o0, o0, o0, o0, o0, o0, o0, o0, fun us v => [cellsH b1 [x1, x2] 29]]) (fun i => ([[], [], [], [], [], [], [], [], [], [cellsH b1 [sN, sN] 29], [], [], []] : List (List HP)).getD i []) mixed rfl rfl (by kernel_rfl) (by kernel_rfl) (MonoG.get (m1 (m1 (m1 (m1 (m1 (m1 (m1 (mC (fun le h => h) (m1 (mC (fun le h => h) (m1 (m1 (mC (fun le h => h) MonoG.nil)))))))))))))) ?_ ?_
  ·refine tD (fun W Fs R lF z9 => ?_) ?_
   ·replace hbs := hbs.mono lF
    replace ha1 := ha1.mono lF
    replace hf1 := hf1.mono lF
    replace hr1 := hr1.mono lF
    refine qk (qs [x1, x2] qY qK rfl rfl (Rd.ownN [] rfl rfl) ?_)
    exact ⟨rfl, rfl⟩
   refine tD (fun W Fs R lF z9 => ?_) ?_
   ·refine qk (qo (x3) rfl ?_)
    exact ⟨rfl, rfl⟩
   refine tD (fun W Fs R lF z9 => ?_) ?_
   ·refine qk (qo (ii (x33)) rfl ?_)
    exact ⟨rfl, rfl⟩
   refine tD (fun W Fs R lF z9 => ?_) ?_
   ·refine qk (qo (ptr cb 0) rfl ?_)
    exact ⟨rfl, rfl⟩
   refine tD (fun W Fs R lF z9 => ?_) ?_
   ·refine qk (qq (1) qF rfl jp (by decide) rfl rfl ?_)
    exact ⟨rfl, rfl⟩
   refine tD (fun W Fs R lF z9 => ?_) ?_
   ·replace hbs := hbs.mono lF
    replace ha1 := ha1.mono lF
    replace hf1 := hf1.mono lF
    replace hr1 := hr1.mono lF
    rw [zA 4 (z9 4 rfl)]
    refine qk (qm jz rfl (Rd.own [] rfl rfl) ?_)
    exact ⟨rfl, rfl⟩
   refine tD (fun W Fs R lF z9 => ?_) ?_
   ·replace hbs := hbs.mono lF
    replace ha1 := ha1.mono lF
    replace hf1 := hf1.mono lF
    replace hr1 := hr1.mono lF
    rw [zA 5 (z9 5 rfl)]
    refine qk (qE qU rfl hf1.slv ?_)
    exact ⟨rfl, rfl⟩
   refine tD (fun W Fs R lF z9 => ?_) ?_
   ·replace hbs := hbs.mono lF
    replace ha1 := ha1.mono lF
    replace hf1 := hf1.mono lF
    replace hr1 := hr1.mono lF
    rw [zB 3 6 (z9 3 rfl) (z9 6 rfl)]
    refine qk (qn (args := [ptr cb 0, ii ((rs1.length : Int))]) call45 rfl (qZ [_] (l1NumB_spec (m := (rs1.length : Int)) hbs (by omega) (hm := (by first | assumption | rfl | omega | simp)))) ?_)
    rintro _ _ _ _ ⟨⟨rfl, x35, rfl⟩, rfl⟩
    exact ⟨rfl, rfl⟩
   refine tD (fun W Fs R lF z9 => ?_) ?_
   ·refine qk (qo (ii (x4)) rfl ?_)
    exact ⟨rfl, rfl⟩
   refine tD (fun W Fs R lF z9 => ?_) ?_
   ·replace hbs := hbs.mono lF
    replace ha1 := ha1.mono lF
    replace hf1 := hf1.mono lF
    replace hr1 := hr1.mono lF
    rw [zA 0 (z9 0 rfl)]
    show XG _ _ _ _ _ (cellsH b1 [sN, sN] 29 :: ([cellsH b2 [x1, x2] 29, curH .i64 75 cb bsv bs.length] ++ R)) _
    refine qk (qO [] _ [x1, x2] qK rfl rfl rfl (qw (qJ (qv ha1)) (qw (qJ (CRulesF.isSl hf1)) qT)) rfl rfl rfl ?_)
    exact ⟨trivial, rfl⟩
   refine tD (fun W Fs R lF z9 => ?_) ?_
   ·rw [zA 1 (z9 1 rfl)]
    refine qk (jo (x3) rfl ?_)
    exact ⟨rfl, rfl⟩
   refine tD (fun W Fs R lF z9 => ?_) ?_
   ·rw [zA 2 (z9 2 rfl)]
    refine qk (jo (ii (x33)) rfl ?_)
    exact ⟨rfl, rfl⟩
   refine tD (fun W Fs R lF z9 => ?_) ?_
   ·have e7 : (ii (((intAt (W 7)))) : Value) = (W 7) := z9 7 rfl
    rw [eS (l := [(7, (ii (((intAt (W 7))))))]) ⟨(e7).symm, ⟨⟩⟩]
    refine qk (jo (ii (((intAt (W 7))))) rfl ?_)
    exact ⟨rfl, rfl⟩
   exact stepsT.nil
  intro W F46 le46 hphi
  have e7 : (ii (((intAt (W 7)))) : Value) = (W 7) := hphi 7 (by decide)
  have e12 : W 12 = (ii (((intAt (W 7)))) : Value) := hphi 12 (by decide)
  generalize hu9 : (intAt (W 7)) = u9 at e7 e12
  rw [eS (l := [(7, (ii ((u9)))), (8, _), (10, _), (11, _), (12, (ii ((u9))))]) ⟨(e7).symm, (hphi 8 (by decide)), (hphi 10 (by decide)), (hphi 11 (by decide)), e12, ⟨⟩⟩]
  replace hbs := hbs.mono le46
  replace ha1 := ha1.mono le46
  replace hf1 := hf1.mono le46
  replace hr1 := hr1.mono le46
  show XL _ _ _ _ _ _ _ (cellsH b1 [x1, x2] 29 :: cellsH b2 [x1, x2] 29 :: curH .i64 75 cb bsv bs.length :: L)
  refine qj (ii (x4)) rfl (qf (qu (qt (L' := curH .i64 75 cb bsv bs.length :: L) [.agg #[x1, x2], x3, ii (x33), ii ((u9)), ii (x4)] (.tuple #[.agg #[x1, x2], x3, ii (x33), ii ((u9)), ii (x4)]) (.cell rfl (jt [x1, x2] qY qK rfl (Rd.ownN [] rfl rfl)) (.tmp rfl (.tmp rfl (.tmp rfl (.tmp rfl .nil))))) rfl (qc (qc (qc le1 le2) le3) le46) rF (sD (sD (sC sR))) ?_)))
  exact ⟨⟨_, _, _, _, _, _, _, _, _, rfl, ha1, hf1, hr1, h_1, h_2, h_3, q1⟩, rfl⟩
 rw [Bool.not_eq_true] at h7
 refine qp (t := 27) rfl (vB h7) (qp (t := 27) rfl (vB h7) (qp (t := 27) rfl (vB h7) (cX (qM (.bool (false)) (vB h7) rfl (qi (.bool (false)) rfl (qp (t := 32) rfl rfl (qp (t := 32) rfl rfl (cX (qM (.bool (false)) rfl rfl (qi (.bool (false)) rfl (qp (t := 36) rfl rfl ?_)))))))))))
 refine qp (t := 36) rfl rfl (qp (t := 36) rfl rfl (qp (t := 36) rfl rfl (cX (qM (.bool (false)) rfl rfl (qf (jS rfl (qz (qg (qd (qi (ptr cb 0) rfl (qi (x3) rfl (cX (qE qh rfl hr1.slv ?_)))))))))))))
 refine cX (qn (args := [ptr cb 0, ii ((t1.length : Int))]) call45 rfl (qZ [_] (l1NumB_spec (m := (t1.length : Int)) hbs (by omega) (hm := (by first | assumption | rfl | omega | simp)))) ?_)
 rintro _ _ _ _ ⟨⟨rfl, x36, rfl⟩, rfl⟩
 show XL _ _ _ _ _ _ _ (cellsH b2 [x1, x2] 29 :: curH .i64 75 cb bsv bs.length :: cellsH b1 [sN, sN] 29 :: L)
 refine qj (ii (x36)) rfl (qf (qg (X.weaken (Sub.front (A := [_, _])) ?_)))
 show X _ _ _ _ _ _ (cellsH b1 [sN, sN] 29 :: cellsH b2 [x1, x2] 29 :: curH .i64 75 cb bsv bs.length :: L)
 refine X.drawH [cellsH b2 [x1, x2] 29, curH .i64 75 cb bsv bs.length] L 13 [[], [], [], [], [], [], [], [], [], [], [], [], [7]] [[], [], [], [], [], [4], [5], [3, 6], [], [0], [1], [2], [7]] [] (phiG [pe (.agg #[x1, x2]), pe x3, pe (ii (x36)), pe (ptr cb 0), pe (ptr b2 1), pe x2, pe (ii ((rs1.length : Int)) : Value), fun FF us v => (ii (((intAt v))) : Value) = v, pe (ii (x4)), fun FF us v => True, pe x3, pe (ii (x36)), fun FF us v => v = (ii (((intAt (us.getD 0 undef)))) : Value)]) (ownL [o0, o0, o0, o0, o0, o0, o0, o0, o0, fun us v => [cellsH b1 [x1, x2] 29]]) (fun i => ([[], [], [], [], [], [], [], [], [], [cellsH b1 [sN, sN] 29], [], [], []] : List (List HP)).getD i []) mixed rfl rfl (by kernel_rfl) (by kernel_rfl) (MonoG.get (m1 (m1 (m1 (m1 (m1 (m1 (m1 (mC (fun le h => h) (m1 (mC (fun le h => h) (m1 (m1 (mC (fun le h => h) MonoG.nil)))))))))))))) ?_ ?_
 ·refine tD (fun W Fs R lF z9 => ?_) ?_
  ·replace hbs := hbs.mono lF
   replace ha1 := ha1.mono lF
   replace hf1 := hf1.mono lF
   replace hr1 := hr1.mono lF
   refine qk (qs [x1, x2] qY qK rfl rfl (Rd.ownN [] rfl rfl) ?_)
   exact ⟨rfl, rfl⟩
  refine tD (fun W Fs R lF z9 => ?_) ?_
  ·refine qk (qo (x3) rfl ?_)
   exact ⟨rfl, rfl⟩
  refine tD (fun W Fs R lF z9 => ?_) ?_
  ·refine qk (qo (ii (x36)) rfl ?_)
   exact ⟨rfl, rfl⟩
  refine tD (fun W Fs R lF z9 => ?_) ?_
  ·refine qk (qo (ptr cb 0) rfl ?_)
   exact ⟨rfl, rfl⟩
  refine tD (fun W Fs R lF z9 => ?_) ?_
  ·refine qk (qq (1) qF rfl jp (by decide) rfl rfl ?_)
   exact ⟨rfl, rfl⟩
  refine tD (fun W Fs R lF z9 => ?_) ?_
  ·replace hbs := hbs.mono lF
   replace ha1 := ha1.mono lF
   replace hf1 := hf1.mono lF
   replace hr1 := hr1.mono lF
   rw [zA 4 (z9 4 rfl)]
   refine qk (qm jz rfl (Rd.own [] rfl rfl) ?_)
   exact ⟨rfl, rfl⟩
  refine tD (fun W Fs R lF z9 => ?_) ?_
  ·replace hbs := hbs.mono lF
   replace ha1 := ha1.mono lF
   replace hf1 := hf1.mono lF
   replace hr1 := hr1.mono lF
   rw [zA 5 (z9 5 rfl)]
   refine qk (qE qU rfl hf1.slv ?_)
   exact ⟨rfl, rfl⟩
  refine tD (fun W Fs R lF z9 => ?_) ?_
  ·replace hbs := hbs.mono lF
   replace ha1 := ha1.mono lF
   replace hf1 := hf1.mono lF
   replace hr1 := hr1.mono lF
   rw [zB 3 6 (z9 3 rfl) (z9 6 rfl)]
   refine qk (qn (args := [ptr cb 0, ii ((rs1.length : Int))]) call45 rfl (qZ [_] (l1NumB_spec (m := (rs1.length : Int)) hbs (by omega) (hm := (by first | assumption | rfl | omega | simp)))) ?_)
   rintro _ _ _ _ ⟨⟨rfl, x38, rfl⟩, rfl⟩
   exact ⟨rfl, rfl⟩
  refine tD (fun W Fs R lF z9 => ?_) ?_
  ·refine qk (qo (ii (x4)) rfl ?_)
   exact ⟨rfl, rfl⟩
  refine tD (fun W Fs R lF z9 => ?_) ?_
  ·replace hbs := hbs.mono lF
   replace ha1 := ha1.mono lF
   replace hf1 := hf1.mono lF
   replace hr1 := hr1.mono lF
   rw [zA 0 (z9 0 rfl)]
   show XG _ _ _ _ _ (cellsH b1 [sN, sN] 29 :: ([cellsH b2 [x1, x2] 29, curH .i64 75 cb bsv bs.length] ++ R)) _
   refine qk (qO [] _ [x1, x2] qK rfl rfl rfl (qw (qJ (qv ha1)) (qw (qJ (CRulesF.isSl hf1)) qT)) rfl rfl rfl ?_)
   exact ⟨trivial, rfl⟩
  refine tD (fun W Fs R lF z9 => ?_) ?_
  ·rw [zA 1 (z9 1 rfl)]
   refine qk (jo (x3) rfl ?_)
   exact ⟨rfl, rfl⟩
  refine tD (fun W Fs R lF z9 => ?_) ?_
  ·rw [zA 2 (z9 2 rfl)]
   refine qk (jo (ii (x36)) rfl ?_)
   exact ⟨rfl, rfl⟩
  refine tD (fun W Fs R lF z9 => ?_) ?_
  ·have e7 : (ii (((intAt (W 7)))) : Value) = (W 7) := z9 7 rfl
   rw [eS (l := [(7, (ii (((intAt (W 7))))))]) ⟨(e7).symm, ⟨⟩⟩]
   refine qk (jo (ii (((intAt (W 7))))) rfl ?_)
   exact ⟨rfl, rfl⟩
  exact stepsT.nil
 intro W F50 le50 hphi
 have e7 : (ii (((intAt (W 7)))) : Value) = (W 7) := hphi 7 (by decide)
 have e12 : W 12 = (ii (((intAt (W 7)))) : Value) := hphi 12 (by decide)
 generalize hu10 : (intAt (W 7)) = u10 at e7 e12
 rw [eS (l := [(7, (ii ((u10)))), (8, _), (10, _), (11, _), (12, (ii ((u10))))]) ⟨(e7).symm, (hphi 8 (by decide)), (hphi 10 (by decide)), (hphi 11 (by decide)), e12, ⟨⟩⟩]
 replace ha1 := ha1.mono le50
 replace hf1 := hf1.mono le50
 replace hr1 := hr1.mono le50
 show XL _ _ _ _ _ _ _ (cellsH b1 [x1, x2] 29 :: cellsH b2 [x1, x2] 29 :: curH .i64 75 cb bsv bs.length :: L)
 refine qj (ii (x4)) rfl (qf (qu (qt (L' := curH .i64 75 cb bsv bs.length :: L) [.agg #[x1, x2], x3, ii (x36), ii ((u10)), ii (x4)] (.tuple #[.agg #[x1, x2], x3, ii (x36), ii ((u10)), ii (x4)]) (.cell rfl (jt [x1, x2] qY qK rfl (Rd.ownN [] rfl rfl)) (.tmp rfl (.tmp rfl (.tmp rfl (.tmp rfl .nil))))) rfl (qc (qc (qc le1 le2) le3) le50) rF (sD (sD (sC sR))) ?_)))
 exact ⟨⟨_, _, _, _, _, _, _, _, _, rfl, ha1, hf1, hr1, h_1, h_2, h_3, q1⟩, rfl⟩

/- spec.DrawCNormalBy -/
theorem DrawCNormalBy_spec {F : FH} {L : List HP} {bsv : Value} {bs : List Int} (hbs : BytesF F bsv bs) (hbl : bs.length ≤ 4000000) :
    Does prog 5 [bsv] F (L) (fun v F' L' => ∃ (a : Value), ∃ (b : Value), ∃ (c : Value), ∃ (ar : List Int), ∃ (cr : List CRuleT), ∃ (t : List Int), ∃ (z : Int), (.tuple #[.agg #[a, b], c, ii (z)] : Value) = v ∧ (IntsF F' a ar) ∧ (CRulesF F' b cr) ∧ (IntsF F' c t) ∧ (ar.length ≤ 20) ∧ (cr.length ≤ 4) ∧ (crulesS 3 cr = true) ∧ (t.length ≤ 2000) ∧ L = L') := by
 refine qL func5 rfl rfl rfl (qg (qd (cX (jm [sN, sN] jQ rfl ?_))))
 intro b1
 refine qj (sN) rfl (qj (ii (0)) rfl (qf (qg (qd (qi (bsv) rfl (cX (qn (args := [bsv]) call18 rfl (l1New_spec hbs (by omega)) ?_)))))))
 rintro _ _ _ _ ⟨cb1, rfl, rfl, rfl⟩
 show XL _ _ _ _ _ _ _ (curH .i64 75 cb1 bsv bs.length :: cellsH b1 [sN, sN] 29 :: L)
 refine qj (ptr cb1 0) rfl (qf (qg (qd (qi (ptr cb1 0) rfl (cX (qn (args := [ptr cb1 0]) call19 rfl (qZ [] (l27DrawStep_spec hbs (by omega))) ?_))))))
 rintro _ F1 _ le1 ⟨⟨x1, x2, x3, x4, x5, x6, x7, x8, x9, rfl, hr1, hr2, hr3, hr4, hr5, hr6, hr7⟩, rfl⟩
 show XL _ _ _ _ _ _ _ (curH .i64 75 cb1 bsv bs.length :: cellsH b1 [sN, sN] 29 :: L)
 refine qi (.tuple #[.agg #[x1, x2], x3, ii (x7), ii (x8), ii (x9)]) rfl (cX (qG (.agg #[x1, x2]) rfl rfl (cX (qG (x3) rfl rfl (cX (qG (ii (x7)) rfl rfl (cX (qG (ii (x8)) rfl rfl (cX (qG (ii (x9)) rfl rfl (cX (jm [sN, sN] jQ rfl ?_))))))))))))
 intro b2
 refine cX (qO [] _ [x1, x2] qK rfl rfl rfl (qw (qJ (qv hr1)) (qw (qJ (CRulesF.isSl hr2)) qT)) rfl rfl rfl (qj (x3) rfl (qj (ii (x7)) rfl (qj (ii (x8)) rfl (qj (ii (x9)) rfl (qf (qg (qd (cX (qs [x1, x2] qY qK rfl rfl (Rd.ownN [] rfl rfl) (qi (x3) rfl (qi (ii (x9)) rfl (cX (qO [_, _] _ [x1, x2] qK rfl rfl rfl (qw (qJ (qv hr1)) (qw (qJ (CRulesF.isSl hr2)) qT)) rfl rfl rfl ?_))))))))))))))
 refine qj (x3) rfl (qj (ii (x9)) rfl (qf (qu (qt (L' := L) [.agg #[x1, x2], x3, ii (x9)] (.tuple #[.agg #[x1, x2], x3, ii (x9)]) (.cell rfl (jt [x1, x2] qY qK rfl (Rd.ownN [_, _] rfl rfl)) (.tmp rfl (.tmp rfl .nil))) rfl le1 rF (sD (sD (sD sR))) ?_))))
 exact ⟨_, _, _, _, _, _, _, rfl, hr1, hr2, hr3, hr4, hr5, hr6, hr7, rfl⟩

/- spec.DrawPlainSystem -/
set_option maxRecDepth 20000 in
theorem DrawPlainSystem_spec {F : FH} {L : List HP} {bsv : Value} {bs : List Int} (hbs : BytesF F bsv bs) (hbl : bs.length ≤ 4000000) :
    Does prog 11 [bsv] F (L) (fun v F' L' => ∃ (a : Value), ∃ (b : Value), ∃ (ar : List Int), ∃ (cr : List CRuleT), (.agg #[a, b] : Value) = v ∧ (IntsF F' a ar) ∧ (CRulesF F' b cr) ∧ (ar.length ≤ 20) ∧ (cr.length ≤ 4) ∧ (crulesS 3 cr = true) ∧ L = L') := by
 refine qL func11 rfl rfl rfl (qg (qd (cX (jm [sN, sN] jQ rfl ?_))))
 intro b1
 refine qf (qg (qd (qi (bsv) rfl (cX (qn (args := [bsv]) call18 rfl (l1New_spec hbs (by omega)) ?_)))))
 rintro _ _ _ _ ⟨cb1, rfl, rfl, rfl⟩
 show XL _ _ _ _ _ _ _ (curH .i64 75 cb1 bsv bs.length :: cellsH b1 [sN, sN] 29 :: L)
 refine qj (ptr cb1 0) rfl (qf (qg (qd (qi (ptr cb1 0) rfl (cX (qn (args := [ptr cb1 0]) call27 rfl ((Does.weaken (Sub.front (A := [])) (l27DrawAny_spec hbs (by omega)))) ?_))))))
 rintro _ F1 _ le1 ⟨x1, x2, ar1, rs1, cs1, ⟨rfl, ha1, hsl1, hc1, h_1, h_2, h_3⟩, rfl⟩
 replace hbs := hbs.mono le1
 show XL _ _ _ _ _ _ _ (slH 51 3 x2 rs1.length cs1 :: curH .i64 75 cb1 bsv bs.length :: cellsH b1 [sN, sN] 29 :: L)
 refine cX (jm [sN, sN] jQ rfl ?_)
 intro b2
 refine cX (qO [] _ [x1, x2] qK rfl rfl rfl (qw (qJ (qv ha1)) (qw (qJ hsl1) qT)) rfl rfl rfl (qf (qg (qg (qd (qi (ptr cb1 0) rfl (cX (qn (args := [ptr cb1 0, ii (2)]) call28 rfl (qZ [_, _] (l1Once_spec (n := 2) hbs (by omega) (hn := (by first | assumption | rfl | omega | simp)))) ?_))))))))
 rintro _ _ _ _ ⟨⟨rfl, x3, rfl⟩, rfl⟩
 show XL _ _ _ _ _ _ _ (cellsH b2 [x1, x2] 29 :: slH 51 3 x2 rs1.length cs1 :: curH .i64 75 cb1 bsv bs.length :: cellsH b1 [sN, sN] 29 :: L)
 refine qf ?_
 refine js (t := x3) rfl (fun h1 => ?_) (fun h1 => ?_)
 ·refine qg (qd (qj (ii (0)) rfl (qf (qQ (jr (α := Nat × List CRuleT × List Value × Nat × FH) (fun xQ => [(2, ptr b1 0), (4, ptr b2 0), (5, ii (((xQ.1 : Nat) : Int)))]) (fun xQ => cellsH b2 [x1, x2] 29 :: slH 51 3 x2 xQ.2.2.2.1 xQ.2.2.1 :: curH .i64 75 cb1 bsv bs.length :: cellsH b1 [sN, sN] 29 :: L) (fun xQ F' => xQ.2.2.2.2 = F' ∧ F1 ≤ xQ.2.2.2.2 ∧ (CRulesC xQ.2.2.2.2 xQ.2.2.1 xQ.2.1) ∧ (xQ.2.2.2.1 = xQ.2.1.length) ∧ (xQ.2.1.length ≤ 4) ∧ (xQ.1 ≤ xQ.2.1.length) ∧ (crulesS 3 xQ.2.1 = true)) (fun xQ => xQ.2.1.length - xQ.1) (0, rs1, cs1, rs1.length, F1) ⟨rfl, rfl, rfl, ⟨⟩⟩ (sC (sC (sC (sC sR)))) ⟨rfl, FLe.refl _, (hc1), (rfl), (by (try dsimp only); omega), (Nat.zero_le _), (h_3)⟩ ?_)))))
  rintro ⟨k, os, cs, m, G1⟩ rE _ _ ⟨rfl, leG, hC, hm, hol, hk, hos⟩
  show X _ _ _ _ (envs [(2, ptr b1 0), (4, ptr b2 0), (5, ii ((k : Int)))] rE) _ (cellsH b2 [x1, x2] 29 :: slH 51 3 x2 m cs :: curH .i64 75 cb1 bsv bs.length :: cellsH b1 [sN, sN] 29 :: L)
  replace leG : F1 ≤ G1 := leG
  dsimp only at hC hm hol hk hos
  have leG1 := leG
  replace ha1 := ha1.mono leG1
  replace hc1 := hc1.mono leG1
  refine qg (qg (qd (qi (ii ((k : Int))) rfl (cX (qq (1) qF rfl jp (by decide) rfl rfl (cX (qm jz rfl (Rd.own [] rfl rfl) (cX (qE qU rfl (SlV.own [_] rfl) (cX (jb rfl rfl (qf ?_))))))))))))
  refine qH (p := (k : Int) < (m : Int)) rfl (fun h2 => ?_) (fun h2 => ?_)
  ·refine qz (qg (qQ (qd (cX (qq (1) qF rfl jp (by decide) rfl rfl (cX (qm jz rfl (Rd.own [] rfl rfl) (qi (ii ((k : Int))) rfl (cX (qx (s := 2) [] [sN, sN] [] jh jK jM rfl (by decide) rfl CellsAre.nil rfl ?_))))))))))
   intro v1 hv1
   have hc2 : PairsC G1 [] ([] : List (List Int × List Int)) := (CO.nil : PairsC G1 [] [])
   refine jf [] _ _ rfl (fun F3 le3 hz1 => ?_)
   replace ha1 := ha1.mono le3
   replace hc1 := hc1.mono le3
   replace hC := hC.mono le3
   replace hc2 := hc2.mono le3
   have hf1 : PairsF F3 v1 (([] : List (List Int × List Int))) := CO.fz hc2 (by first | rfl | omega | (rw [List.length_set]; omega) | (simp; done)) hz1.fz
   skip
   refine cX (qD k qU jv rfl rfl rfl (SlV.own [_] rfl) (by omega) rfl (cX (jV (k * 3 + 2) qR rfl jx (by decide) rfl rfl (cX (XOp.storeS (i := k * 3 + 2) (cs := cs) [_] _ jx rfl rfl (qJ (PairsF.isSl hf1)) rfl (by have h9 := CO.len hC; (try simp only [List.length_set, List.length_replicate] at h9 ⊢) <;> omega) ?_)))))
   have hc3 := hC.setConds (j := k) (by (try simp only [List.length_set, List.length_replicate]); omega) hf1
   refine qf (qd (qi (ii ((k : Int))) rfl (cX (qS (((k + 1 : Nat) : Int)) rfl rfl (by omega) (by omega) (qj (ii (((k + 1 : Nat) : Int))) rfl (qf ?_))))))
   exact ⟨(k + 1, (os.set k ((os.getD k ([], [], [])).1, (os.getD k ([], [], [])).2.1, ([] : List (List Int × List Int)))), (cs.set (k * 3 + 2) v1), m, F3), _, (qc leG1 le3), rF, ⟨rfl, rfl, rfl, ⟨⟩⟩, (sC (sC (sC (sC sR)))), ⟨rfl, (qc leG1 le3), (hc3), (by (try dsimp only); (try rw [List.length_set]); omega), (by (try dsimp only); (try rw [List.length_set]); omega), (by (try dsimp only); (try rw [List.length_set]); omega), (crulesS_set hos (cruleS_setC (n := 3) (crulesS_at hos _) (condsS_nils (n := 0) (by decide))))⟩, (by (try dsimp only); (try rw [List.length_set]); omega)⟩
  refine jn (qA (qA (qV (qg (qd (cX (qs [x1, x2] qY qK rfl rfl (Rd.ownN [] rfl rfl) (cX (qO [_, _, _] _ [x1, x2] qK rfl rfl rfl (qw (qJ (qv ha1)) (qw (qJ hsl1) qT)) rfl rfl rfl (qf (ji [_] _ _ rfl (fun F4 le4 hz2 => ?_))))))))))))
  replace ha1 := ha1.mono le4
  replace hc1 := hc1.mono le4
  replace hC := hC.mono le4
  have hf2 : CRulesF F4 x2 os := CO.fz hC (by first | rfl | omega | (rw [List.length_set]; omega) | (simp; done)) hz2.fz
  refine qu (qt (L' := L) [.agg #[x1, x2]] (.agg #[x1, x2]) (.cell rfl (jt [x1, x2] qY qK rfl (Rd.ownN [_, _] rfl rfl)) .nil) rfl (qc (qc le1 leG1) le4) rF (sD (sD (sD sR))) ?_)
  exact ⟨_, _, _, _, rfl, ha1, hf2, h_1, hol, hos, rfl⟩
 refine qz (qg (qd (cX (qs [x1, x2] qY qK rfl rfl (Rd.ownN [] rfl rfl) (cX (qO [_, _, _] _ [x1, x2] qK rfl rfl rfl (qw (qJ (qv ha1)) (qw (qJ hsl1) qT)) rfl rfl rfl (qf (ji [_] _ _ rfl (fun F5 le5 hz3 => ?_)))))))))
 replace ha1 := ha1.mono le5
 replace hc1 := hc1.mono le5
 have hf3 : CRulesF F5 x2 rs1 := CO.fz hc1 (by first | rfl | omega | (rw [List.length_set]; omega) | (simp; done)) hz3.fz
 refine qu (qt (L' := L) [.agg #[x1, x2]] (.agg #[x1, x2]) (.cell rfl (jt [x1, x2] qY qK rfl (Rd.ownN [_, _] rfl rfl)) .nil) rfl (qc le1 le5) rF (sD (sD (sD sR))) ?_)
 exact ⟨_, _, _, _, rfl, ha1, hf3, h_1, h_2, h_3, rfl⟩

/- impl.PlainSystem -/
set_option maxHeartbeats 1000000 in
set_option maxRecDepth 20000 in
theorem PlainSystem_spec {F : FH} {L : List HP} {arv : Value} {ar : List Int} (har : IntsF F arv ar) {crv : Value} {cr : List CRuleT} (hcr : CRulesF F crv cr) :
    Does prog 12 [.agg #[arv, crv]] F (L) (fun v F' L' => ∃ (a : Value), ∃ (b : Value), (.tuple #[.agg #[a, b], .bool (plainB ar cr)] : Value) = v ∧ (IntsF F' a (if plainB ar cr = true then ar else [])) ∧ (PairsF F' b (if plainB ar cr = true then plainRs cr else [])) ∧ L = L') := by
 refine qL func12 rfl rfl rfl (qg (qd (cX (je [arv, crv] rfl rfl ?_))))
 intro b1
 refine cX (jm [sN, sN] zeroValue40 rfl ?_)
 intro b2
 refine qj (.bool (false)) rfl (qf (qg (qg (qd (cX (qs [arv, crv] qY qK rfl rfl (Rd.ownN [_] rfl rfl) (cX (qn (args := [.agg #[arv, crv]]) call29 rfl (CSystemOk_spec har hcr) ?_))))))))
 rintro _ _ _ _ ⟨rfl, rfl, rfl⟩
 refine cX (jg rfl (qf ?_))
 refine js (t := !(csysOk ar cr)) rfl (fun h1 => ?_) (fun h1 => ?_)
 ·have hcs : csysOk ar cr = false := Bool.not_inj (y := false) h1
  have hpb := plainB_no hcs
  refine qg (qd (cX (jk [sN, sN] [sN, sN] [(0, 1), (1, 1)] [] ju zeroValue40 rfl (.cons rfl qB (.cons rfl yb PlacesAre.nil)) rfl CellsAre.nil (cX (qO [] _ [sN, sN] jU rfl rfl rfl (qw rfl (qw rfl qT)) rfl rfl rfl (qj (.bool (false)) rfl (qf (qu (ql (qt (L' := L) [.agg #[sN, sN], .bool (false)] (.tuple #[.agg #[sN, sN], .bool (false)]) (.cell rfl (jt [sN, sN] isAgg40 jU rfl (Rd.ownN [] rfl rfl)) (.tmp rfl .nil)) rfl rF rF (sD (sD sR)) ?_))))))))))
  exact ⟨_, _, by rw [hpb] <;> rfl, by rw [hpb]; exact IntsF.nilV, by rw [hpb]; exact SlOf.nilV, rfl⟩
 have hcs : csysOk ar cr = true := Bool.not_inj (y := true) h1
 have hcl9 := (csysOk_iff.1 hcs).2.1
 have hal9 := sigOk_spec (csysOk_iff.1 hcs).1
 have hRb := fun i (hi : i < cr.length) => csysOk_at hcs hi
 have hR1 := fun i hi => (termOk_len (hRb i hi).left).2
 have hR2 := fun i hi => (termOk_len (hRb i hi).right).2
 refine qz (qg (qd (cX (qq (0) qF rfl qB (by decide) rfl rfl (cX (qq (0) jc rfl qy (by decide) rfl rfl (cX (qm qX rfl (Rd.own [_] rfl rfl) (cX (jR <| qn (args := [arv]) call22 rfl (Clone_spec har (hlt := (by first | assumption | rfl | omega | simp))) ?_))))))))))
 rintro v1 _ _ _ ⟨rfl, hs1, rfl⟩
 refine ⟨_, _, rfl, fun F1 le1 hz1 => ?_⟩
 replace har := har.mono le1
 replace hcr := hcr.mono le1
 have hf1 : IntsF F1 v1 ((ar)) := intsH.fz (xs := (ar)) hz1.fz
 refine cX (jk [v1] [sN] [(0, 1)] [(0, [v1])] jc zeroValue26 rfl (.cons rfl qy PlacesAre.nil) rfl (.cons (cells_one (qv hf1)) CellsAre.nil) (cX (jk [v1, sN] [sN, sN] [(0, 1), (1, 1)] [(0, [v1])] ju zeroValue40 rfl (.cons rfl qB (.cons rfl yb PlacesAre.nil)) rfl (.cons rfl CellsAre.nil) (cX (jm [sN, sN] zeroValue40 rfl ?_)))))
 intro b3
 refine cX (qO [] _ [v1, sN] jU rfl rfl rfl (qw (qJ (qv hf1)) (qw rfl qT)) rfl rfl rfl (qf (qg (qg (qd (cX (qq (1) qF rfl jp (by decide) rfl rfl (cX (qm jz rfl (Rd.own [_, _] rfl rfl) (cX (qE qU rfl hcr.slv (qi (ii (0)) rfl (qf (qQ (jr (α := Nat × Value × List (List Int × List Int) × List Value × Nat × FH) (fun xQ => [(2, ptr b2 0), (4, ptr b3 0), (18, crv), (19, ii ((cr.length : Int))), (20, ii (((xQ.1 : Nat) : Int)))]) (fun xQ => slH 44 2 xQ.2.1 xQ.2.2.2.2.1 xQ.2.2.2.1 :: cellsH b3 [v1, xQ.2.1] 40 :: cellsH b2 [sN, sN] 40 :: cellsH b1 [arv, crv] 29 :: L) (fun xQ F' => xQ.2.2.2.2.2 = F' ∧ F1 ≤ xQ.2.2.2.2.2 ∧ (IsSl xQ.2.1) ∧ (PairsC xQ.2.2.2.2.2 xQ.2.2.2.1 xQ.2.2.1) ∧ (xQ.2.2.2.2.1 = xQ.2.2.1.length) ∧ (xQ.1 ≤ cr.length) ∧ (xQ.2.2.1 = plainRs (cr.take xQ.1)) ∧ (xQ.2.2.1.length ≤ xQ.1) ∧ (∀ i, i < xQ.1 → (cr.getD i ([], [], [])).2.2.length = 0)) (fun xQ => cr.length - xQ.1) (0, sN, [], [], 0, F1) ⟨rfl, rfl, rfl, rfl, rfl, ⟨⟩⟩ (jN (Sub.addNil 44 2 _ _) (sC (sC (sC (sC sR))))) ⟨rfl, FLe.refl _, (⟨_, _, _, rfl⟩), (CO.nil), (rfl), (by (try dsimp only) <;> omega), (rfl), (Nat.zero_le _), (fun i hi => absurd hi (by omega))⟩ ?_)))))))))))))))
 rintro ⟨k, ov, os, cs, m, G1⟩ rE _ _ ⟨rfl, leG, hov, hC, hm, hk, hos, hol, hnc⟩
 show X _ _ _ _ (envs [(2, ptr b2 0), (4, ptr b3 0), (18, crv), (19, ii ((cr.length : Int))), (20, ii ((k : Int)))] rE) _ (slH 44 2 ov m cs :: cellsH b3 [v1, ov] 40 :: cellsH b2 [sN, sN] 40 :: cellsH b1 [arv, crv] 29 :: L)
 replace leG : F1 ≤ G1 := leG
 dsimp only at hov hC hm hk hos hol hnc
 have hk1 := hR1 k
 have hk2 := hR2 k
 have leG1 := leG
 replace har := har.mono leG1
 replace hcr := hcr.mono leG1
 replace hf1 := hf1.mono leG1
 refine qg (qd (cX (jb rfl rfl (qf (qg ?_)))))
 refine qH (p := (k : Int) < (cr.length : Int)) rfl (fun h2 => ?_) (fun h2 => ?_)
 ·refine qz (qg (qQ (qg (qd (cX (qD k qU jv rfl rfl rfl hcr.slv (by omega) rfl ?_))))))
  obtain ⟨a1, a2, a3, ha1, ha2, ha3, hrg1, hq1⟩ := hcr.rd (i := k) (by omega)
  refine cX (qs [a1, a2, a3] isAgg51 jv rfl rfl (Rd.all (hrg1 _)) (cX (jm [sN, sN, sN] jP rfl ?_)))
  intro b4
  refine cX (qO [] _ [a1, a2, a3] jv rfl rfl rfl (qw (qJ (qv ha1)) (qw (qJ (qv ha2)) (qw (qJ (PairsF.isSl ha3)) qT))) rfl rfl rfl (qf (qg (qg (qd (cX (qq (2) qR rfl jx (by decide) rfl rfl (cX (qm isAgg49 rfl (Rd.own [] rfl rfl) (cX (qE jh rfl ha3.slv (cX (jF rfl rfl (qf ?_))))))))))))))
  refine qH (p := (((((cr.getD k ([], [], [])).2.2).length : Nat) : Int) : Int) > 0) rfl (fun h3 => ?_) (fun h3 => ?_)
  ·have hpb : plainB ar cr = false := plainB_cond (k := k) (by omega) (by omega)
   refine qg (qd (cX (jk [sN, sN] [sN, sN] [(0, 1), (1, 1)] [] ju zeroValue40 rfl (.cons rfl qB (.cons rfl yb PlacesAre.nil)) rfl CellsAre.nil (cX (qO [_, _, _] _ [sN, sN] jU rfl rfl rfl (qw rfl (qw rfl qT)) rfl rfl rfl (qj (.bool (false)) rfl (qf (qu (ql (qI (ql (ql (qI (ql (qt (L' := L) [.agg #[sN, sN], .bool (false)] (.tuple #[.agg #[sN, sN], .bool (false)]) (.cell rfl (jt [sN, sN] isAgg40 jU rfl (Rd.ownN [_, _, _] rfl rfl)) (.tmp rfl .nil)) rfl (qc le1 leG1) rF (sD (sD (sD (sD (sD sR))))) ?_)))))))))))))))
   exact ⟨_, _, by rw [hpb] <;> rfl, by rw [hpb]; exact IntsF.nilV, by rw [hpb]; exact SlOf.nilV, rfl⟩
  refine qz ?_
  refine jG [cellsH b4 [a1, a2, a3] 51, slH 44 2 ov m cs, cellsH b3 [v1, ov] 40, cellsH b2 [sN, sN] 40, cellsH b1 [arv, crv] 29] L 10 [[], [], [], [], [], [], [], [], [4, 7], [4, 7]] [[], [0], [], [2], [3], [], [5], [6], [4, 7], [4, 7, 8]] [] (phiG [pe (ptr b3 1), pe ov, pe (ptr b4 0), pe a1, fun FF us v => ((v) : Value) = v ∧ (IntsF FF (v) (((cr.getD k ([], [], [])).1))), pe (ptr b4 1), pe a2, fun FF us v => ((v) : Value) = v ∧ (IntsF FF (v) (((cr.getD k ([], [], [])).2.1))), fun FF us v => v = (.agg #[((us.getD 0 undef)), ((us.getD 1 undef))] : Value), fun FF us v => ∃ b, v = .slice (some ⟨b, 0, none⟩) 1 1]) (ownL [o0, o0, o0, o0, o0, o0, o0, o0, o0, fun us v => [slH 44 2 v 1 [((us.getD 0 undef)), ((us.getD 1 undef))]]]) mixed rfl rfl (by kernel_rfl) (by kernel_rfl) (MonoG.get (m1 (m1 (m1 (m1 (mC (fun le h => ⟨h.1, h.2.mono le⟩) (m1 (m1 (mC (fun le h => ⟨h.1, h.2.mono le⟩) (mC (fun le h => h) (mC (fun le h => h) MonoG.nil))))))))))) ?_ ?_
  ·refine gD (fun W Fs R lF z9 => ?_) ?_
   ·refine qk (qq (1) ju rfl yb (by decide) rfl rfl ?_)
    exact ⟨rfl, rfl⟩
   refine gD (fun W Fs R lF z9 => ?_) ?_
   ·replace har := har.mono lF
    replace hf1 := hf1.mono lF
    replace hC := hC.mono lF
    replace ha1 := ha1.mono lF
    replace ha2 := ha2.mono lF
    rw [zA 0 (z9 0 rfl)]
    refine qk (qm isAgg38 rfl (Rd.own [_, _] rfl rfl) ?_)
    exact ⟨rfl, rfl⟩
   refine gD (fun W Fs R lF z9 => ?_) ?_
   ·refine qk (qq (0) qR rfl qy (by decide) rfl rfl ?_)
    exact ⟨rfl, rfl⟩
   refine gD (fun W Fs R lF z9 => ?_) ?_
   ·replace har := har.mono lF
    replace hf1 := hf1.mono lF
    replace hC := hC.mono lF
    replace ha1 := ha1.mono lF
    replace ha2 := ha2.mono lF
    rw [zA 2 (z9 2 rfl)]
    refine qk (qm qX rfl (Rd.own [] rfl rfl) ?_)
    exact ⟨rfl, rfl⟩
   refine gD (fun W Fs R lF z9 => ?_) ?_
   ·replace har := har.mono lF
    replace hf1 := hf1.mono lF
    replace hC := hC.mono lF
    replace ha1 := ha1.mono lF
    replace ha2 := ha2.mono lF
    rw [zA 3 (z9 3 rfl)]
    refine qk (jR <| qn (args := [a1]) call22 rfl (Clone_spec ha1 (hlt := (by first | assumption | rfl | omega | simp))) ?_)
    rintro v5 _ _ _ ⟨rfl, hs4, rfl⟩
    refine ⟨_, _, rfl, fun F2 le2 hz2 => ?_⟩
    replace har := har.mono le2
    replace hf1 := hf1.mono le2
    replace hC := hC.mono le2
    replace ha2 := ha2.mono le2
    have hf2 : IntsF F2 v5 ((((cr.getD k ([], [], [])).1))) := intsH.fz (xs := (((cr.getD k ([], [], [])).1))) hz2.fz
    exact ⟨⟨rfl, hf2⟩, rfl⟩
   refine gD (fun W Fs R lF z9 => ?_) ?_
   ·refine qk (qq (1) qR rfl qy (by decide) rfl rfl ?_)
    exact ⟨rfl, rfl⟩
   refine gD (fun W Fs R lF z9 => ?_) ?_
   ·replace har := har.mono lF
    replace hf1 := hf1.mono lF
    replace hC := hC.mono lF
    replace ha2 := ha2.mono lF
    rw [zA 5 (z9 5 rfl)]
    refine qk (qm qX rfl (Rd.own [] rfl rfl) ?_)
    exact ⟨rfl, rfl⟩
   refine gD (fun W Fs R lF z9 => ?_) ?_
   ·replace har := har.mono lF
    replace hf1 := hf1.mono lF
    replace hC := hC.mono lF
    replace ha2 := ha2.mono lF
    rw [zA 6 (z9 6 rfl)]
    refine qk (jR <| qn (args := [a2]) call22 rfl (Clone_spec ha2 (hlt := (by first | assumption | rfl | omega | simp))) ?_)
    rintro v6 _ _ _ ⟨rfl, hs5, rfl⟩
    refine ⟨_, _, rfl, fun F3 le3 hz3 => ?_⟩
    replace hf1 := hf1.mono le3
    replace hC := hC.mono le3
    have hf3 : IntsF F3 v6 ((((cr.getD k ([], [], [])).2.1))) := intsH.fz (xs := (((cr.getD k ([], [], [])).2.1))) hz3.fz
    exact ⟨⟨rfl, hf3⟩, rfl⟩
   refine gD (fun W Fs R lF z9 => ?_) ?_
   ·obtain ⟨e4, f4_1ha⟩ := z9 4 rfl
    obtain ⟨e7, f7_1ha⟩ := z9 7 rfl
    replace hf1 := hf1.mono lF
    replace hC := hC.mono lF
    rw [eS (l := [(4, ((W 4))), (7, ((W 7)))]) ⟨(e4).symm, (e7).symm, ⟨⟩⟩]
    refine qk (jk [((W 4)), ((W 7))] [sN, sN] [(0, 1), (1, 1)] [(0, [((W 4))]), (1, [((W 7))])] jB zeroValue44 rfl (.cons rfl qy (.cons rfl qy PlacesAre.nil)) rfl (.cons (cells_one (qv f4_1ha)) (.cons (cells_one (qv f7_1ha)) CellsAre.nil)) ?_)
    exact ⟨rfl, rfl⟩
   refine gD (fun W Fs R lF z9 => ?_) ?_
   ·obtain ⟨e4, f4_1ha⟩ := z9 4 rfl
    obtain ⟨e7, f7_1ha⟩ := z9 7 rfl
    have e8 : W 8 = (.agg #[((W 4)), ((W 7))] : Value) := z9 8 rfl
    replace hf1 := hf1.mono lF
    replace hC := hC.mono lF
    rw [eS (l := [(4, ((W 4))), (7, ((W 7))), (8, (.agg #[((W 4)), ((W 7))]))]) ⟨(e4).symm, (e7).symm, e8, ⟨⟩⟩]
    refine qk (qx (s := 2) [((W 4)), ((W 7))] [sN, sN] [(0, [((W 4)), ((W 7))])] jZ sizeOf44 zeroValue44 rfl (by decide) rfl (.cons rfl CellsAre.nil) rfl ?_)
    intro v7 hv2
    exact ⟨hv2, rfl⟩
   exact stepsG.nil
  intro W F4 le4 hphi
  obtain ⟨e4, f4_1ha⟩ := hphi 4 (by decide)
  obtain ⟨e7, f7_1ha⟩ := hphi 7 (by decide)
  have e8 : W 8 = (.agg #[((W 4)), ((W 7))] : Value) := hphi 8 (by decide)
  have f9 : ∃ b, (W 9) = .slice (some ⟨b, 0, none⟩) 1 1 := hphi 9 (by decide)
  generalize hu1 : ((W 4)) = u1 at e4 f4_1ha e7 f7_1ha e8 f9
  generalize hu2 : ((W 7)) = u2 at e4 f4_1ha e7 f7_1ha e8 f9
  generalize huu9 : W 9 = u3 at e4 f4_1ha e7 f7_1ha e8 f9
  rw [eS (l := [(1, _), (4, u1), (7, u2), (9, u3)]) ⟨(hphi 1 (by decide)), hu1, hu2, huu9, ⟨⟩⟩]
  replace hf1 := hf1.mono le4
  replace hC := hC.mono le4
  show XL _ _ _ _ _ _ _ (slH 44 2 u3 1 [u1, u2] :: cellsH b4 [a1, a2, a3] 51 :: slH 44 2 ov m cs :: cellsH b3 [v1, ov] 40 :: cellsH b2 [sN, sN] 40 :: cellsH b1 [arv, crv] 29 :: L)
  refine cX (XOp.append (m := 1) (bytes := 48) (cs := cs) [_, _] _ [u1, u2] jZ typeInfo44 rfl rfl rfl rfl rfl rfl rfl (SlV.own [] rfl) rfl (Rd.lit [] rfl) (qw (qJ (qv f4_1ha)) (qw (qJ (qv f7_1ha)) qT)) (by (try simp only [List.length_append, List.length_nil, List.length_cons, List.length_singleton]); omega) (by (try simp only [List.length_append, List.length_nil, List.length_cons, List.length_singleton]); omega) ?_)
  intro v8 hs6 hn1 hm1
  have hc1 := PairsC.snoc hC f4_1ha f7_1ha
  refine cX (qq (1) ju rfl yb (by decide) rfl rfl (cX (jL [_, _, _] _ [v1, v8] yb rfl rfl (qJ hs6) rfl rfl rfl (qf (qd (cX (qS (((k + 1 : Nat) : Int)) rfl rfl (by omega) (by omega) (qi (ii (((k + 1 : Nat) : Int))) rfl (qf ?_)))))))))
  exact ⟨(k + 1, v8, os ++ [((((cr.getD k ([], [], [])).1)), (((cr.getD k ([], [], [])).2.1)))], cs ++ [u1, u2], (m) + 1, F4), _, (qc leG1 le4), rF, ⟨rfl, rfl, rfl, rfl, rfl, ⟨⟩⟩, (sD (sD (sC (sC (sC (sC sR)))))), ⟨rfl, (qc leG1 le4), (hs6), (hc1), (by (try dsimp only); rw [List.length_append]; simp only [List.length_singleton]; omega), (by (try dsimp only) <;> omega), (by (try dsimp only); rw [hos, plainRs_take (by omega)]), (by (try dsimp only); rw [List.length_append]; simp only [List.length_singleton]; omega), (fun i hi => (Nat.lt_or_ge i k).elim (fun h => hnc i h) (fun h => by obtain rfl : i = k := (by omega); omega))⟩, (by omega)⟩
 refine jn (qA (qA (qV (qg (qd (cX (qs [v1, ov] isAgg40 jU rfl rfl (Rd.ownN [_] rfl rfl) (cX (qO [_, _] _ [v1, ov] jU rfl rfl rfl (qw (qJ (qv hf1)) (qw (qJ hov) qT)) rfl rfl rfl (qj (.bool (true)) rfl (qf (ji [] _ _ rfl (fun F5 le5 hz4 => ?_)))))))))))))
 replace hf1 := hf1.mono le5
 replace hC := hC.mono le5
 have hf4 : PairsF F5 ov os := CO.fz hC (by first | rfl | omega | (rw [List.length_set]; omega) | (simp; done)) hz4.fz
 refine qu (qt (L' := L) [.agg #[v1, ov], .bool (true)] (.tuple #[.agg #[v1, ov], .bool (true)]) (.cell rfl (jt [v1, ov] isAgg40 jU rfl (Rd.ownN [_] rfl rfl)) (.tmp rfl .nil)) rfl (qc (qc le1 leG1) le5) rF (sD (sD (sD sR))) ?_)
 have hpb : plainB ar cr = true := plainB_yes hcs (fun i hi => hnc i (by omega))
 have e9 : os = plainRs cr := by rw [hos, List.take_of_length_le (by omega)]
 subst e9
 exact ⟨_, _, by rw [hpb] <;> rfl, by rw [hpb]; exact hf1, by rw [hpb]; exact hf4, rfl⟩

/- spec.PlainSystem -/
set_option maxHeartbeats 1000000 in
set_option maxRecDepth 20000 in
theorem sPlainSystem_spec {F : FH} {L : List HP} {arv : Value} {ar : List Int} (har : IntsF F arv ar) {crv : Value} {cr : List CRuleT} (hcr : CRulesF F crv cr) (hla : ar.length ≤ 4000000) (hlr : cr.length ≤ 4000000) (hrb : ∀ i, i < cr.length → (cr.getD i ([], [], [])).1.length ≤ 4000000 ∧ (cr.getD i ([], [], [])).2.1.length ≤ 4000000 ∧ (cr.getD i ([], [], [])).2.2.length ≤ 4000000 ∧ ∀ q, q < (cr.getD i ([], [], [])).2.2.length → ((cr.getD i ([], [], [])).2.2.getD q ([], [])).1.length ≤ 4000000 ∧ ((cr.getD i ([], [], [])).2.2.getD q ([], [])).2.length ≤ 4000000) :
    Does prog 13 [.agg #[arv, crv]] F (L) (fun v F' L' => ∃ (a : Value), ∃ (b : Value), (.tuple #[.agg #[a, b], .bool (plainB ar cr)] : Value) = v ∧ (IntsF F' a (if plainB ar cr = true then ar else [])) ∧ (PairsF F' b (if plainB ar cr = true then plainRs cr else [])) ∧ L = L') := by
 refine qL func13 rfl rfl rfl (qg (qd (cX (je [arv, crv] rfl rfl ?_))))
 intro b1
 refine cX (jm [sN, sN] zeroValue40 rfl ?_)
 intro b2
 refine qj (.bool (false)) rfl (qf (qg (qg (qd (cX (qs [arv, crv] qY qK rfl rfl (Rd.ownN [_] rfl rfl) (cX (qn (args := [.agg #[arv, crv]]) call30 rfl (sCSystemOk_spec har hcr (hla := (by first | assumption | rfl | omega | simp)) (hlr := (by first | assumption | rfl | omega | simp)) (hrb := (by first | assumption | rfl | omega | simp))) ?_))))))))
 rintro _ _ _ _ ⟨rfl, rfl, rfl⟩
 refine cX (jg rfl (qf ?_))
 refine js (t := !(csysOk ar cr)) rfl (fun h1 => ?_) (fun h1 => ?_)
 ·have hcs : csysOk ar cr = false := Bool.not_inj (y := false) h1
  have hpb := plainB_no hcs
  refine qg (qd (cX (jk [sN, sN] [sN, sN] [(0, 1), (1, 1)] [] ju zeroValue40 rfl (.cons rfl qB (.cons rfl yb PlacesAre.nil)) rfl CellsAre.nil (cX (qO [] _ [sN, sN] jU rfl rfl rfl (qw rfl (qw rfl qT)) rfl rfl rfl (qj (.bool (false)) rfl (qf (qu (ql (qt (L' := L) [.agg #[sN, sN], .bool (false)] (.tuple #[.agg #[sN, sN], .bool (false)]) (.cell rfl (jt [sN, sN] isAgg40 jU rfl (Rd.ownN [] rfl rfl)) (.tmp rfl .nil)) rfl rF rF (sD (sD sR)) ?_))))))))))
  exact ⟨_, _, by rw [hpb] <;> rfl, by rw [hpb]; exact IntsF.nilV, by rw [hpb]; exact SlOf.nilV, rfl⟩
 have hcs : csysOk ar cr = true := Bool.not_inj (y := true) h1
 have hcl9 := (csysOk_iff.1 hcs).2.1
 have hal9 := sigOk_spec (csysOk_iff.1 hcs).1
 have hRb := fun i (hi : i < cr.length) => csysOk_at hcs hi
 have hR1 := fun i hi => (termOk_len (hRb i hi).left).2
 have hR2 := fun i hi => (termOk_len (hRb i hi).right).2
 refine qz (qg (qd (cX (qq (0) qF rfl qB (by decide) rfl rfl (cX (qq (0) jc rfl qy (by decide) rfl rfl (cX (qm qX rfl (Rd.own [_] rfl rfl) (cX (jR <| qn (args := [arv]) call31 rfl (l1Copy_spec har (hlt := (by first | assumption | rfl | omega | simp))) ?_))))))))))
 rintro v1 _ _ _ ⟨rfl, hs1, rfl⟩
 refine ⟨_, _, rfl, fun F1 le1 hz1 => ?_⟩
 replace har := har.mono le1
 replace hcr := hcr.mono le1
 have hf1 : IntsF F1 v1 ((ar)) := intsH.fz (xs := (ar)) hz1.fz
 refine cX (jk [v1] [sN] [(0, 1)] [(0, [v1])] jc zeroValue26 rfl (.cons rfl qy PlacesAre.nil) rfl (.cons (cells_one (qv hf1)) CellsAre.nil) (cX (jk [v1, sN] [sN, sN] [(0, 1), (1, 1)] [(0, [v1])] ju zeroValue40 rfl (.cons rfl qB (.cons rfl yb PlacesAre.nil)) rfl (.cons rfl CellsAre.nil) (cX (jm [sN, sN] zeroValue40 rfl ?_)))))
 intro b3
 refine cX (qO [] _ [v1, sN] jU rfl rfl rfl (qw (qJ (qv hf1)) (qw rfl qT)) rfl rfl rfl (qf (qg (qg (qd (qj (ii (0)) rfl (qf (qQ (jr (α := Nat × Value × List (List Int × List Int) × List Value × Nat × FH) (fun xQ => [(1, ptr b1 0), (2, ptr b2 0), (4, ptr b3 0), (5, ii (((xQ.1 : Nat) : Int)))]) (fun xQ => slH 44 2 xQ.2.1 xQ.2.2.2.2.1 xQ.2.2.2.1 :: cellsH b3 [v1, xQ.2.1] 40 :: cellsH b2 [sN, sN] 40 :: cellsH b1 [arv, crv] 29 :: L) (fun xQ F' => xQ.2.2.2.2.2 = F' ∧ F1 ≤ xQ.2.2.2.2.2 ∧ (IsSl xQ.2.1) ∧ (PairsC xQ.2.2.2.2.2 xQ.2.2.2.1 xQ.2.2.1) ∧ (xQ.2.2.2.2.1 = xQ.2.2.1.length) ∧ (xQ.1 ≤ cr.length) ∧ (xQ.2.2.1 = plainRs (cr.take xQ.1)) ∧ (xQ.2.2.1.length ≤ xQ.1) ∧ (∀ i, i < xQ.1 → (cr.getD i ([], [], [])).2.2.length = 0)) (fun xQ => cr.length - xQ.1) (0, sN, [], [], 0, F1) ⟨rfl, rfl, rfl, rfl, ⟨⟩⟩ (jN (Sub.addNil 44 2 _ _) (sC (sC (sC (sC sR))))) ⟨rfl, FLe.refl _, (⟨_, _, _, rfl⟩), (CO.nil), (rfl), (by (try dsimp only) <;> omega), (rfl), (Nat.zero_le _), (fun i hi => absurd hi (by omega))⟩ ?_)))))))))
 rintro ⟨k, ov, os, cs, m, G1⟩ rE _ _ ⟨rfl, leG, hov, hC, hm, hk, hos, hol, hnc⟩
 show X _ _ _ _ (envs [(1, ptr b1 0), (2, ptr b2 0), (4, ptr b3 0), (5, ii ((k : Int)))] rE) _ (slH 44 2 ov m cs :: cellsH b3 [v1, ov] 40 :: cellsH b2 [sN, sN] 40 :: cellsH b1 [arv, crv] 29 :: L)
 replace leG : F1 ≤ G1 := leG
 dsimp only at hov hC hm hk hos hol hnc
 have hk1 := hR1 k
 have hk2 := hR2 k
 have leG1 := leG
 replace har := har.mono leG1
 replace hcr := hcr.mono leG1
 replace hf1 := hf1.mono leG1
 refine qg (qg (qd (qi (ii ((k : Int))) rfl (cX (qq (1) qF rfl jp (by decide) rfl rfl (cX (qm jz rfl (Rd.own [_, _, _] rfl rfl) (cX (qE qU rfl hcr.slv (cX (jb rfl rfl (qf ?_))))))))))))
 refine qH (p := (k : Int) < (cr.length : Int)) rfl (fun h2 => ?_) (fun h2 => ?_)
 ·refine qz (qg (qQ (qg (qg (qd (cX (qq (1) qF rfl jp (by decide) rfl rfl (cX (qm jz rfl (Rd.own [_, _, _] rfl rfl) (qi (ii ((k : Int))) rfl (cX (qD k qU jv rfl rfl rfl hcr.slv (by omega) rfl (cX (jV (k * 3 + 2) qR rfl jx (by decide) rfl rfl ?_))))))))))))))
  obtain ⟨a1, a2, a3, ha1, ha2, ha3, hrg1, hq1⟩ := hcr.rd (i := k) (by omega)
  refine cX (qm isAgg49 rfl (hrg1 _ 2 _ rfl) (cX (qE jh rfl ha3.slv (cX (jF rfl rfl (qf ?_))))))
  refine qH (p := (((((cr.getD k ([], [], [])).2.2).length : Nat) : Int) : Int) > 0) rfl (fun h3 => ?_) (fun h3 => ?_)
  ·have hpb : plainB ar cr = false := plainB_cond (k := k) (by omega) (by omega)
   refine qg (qd (cX (jk [sN, sN] [sN, sN] [(0, 1), (1, 1)] [] ju zeroValue40 rfl (.cons rfl qB (.cons rfl yb PlacesAre.nil)) rfl CellsAre.nil (cX (qO [_, _] _ [sN, sN] jU rfl rfl rfl (qw rfl (qw rfl qT)) rfl rfl rfl (qj (.bool (false)) rfl (qf (qu (ql (qI (ql (ql (qI (ql (qt (L' := L) [.agg #[sN, sN], .bool (false)] (.tuple #[.agg #[sN, sN], .bool (false)]) (.cell rfl (jt [sN, sN] isAgg40 jU rfl (Rd.ownN [_, _] rfl rfl)) (.tmp rfl .nil)) rfl (qc le1 leG1) rF (sD (sD (sD (sD sR)))) ?_)))))))))))))))
   exact ⟨_, _, by rw [hpb] <;> rfl, by rw [hpb]; exact IntsF.nilV, by rw [hpb]; exact SlOf.nilV, rfl⟩
  refine qz ?_
  refine jG [slH 44 2 ov m cs, cellsH b3 [v1, ov] 40, cellsH b2 [sN, sN] 40, cellsH b1 [arv, crv] 29] L 18 [[], [], [], [], [], [], [], [], [], [], [], [], [], [], [], [], [8, 15], [8, 15]] [[], [0], [], [2], [], [3, 4], [5], [6], [7], [], [9], [], [10, 11], [12], [13], [14], [8, 15], [8, 15, 16]] [] (phiG [pe (ptr b3 1), pe ov, pe (ptr b1 1), pe crv, pe (ii ((k : Int)) : Value), pe (.pointer (some (elemA crv (k * 3)))), pe (.pointer (some (elemA crv (k * 3)))), pe a1, fun FF us v => ((v) : Value) = v ∧ (IntsF FF (v) (((cr.getD k ([], [], [])).1))), pe (ptr b1 1), pe crv, pe (ii ((k : Int)) : Value), pe (.pointer (some (elemA crv (k * 3)))), pe (.pointer (some (elemA crv (k * 3 + 1)))), pe a2, fun FF us v => ((v) : Value) = v ∧ (IntsF FF (v) (((cr.getD k ([], [], [])).2.1))), fun FF us v => v = (.agg #[((us.getD 0 undef)), ((us.getD 1 undef))] : Value), fun FF us v => ∃ b, v = .slice (some ⟨b, 0, none⟩) 1 1]) (ownL [o0, o0, o0, o0, o0, o0, o0, o0, o0, o0, o0, o0, o0, o0, o0, o0, o0, fun us v => [slH 44 2 v 1 [((us.getD 0 undef)), ((us.getD 1 undef))]]]) mixed rfl rfl (by kernel_rfl) (by kernel_rfl) (MonoG.get (m1 (m1 (m1 (m1 (m1 (m1 (m1 (m1 (mC (fun le h => ⟨h.1, h.2.mono le⟩) (m1 (m1 (m1 (m1 (m1 (m1 (mC (fun le h => ⟨h.1, h.2.mono le⟩) (mC (fun le h => h) (mC (fun le h => h) MonoG.nil))))))))))))))))))) ?_ ?_
  ·refine gD (fun W Fs R lF z9 => ?_) ?_
   ·refine qk (qq (1) ju rfl yb (by decide) rfl rfl ?_)
    exact ⟨rfl, rfl⟩
   refine gD (fun W Fs R lF z9 => ?_) ?_
   ·replace har := har.mono lF
    replace hcr := hcr.mono lF
    replace hf1 := hf1.mono lF
    replace hC := hC.mono lF
    replace ha1 := ha1.mono lF
    replace ha2 := ha2.mono lF
    replace hrg1 := fun L9 j9 u9 h9 => Rd.mono (hrg1 L9 j9 u9 h9) lF
    rw [zA 0 (z9 0 rfl)]
    refine qk (qm isAgg38 rfl (Rd.own [_] rfl rfl) ?_)
    exact ⟨rfl, rfl⟩
   refine gD (fun W Fs R lF z9 => ?_) ?_
   ·refine qk (qq (1) qF rfl jp (by decide) rfl rfl ?_)
    exact ⟨rfl, rfl⟩
   refine gD (fun W Fs R lF z9 => ?_) ?_
   ·replace har := har.mono lF
    replace hcr := hcr.mono lF
    replace hf1 := hf1.mono lF
    replace hC := hC.mono lF
    replace ha1 := ha1.mono lF
    replace ha2 := ha2.mono lF
    replace hrg1 := fun L9 j9 u9 h9 => Rd.mono (hrg1 L9 j9 u9 h9) lF
    rw [zA 2 (z9 2 rfl)]
    refine qk (qm jz rfl (Rd.own [_, _, _] rfl rfl) ?_)
    exact ⟨rfl, rfl⟩
   refine gD (fun W Fs R lF z9 => ?_) ?_
   ·refine qk (qo (ii ((k : Int))) rfl ?_)
    exact ⟨rfl, rfl⟩
   refine gD (fun W Fs R lF z9 => ?_) ?_
   ·replace har := har.mono lF
    replace hcr := hcr.mono lF
    replace hf1 := hf1.mono lF
    replace hC := hC.mono lF
    replace ha1 := ha1.mono lF
    replace ha2 := ha2.mono lF
    replace hrg1 := fun L9 j9 u9 h9 => Rd.mono (hrg1 L9 j9 u9 h9) lF
    rw [zB 3 4 (z9 3 rfl) (z9 4 rfl)]
    refine qk (qD k qU jv rfl rfl rfl hcr.slv (by omega) rfl ?_)
    exact ⟨rfl, rfl⟩
   refine gD (fun W Fs R lF z9 => ?_) ?_
   ·rw [zA 5 (z9 5 rfl)]
    refine qk (jV (k * 3) qR rfl qy (by decide) rfl rfl ?_)
    exact ⟨rfl, rfl⟩
   refine gD (fun W Fs R lF z9 => ?_) ?_
   ·replace har := har.mono lF
    replace hcr := hcr.mono lF
    replace hf1 := hf1.mono lF
    replace hC := hC.mono lF
    replace ha1 := ha1.mono lF
    replace ha2 := ha2.mono lF
    replace hrg1 := fun L9 j9 u9 h9 => Rd.mono (hrg1 L9 j9 u9 h9) lF
    rw [zA 6 (z9 6 rfl)]
    refine qk (qm qX rfl (hrg1 _ 0 _ rfl) ?_)
    exact ⟨rfl, rfl⟩
   refine gD (fun W Fs R lF z9 => ?_) ?_
   ·replace har := har.mono lF
    replace hcr := hcr.mono lF
    replace hf1 := hf1.mono lF
    replace hC := hC.mono lF
    replace ha1 := ha1.mono lF
    replace ha2 := ha2.mono lF
    replace hrg1 := fun L9 j9 u9 h9 => Rd.mono (hrg1 L9 j9 u9 h9) lF
    rw [zA 7 (z9 7 rfl)]
    refine qk (jR <| qn (args := [a1]) call31 rfl (l1Copy_spec ha1 (hlt := (by first | assumption | rfl | omega | simp))) ?_)
    rintro v5 _ _ _ ⟨rfl, hs4, rfl⟩
    refine ⟨_, _, rfl, fun F2 le2 hz2 => ?_⟩
    replace har := har.mono le2
    replace hcr := hcr.mono le2
    replace hf1 := hf1.mono le2
    replace hC := hC.mono le2
    replace ha2 := ha2.mono le2
    replace hrg1 := fun L9 j9 u9 h9 => Rd.mono (hrg1 L9 j9 u9 h9) le2
    have hf2 : IntsF F2 v5 ((((cr.getD k ([], [], [])).1))) := intsH.fz (xs := (((cr.getD k ([], [], [])).1))) hz2.fz
    exact ⟨⟨rfl, hf2⟩, rfl⟩
   refine gD (fun W Fs R lF z9 => ?_) ?_
   ·refine qk (qq (1) qF rfl jp (by decide) rfl rfl ?_)
    exact ⟨rfl, rfl⟩
   refine gD (fun W Fs R lF z9 => ?_) ?_
   ·replace har := har.mono lF
    replace hcr := hcr.mono lF
    replace hf1 := hf1.mono lF
    replace hC := hC.mono lF
    replace ha2 := ha2.mono lF
    replace hrg1 := fun L9 j9 u9 h9 => Rd.mono (hrg1 L9 j9 u9 h9) lF
    rw [zA 9 (z9 9 rfl)]
    refine qk (qm jz rfl (Rd.own [_, _, _] rfl rfl) ?_)
    exact ⟨rfl, rfl⟩
   refine gD (fun W Fs R lF z9 => ?_) ?_
   ·refine qk (qo (ii ((k : Int))) rfl ?_)
    exact ⟨rfl, rfl⟩
   refine gD (fun W Fs R lF z9 => ?_) ?_
   ·replace har := har.mono lF
    replace hcr := hcr.mono lF
    replace hf1 := hf1.mono lF
    replace hC := hC.mono lF
    replace ha2 := ha2.mono lF
    replace hrg1 := fun L9 j9 u9 h9 => Rd.mono (hrg1 L9 j9 u9 h9) lF
    rw [zB 10 11 (z9 10 rfl) (z9 11 rfl)]
    refine qk (qD k qU jv rfl rfl rfl hcr.slv (by omega) rfl ?_)
    exact ⟨rfl, rfl⟩
   refine gD (fun W Fs R lF z9 => ?_) ?_
   ·rw [zA 12 (z9 12 rfl)]
    refine qk (jV (k * 3 + 1) qR rfl qy (by decide) rfl rfl ?_)
    exact ⟨rfl, rfl⟩
   refine gD (fun W Fs R lF z9 => ?_) ?_
   ·replace har := har.mono lF
    replace hf1 := hf1.mono lF
    replace hC := hC.mono lF
    replace ha2 := ha2.mono lF
    replace hrg1 := fun L9 j9 u9 h9 => Rd.mono (hrg1 L9 j9 u9 h9) lF
    rw [zA 13 (z9 13 rfl)]
    refine qk (qm qX rfl (hrg1 _ 1 _ rfl) ?_)
    exact ⟨rfl, rfl⟩
   refine gD (fun W Fs R lF z9 => ?_) ?_
   ·replace har := har.mono lF
    replace hf1 := hf1.mono lF
    replace hC := hC.mono lF
    replace ha2 := ha2.mono lF
    rw [zA 14 (z9 14 rfl)]
    refine qk (jR <| qn (args := [a2]) call31 rfl (l1Copy_spec ha2 (hlt := (by first | assumption | rfl | omega | simp))) ?_)
    rintro v6 _ _ _ ⟨rfl, hs5, rfl⟩
    refine ⟨_, _, rfl, fun F3 le3 hz3 => ?_⟩
    replace hf1 := hf1.mono le3
    replace hC := hC.mono le3
    have hf3 : IntsF F3 v6 ((((cr.getD k ([], [], [])).2.1))) := intsH.fz (xs := (((cr.getD k ([], [], [])).2.1))) hz3.fz
    exact ⟨⟨rfl, hf3⟩, rfl⟩
   refine gD (fun W Fs R lF z9 => ?_) ?_
   ·obtain ⟨e8, f8_1ha⟩ := z9 8 rfl
    obtain ⟨e15, f15_1ha⟩ := z9 15 rfl
    replace hf1 := hf1.mono lF
    replace hC := hC.mono lF
    rw [eS (l := [(8, ((W 8))), (15, ((W 15)))]) ⟨(e8).symm, (e15).symm, ⟨⟩⟩]
    refine qk (jk [((W 8)), ((W 15))] [sN, sN] [(0, 1), (1, 1)] [(0, [((W 8))]), (1, [((W 15))])] jB zeroValue44 rfl (.cons rfl qy (.cons rfl qy PlacesAre.nil)) rfl (.cons (cells_one (qv f8_1ha)) (.cons (cells_one (qv f15_1ha)) CellsAre.nil)) ?_)
    exact ⟨rfl, rfl⟩
   refine gD (fun W Fs R lF z9 => ?_) ?_
   ·obtain ⟨e8, f8_1ha⟩ := z9 8 rfl
    obtain ⟨e15, f15_1ha⟩ := z9 15 rfl
    have e16 : W 16 = (.agg #[((W 8)), ((W 15))] : Value) := z9 16 rfl
    replace hf1 := hf1.mono lF
    replace hC := hC.mono lF
    rw [eS (l := [(8, ((W 8))), (15, ((W 15))), (16, (.agg #[((W 8)), ((W 15))]))]) ⟨(e8).symm, (e15).symm, e16, ⟨⟩⟩]
    refine qk (qx (s := 2) [((W 8)), ((W 15))] [sN, sN] [(0, [((W 8)), ((W 15))])] jZ sizeOf44 zeroValue44 rfl (by decide) rfl (.cons rfl CellsAre.nil) rfl ?_)
    intro v7 hv2
    exact ⟨hv2, rfl⟩
   exact stepsG.nil
  intro W F4 le4 hphi
  obtain ⟨e8, f8_1ha⟩ := hphi 8 (by decide)
  obtain ⟨e15, f15_1ha⟩ := hphi 15 (by decide)
  have e16 : W 16 = (.agg #[((W 8)), ((W 15))] : Value) := hphi 16 (by decide)
  have f17 : ∃ b, (W 17) = .slice (some ⟨b, 0, none⟩) 1 1 := hphi 17 (by decide)
  generalize hu1 : ((W 8)) = u1 at e8 f8_1ha e15 f15_1ha e16 f17
  generalize hu2 : ((W 15)) = u2 at e8 f8_1ha e15 f15_1ha e16 f17
  generalize huu17 : W 17 = u3 at e8 f8_1ha e15 f15_1ha e16 f17
  rw [eS (l := [(1, _), (8, u1), (15, u2), (17, u3)]) ⟨(hphi 1 (by decide)), hu1, hu2, huu17, ⟨⟩⟩]
  replace hf1 := hf1.mono le4
  replace hC := hC.mono le4
  show XL _ _ _ _ _ _ _ (slH 44 2 u3 1 [u1, u2] :: slH 44 2 ov m cs :: cellsH b3 [v1, ov] 40 :: cellsH b2 [sN, sN] 40 :: cellsH b1 [arv, crv] 29 :: L)
  refine cX (XOp.append (m := 1) (bytes := 48) (cs := cs) [_] _ [u1, u2] jZ typeInfo44 rfl rfl rfl rfl rfl rfl rfl (SlV.own [] rfl) rfl (Rd.lit [] rfl) (qw (qJ (qv f8_1ha)) (qw (qJ (qv f15_1ha)) qT)) (by (try simp only [List.length_append, List.length_nil, List.length_cons, List.length_singleton]); omega) (by (try simp only [List.length_append, List.length_nil, List.length_cons, List.length_singleton]); omega) ?_)
  intro v8 hs6 hn1 hm1
  have hc1 := PairsC.snoc hC f8_1ha f15_1ha
  refine cX (qq (1) ju rfl yb (by decide) rfl rfl (cX (jL [_, _] _ [v1, v8] yb rfl rfl (qJ hs6) rfl rfl rfl (qf (qd (qi (ii ((k : Int))) rfl (cX (qS (((k + 1 : Nat) : Int)) rfl rfl (by omega) (by omega) (qj (ii (((k + 1 : Nat) : Int))) rfl (qf ?_))))))))))
  exact ⟨(k + 1, v8, os ++ [((((cr.getD k ([], [], [])).1)), (((cr.getD k ([], [], [])).2.1)))], cs ++ [u1, u2], (m) + 1, F4), _, (qc leG1 le4), rF, ⟨rfl, rfl, rfl, rfl, ⟨⟩⟩, (sD (sC (sC (sC (sC sR))))), ⟨rfl, (qc leG1 le4), (hs6), (hc1), (by (try dsimp only); rw [List.length_append]; simp only [List.length_singleton]; omega), (by (try dsimp only) <;> omega), (by (try dsimp only); rw [hos, plainRs_take (by omega)]), (by (try dsimp only); rw [List.length_append]; simp only [List.length_singleton]; omega), (fun i hi => (Nat.lt_or_ge i k).elim (fun h => hnc i h) (fun h => by obtain rfl : i = k := (by omega); omega))⟩, (by omega)⟩
 refine jn (qA (qA (qV (qg (qd (cX (qs [v1, ov] isAgg40 jU rfl rfl (Rd.ownN [_] rfl rfl) (cX (qO [_, _] _ [v1, ov] jU rfl rfl rfl (qw (qJ (qv hf1)) (qw (qJ hov) qT)) rfl rfl rfl (qj (.bool (true)) rfl (qf (ji [] _ _ rfl (fun F5 le5 hz4 => ?_)))))))))))))
 replace hf1 := hf1.mono le5
 replace hC := hC.mono le5
 have hf4 : PairsF F5 ov os := CO.fz hC (by first | rfl | omega | (rw [List.length_set]; omega) | (simp; done)) hz4.fz
 refine qu (qt (L' := L) [.agg #[v1, ov], .bool (true)] (.tuple #[.agg #[v1, ov], .bool (true)]) (.cell rfl (jt [v1, ov] isAgg40 jU rfl (Rd.ownN [_] rfl rfl)) (.tmp rfl .nil)) rfl (qc (qc le1 leG1) le5) rF (sD (sD (sD sR))) ?_)
 have hpb : plainB ar cr = true := plainB_yes hcs (fun i hi => hnc i (by omega))
 have e9 : os = plainRs cr := by rw [hos, List.take_of_length_le (by omega)]
 subst e9
 exact ⟨_, _, by rw [hpb] <;> rfl, by rw [hpb]; exact hf1, by rw [hpb]; exact hf4, rfl⟩

/- impl.HeldIn -/
theorem HeldIn_spec {F : FH} {L : List HP} {arv : Value} {ar : List Int} (har : IntsF F arv ar) {crv : Value} {cr : List CRuleT} (hcr : CRulesF F crv cr) {r : Int} {q : Int} (hq0 : 0 ≤ q) (hrn : (cr.getD r.toNat ([], [], [])).2.2.length = 0) :
    Does prog 16 [.agg #[arv, crv], ii (r), ii (q)] F (L) (fun v F' L' => ∃ (a : Value), (a : Value) = v ∧ (IntsF F' a ([] : List Int)) ∧ L = L') := by
 refine qL func16 rfl rfl rfl (qg (qd (cX (je [arv, crv] rfl rfl ?_))))
 intro b1
 refine qj (sN) rfl (qf (qg (qg (qd (cX (qs [arv, crv] qY qK rfl rfl (Rd.ownN [] rfl rfl) (cX (qn (args := [.agg #[arv, crv]]) call29 rfl (CSystemOk_spec har hcr) ?_))))))))
 rintro _ _ _ _ ⟨rfl, rfl, rfl⟩
 refine cX (jg rfl (qi (.bool (!(csysOk ar cr))) rfl ?_))
 by_cases h1 : (!(csysOk ar cr)) = true
 ·refine qp (t := 10) rfl (vB h1) (qp (t := 10) rfl (vB h1) (cX (qN (.bool (true)) (vB h1) rfl (qi (.bool (true)) rfl (qp (t := 14) rfl rfl (qp (t := 14) rfl rfl (qp (t := 14) rfl rfl (qp (t := 14) rfl rfl (qp (t := 14) rfl rfl (cX (qN (.bool (true)) rfl rfl ?_)))))))))))
  refine qi (.bool (true)) rfl (qp (t := 21) rfl rfl (qp (t := 21) rfl rfl (cX (qN (.bool (true)) rfl rfl (qi (.bool (true)) rfl (qp (t := 25) rfl rfl (qp (t := 25) rfl rfl (qp (t := 25) rfl rfl (qp (t := 25) rfl rfl (qp (t := 25) rfl rfl ?_))))))))))
  refine qp (t := 25) rfl rfl (qp (t := 25) rfl rfl (qp (t := 25) rfl rfl (qp (t := 25) rfl rfl (cX (qN (.bool (true)) rfl rfl (qf (jH rfl (qg (qd (qj (sN) rfl (qf ?_)))))))))))
  refine qu (ql (qt (L' := L) [sN] (sN) (.tmp rfl .nil) rfl rF rF (sD sR) ?_))
  exact ⟨_, rfl, IntsF.nilV, rfl⟩
 rw [Bool.not_eq_true] at h1
 refine qr (t := 10) rfl (vB h1) (qo (ii (r)) rfl (qr (t := 10) rfl (vB h1) (jb rfl rfl (cX (qM (.bool (decide ((r : Int) < 0))) (vB h1) rfl (qi (.bool (decide ((r : Int) < 0))) rfl ?_))))))
 by_cases h2 : (r : Int) < 0
 ·refine qp (t := 14) rfl (vT h2) (qp (t := 14) rfl (vT h2) (qp (t := 14) rfl (vT h2) (qp (t := 14) rfl (vT h2) (qp (t := 14) rfl (vT h2) (cX (qN (.bool (true)) (vT h2) rfl (qi (.bool (true)) rfl (qp (t := 21) rfl rfl (qp (t := 21) rfl rfl (cX (qN (.bool (true)) rfl rfl ?_)))))))))))
  refine qi (.bool (true)) rfl (qp (t := 25) rfl rfl (qp (t := 25) rfl rfl (qp (t := 25) rfl rfl (qp (t := 25) rfl rfl (qp (t := 25) rfl rfl (qp (t := 25) rfl rfl (qp (t := 25) rfl rfl (qp (t := 25) rfl rfl (qp (t := 25) rfl rfl ?_)))))))))
  refine cX (qN (.bool (true)) rfl rfl (qf (jH rfl (qg (qd (qj (sN) rfl (qf (qu (ql (qt (L' := L) [sN] (sN) (.tmp rfl .nil) rfl rF rF (sD sR) ?_))))))))))
  exact ⟨_, rfl, IntsF.nilV, rfl⟩
 refine qr (t := 14) rfl (vF h2) (qo (ii (r)) rfl (qr (t := 14) rfl (vF h2) (qq (1) qF rfl jp (by decide) rfl rfl (qr (t := 14) rfl (vF h2) (qm jz rfl (Rd.own [] rfl rfl) (qr (t := 14) rfl (vF h2) (qE qU rfl hcr.slv (qr (t := 14) rfl (vF h2) (jW rfl rfl (cX (qM (.bool (decide ((r : Int) ≥ (cr.length : Int)))) (vF h2) rfl (qi (.bool (decide ((r : Int) ≥ (cr.length : Int)))) rfl ?_))))))))))))
 by_cases h3 : (r : Int) ≥ (cr.length : Int)
 ·refine qp (t := 21) rfl (vT h3) (qp (t := 21) rfl (vT h3) (cX (qN (.bool (true)) (vT h3) rfl (qi (.bool (true)) rfl (qp (t := 25) rfl rfl (qp (t := 25) rfl rfl (qp (t := 25) rfl rfl (qp (t := 25) rfl rfl (qp (t := 25) rfl rfl (qp (t := 25) rfl rfl ?_))))))))))
  refine qp (t := 25) rfl rfl (qp (t := 25) rfl rfl (qp (t := 25) rfl rfl (cX (qN (.bool (true)) rfl rfl (qf (jH rfl (qg (qd (qj (sN) rfl (qf (qu (ql (qt (L' := L) [sN] (sN) (.tmp rfl .nil) rfl rF rF (sD sR) ?_)))))))))))))
  exact ⟨_, rfl, IntsF.nilV, rfl⟩
 refine qr (t := 21) rfl (vF h3) (qo (ii (q)) rfl (qr (t := 21) rfl (vF h3) (jb rfl rfl (cX (qM (.bool (decide ((q : Int) < 0))) (vF h3) rfl (qi (.bool (decide ((q : Int) < 0))) rfl ?_))))))
 by_cases h4 : (q : Int) < 0
 ·refine qp (t := 25) rfl (vT h4) (qp (t := 25) rfl (vT h4) (qp (t := 25) rfl (vT h4) (qp (t := 25) rfl (vT h4) (qp (t := 25) rfl (vT h4) (qp (t := 25) rfl (vT h4) (qp (t := 25) rfl (vT h4) (qp (t := 25) rfl (vT h4) (qp (t := 25) rfl (vT h4) (cX (qN (.bool (true)) (vT h4) rfl ?_))))))))))
  refine qf (jH rfl (qg (qd (qj (sN) rfl (qf (qu (ql (qt (L' := L) [sN] (sN) (.tmp rfl .nil) rfl rF rF (sD sR) ?_))))))))
  exact ⟨_, rfl, IntsF.nilV, rfl⟩
 refine qr (t := 25) rfl (vF h4) (qo (ii (q)) rfl (qr (t := 25) rfl (vF h4) (qq (1) qF rfl jp (by decide) rfl rfl (qr (t := 25) rfl (vF h4) (qm jz rfl (Rd.own [] rfl rfl) (qr (t := 25) rfl (vF h4) (qo (ii (r)) rfl (qr (t := 25) rfl (vF h4) (qD ((r).toNat) qU jv rfl rfl (by omega) hcr.slv (by omega) rfl (qr (t := 25) rfl (vF h4) (jV (((r).toNat) * 3 + 2) qR rfl jx (by decide) rfl rfl ?_)))))))))))
 obtain ⟨a1, a2, a3, ha1, ha2, ha3, hrg1, hq1⟩ := hcr.rd (i := (r).toNat) (by omega)
 refine qr (t := 25) rfl (vF h4) (qm isAgg49 rfl (hrg1 _ 2 _ rfl) (qr (t := 25) rfl (vF h4) (qE jh rfl ha3.slv (qr (t := 25) rfl (vF h4) (jW rfl rfl (cX (qM (.bool (decide ((q : Int) ≥ ((((cr.getD ((r).toNat) ([], [], [])).2.2).length : Nat) : Int)))) (vF h4) rfl (qf ?_))))))))
 refine qH (p := (q : Int) ≥ ((((cr.getD ((r).toNat) ([], [], [])).2.2).length : Nat) : Int)) rfl (fun h5 => ?_) (fun h5 => ?_)
 ·refine qg (qd (qj (sN) rfl (qf (qu (ql (qt (L' := L) [sN] (sN) (.tmp rfl .nil) rfl rF rF (sD sR) ?_))))))
  exact ⟨_, rfl, IntsF.nilV, rfl⟩
 exact absurd h5 (by omega)

/- laws.FnConditions -/
set_option maxHeartbeats 2000000 in
set_option maxRecDepth 20000 in
theorem FnConditions_does {F : FH} {L : List HP} {bsv : Value} {bs : List Int} (hbs : BytesF F bsv bs) (hlb : bs.length ≤ 9223372036854775807) :
    Does prog 3 [bsv] F (L) (fun v F' L' => (.bool (true) : Value) = v ∧ F = F' ∧ L = L') := by
 refine qL func3 rfl rfl rfl (qg (qd (qj (.bool (false)) rfl (qf (qg (qg (qd (qi (bsv) rfl (cX (qn (args := [bsv]) call4 rfl (big_spec hbs) ?_))))))))))
 rintro _ _ _ _ ⟨rfl, rfl, rfl⟩
 refine qf ?_
 refine qH (p := (bs.length : Int) > 4096) rfl (fun h1 => ?_) (fun h1 => ?_)
 ·refine qg (qd (qj (.bool (true)) rfl (qf (qu (ql (qt (L' := L) [.bool (true)] (.bool (true)) (.tmp rfl .nil) rfl rF rF sR ?_))))))
  exact ⟨(vB ((by first | rfl | exact hp3.symm))), rfl, rfl⟩
 have hbl2 : bs.length ≤ 4000000 := by omega
 refine qz (qg (qd (qi (bsv) rfl (cX (qn (args := [bsv]) call5 rfl (DrawCNormalBy_spec hbs (hbl := (by first | assumption | rfl | omega | simp))) ?_)))))
 rintro _ F1 _ le1 ⟨x1, x2, x3, x4, x5, x6, x7, rfl, hr1, hr2, hr3, hr4, hr5, hr6, hr7, rfl⟩
 replace hbs := hbs.mono le1
 have hrb1 := crulesS_bounds hr6
 refine qi (.tuple #[.agg #[x1, x2], x3, ii (x7)]) rfl (cX (qG (.agg #[x1, x2]) rfl rfl (cX (qG (x3) rfl rfl (cX (qG (ii (x7)) rfl rfl (cX (jm [sN, sN] jQ rfl ?_))))))))
 intro b1
 refine cX (qO [] _ [x1, x2] qK rfl rfl rfl (qw (qJ (qv hr1)) (qw (qJ (CRulesF.isSl hr2)) qT)) rfl rfl rfl (qj (x3) rfl (qj (ii (x7)) rfl (qf (qg (qd (cX (qs [x1, x2] qY qK rfl rfl (Rd.ownN [] rfl rfl) (qi (x3) rfl (qi (ii (x7)) rfl (cX (qn (args := [.agg #[x1, x2], x3, ii (x7)]) call6 rfl (CNormalBy_spec (z := x7) hr1 hr2 hr3) ?_))))))))))))
 rintro _ F2 _ le2 ⟨x8, rfl, hr8, hr9, rfl⟩
 replace hbs := hbs.mono le2
 replace hr1 := hr1.mono le2
 replace hr2 := hr2.mono le2
 replace hr3 := hr3.mono le2
 refine qi (.tuple #[x8, .bool ((cnormF x4 x5 x6 x7).isSome)]) rfl (cX (qG (x8) rfl rfl (cX (qG (.bool ((cnormF x4 x5 x6 x7).isSome)) rfl rfl (qj (x8) rfl (qj (.bool ((cnormF x4 x5 x6 x7).isSome)) rfl (qf (qg (qd (cX (qs [x1, x2] qY qK rfl rfl (Rd.ownN [] rfl rfl) (qi (x3) rfl (qi (ii (x7)) rfl (cX (qn (args := [.agg #[x1, x2], x3, ii (x7)]) call7 rfl (sCNormalBy_spec (z := x7) hr1 hr2 hr3 (hla := (by omega)) (hlr := (by omega)) (hrb := (by first | exact hrb1 | exact hrb2)) (hlt := (by first | assumption | rfl | omega | simp))) ?_)))))))))))))))
 rintro _ F3 _ le3 ⟨x9, rfl, hr10, rfl⟩
 replace hbs := hbs.mono le3
 replace hr1 := hr1.mono le3
 replace hr2 := hr2.mono le3
 replace hr3 := hr3.mono le3
 replace hr8 := hr8.mono le3
 refine qi (.tuple #[x9, .bool ((cnormF x4 x5 x6 x7).isSome)]) rfl (cX (qG (x9) rfl rfl (cX (qG (.bool ((cnormF x4 x5 x6 x7).isSome)) rfl rfl (qj (x9) rfl (qj (.bool ((cnormF x4 x5 x6 x7).isSome)) rfl (qf (qg (qd (cX (qs [x1, x2] qY qK rfl rfl (Rd.ownN [] rfl rfl) (qi (x3) rfl (qi (ii (x7)) rfl (cX (qn (args := [.agg #[x1, x2], x3, ii (x7)]) call8 rfl (CPickBy_spec (z := x7) hr1 hr2 hr3) ?_)))))))))))))))
 rintro _ F4 _ le4 ⟨rfl, rfl⟩
 replace hbs := hbs.mono le4
 replace hr1 := hr1.mono le4
 replace hr2 := hr2.mono le4
 replace hr3 := hr3.mono le4
 replace hr8 := hr8.mono le4
 replace hr10 := hr10.mono le4
 refine qi (.tuple #[ii ((pickF x4 x5 x6 x7).1), ii ((pickF x4 x5 x6 x7).2.1), .bool ((pickF x4 x5 x6 x7).2.2)]) rfl (cX (qG (ii ((pickF x4 x5 x6 x7).1)) rfl rfl (cX (qG (ii ((pickF x4 x5 x6 x7).2.1)) rfl rfl (cX (qG (.bool ((pickF x4 x5 x6 x7).2.2)) rfl rfl (qj (ii ((pickF x4 x5 x6 x7).1)) rfl (qj (ii ((pickF x4 x5 x6 x7).2.1)) rfl (qj (.bool ((pickF x4 x5 x6 x7).2.2)) rfl (qf (qg (qd (cX (qs [x1, x2] qY qK rfl rfl (Rd.ownN [] rfl rfl) (qi (x3) rfl ?_)))))))))))))))
 refine qi (ii (x7)) rfl (cX (qn (args := [.agg #[x1, x2], x3, ii (x7)]) call9 rfl (sCPickBy_spec (z := x7) hr1 hr2 hr3 (hla := (by omega)) (hlr := (by omega)) (hrb := (by first | exact hrb1 | exact hrb2)) (hlt := (by first | assumption | rfl | omega | simp))) ?_))
 rintro _ F5 _ le5 ⟨rfl, rfl⟩
 replace hbs := hbs.mono le5
 replace hr1 := hr1.mono le5
 replace hr2 := hr2.mono le5
 replace hr8 := hr8.mono le5
 replace hr10 := hr10.mono le5
 refine qi (.tuple #[ii ((pickF x4 x5 x6 x7).1), ii ((pickF x4 x5 x6 x7).2.1), .bool ((pickF x4 x5 x6 x7).2.2)]) rfl (cX (qG (ii ((pickF x4 x5 x6 x7).1)) rfl rfl (cX (qG (ii ((pickF x4 x5 x6 x7).2.1)) rfl rfl (cX (qG (.bool ((pickF x4 x5 x6 x7).2.2)) rfl rfl (qj (ii ((pickF x4 x5 x6 x7).1)) rfl (qj (ii ((pickF x4 x5 x6 x7).2.1)) rfl (qj (.bool ((pickF x4 x5 x6 x7).2.2)) rfl (qf (qg (qg (qd (qi (.bool ((cnormF x4 x5 x6 x7).isSome)) rfl (qi (.bool ((cnormF x4 x5 x6 x7).isSome)) rfl ?_)))))))))))))))
 refine cX (XOp.neB (a := (cnormF x4 x5 x6 x7).isSome) (b := (cnormF x4 x5 x6 x7).isSome) runUnderlying4 rfl rfl (qi (.bool (decide (((cnormF x4 x5 x6 x7).isSome) ≠ ((cnormF x4 x5 x6 x7).isSome)))) rfl ?_))
 by_cases h2 : ((cnormF x4 x5 x6 x7).isSome) ≠ ((cnormF x4 x5 x6 x7).isSome)
 ·exact absurd rfl h2
 refine qr (t := 68) rfl (vF h2) (qo (x8) rfl (qr (t := 68) rfl (vF h2) (qo (x9) rfl (qr (t := 68) rfl (vF h2) (qn (args := [x8, x9]) call10 rfl (SameTerm_spec hr8 hr10 (hbd := (by first | exact .inl (Nat.le_trans cnormF_len (by decide)) | exact .inl (Nat.le_trans cstepF_len (by decide))))) ?_)))))
 rintro _ _ _ _ ⟨rfl, rfl, rfl⟩
 refine qr (t := 68) rfl (vF h2) (XOp.notD rfl (cX (qM (.bool (decide (¬(((cnormF x4 x5 x6 x7).getD []) = ((cnormF x4 x5 x6 x7).getD []))))) (vF h2) rfl (qi (.bool (decide (¬(((cnormF x4 x5 x6 x7).getD []) = ((cnormF x4 x5 x6 x7).getD []))))) rfl ?_))))
 by_cases h3 : ¬(((cnormF x4 x5 x6 x7).getD []) = ((cnormF x4 x5 x6 x7).getD []))
 ·exact absurd rfl h3
 refine qr (t := 74) rfl (vF h3) (qo (ii ((pickF x4 x5 x6 x7).1)) rfl (qr (t := 74) rfl (vF h3) (qo (ii ((pickF x4 x5 x6 x7).1)) rfl (qr (t := 74) rfl (vF h3) (XOp.neq rfl rfl (cX (qM (.bool (decide (((pickF x4 x5 x6 x7).1 : Int) ≠ (pickF x4 x5 x6 x7).1))) (vF h3) rfl (qi (.bool (decide (((pickF x4 x5 x6 x7).1 : Int) ≠ (pickF x4 x5 x6 x7).1))) rfl ?_))))))))
 by_cases h4 : ((pickF x4 x5 x6 x7).1 : Int) ≠ (pickF x4 x5 x6 x7).1
 ·exact absurd rfl h4
 refine qr (t := 79) rfl (vF h4) (qo (ii ((pickF x4 x5 x6 x7).2.1)) rfl (qr (t := 79) rfl (vF h4) (qo (ii ((pickF x4 x5 x6 x7).2.1)) rfl (qr (t := 79) rfl (vF h4) (XOp.neq rfl rfl (cX (qM (.bool (decide (((pickF x4 x5 x6 x7).2.1 : Int) ≠ (pickF x4 x5 x6 x7).2.1))) (vF h4) rfl (qi (.bool (decide (((pickF x4 x5 x6 x7).2.1 : Int) ≠ (pickF x4 x5 x6 x7).2.1))) rfl ?_))))))))
 by_cases h5 : ((pickF x4 x5 x6 x7).2.1 : Int) ≠ (pickF x4 x5 x6 x7).2.1
 ·exact absurd rfl h5
 refine qr (t := 84) rfl (vF h5) (qo (.bool ((pickF x4 x5 x6 x7).2.2)) rfl (qr (t := 84) rfl (vF h5) (qo (.bool ((pickF x4 x5 x6 x7).2.2)) rfl (qr (t := 84) rfl (vF h5) (XOp.neB (a := (pickF x4 x5 x6 x7).2.2) (b := (pickF x4 x5 x6 x7).2.2) runUnderlying4 rfl rfl (cX (qM (.bool (decide (((pickF x4 x5 x6 x7).2.2) ≠ ((pickF x4 x5 x6 x7).2.2)))) (vF h5) rfl (qf ?_))))))))
 refine qH (p := ((pickF x4 x5 x6 x7).2.2) ≠ ((pickF x4 x5 x6 x7).2.2)) rfl (fun h6 => ?_) (fun h6 => ?_)
 ·exact absurd rfl h6
 refine qz (qg (qd (qi (bsv) rfl (cX (qn (args := [bsv]) call11 rfl (DrawPlainSystem_spec hbs (hbl := (by first | assumption | rfl | omega | simp))) ?_)))))
 rintro _ F6 _ le6 ⟨x10, x11, x12, x13, rfl, hr11, hr12, hr13, hr14, hr15, rfl⟩
 replace hbs := hbs.mono le6
 replace hr1 := hr1.mono le6
 replace hr2 := hr2.mono le6
 have hrb2 := crulesS_bounds hr15
 refine cX (jm [sN, sN] jQ rfl ?_)
 intro b2
 refine cX (qO [] _ [x10, x11] qK rfl rfl rfl (qw (qJ (qv hr11)) (qw (qJ (CRulesF.isSl hr12)) qT)) rfl rfl rfl (qf (qg (qd (cX (qs [x10, x11] qY qK rfl rfl (Rd.ownN [] rfl rfl) (cX (qn (args := [.agg #[x10, x11]]) call12 rfl (PlainSystem_spec hr11 hr12) ?_))))))))
 rintro _ F7 _ le7 ⟨x14, x15, rfl, hr16, hr17, rfl⟩
 replace hbs := hbs.mono le7
 replace hr1 := hr1.mono le7
 replace hr2 := hr2.mono le7
 replace hr11 := hr11.mono le7
 replace hr12 := hr12.mono le7
 refine qi (.tuple #[.agg #[x14, x15], .bool (plainB x12 x13)]) rfl (cX (qG (.agg #[x14, x15]) rfl rfl (cX (qG (.bool (plainB x12 x13)) rfl rfl (cX (jm [sN, sN] zeroValue40 rfl ?_))))))
 intro b3
 refine cX (qO [] _ [x14, x15] jU rfl rfl rfl (qw (qJ (qv hr16)) (qw (qJ (PairsF.isSl hr17)) qT)) rfl rfl rfl (qj (.bool (plainB x12 x13)) rfl (qf (qg (qd (cX (qs [x10, x11] qY qK rfl rfl (Rd.ownN [_] rfl rfl) (cX (qn (args := [.agg #[x10, x11]]) call13 rfl (sPlainSystem_spec hr11 hr12 (hla := (by omega)) (hlr := (by omega)) (hrb := (by first | exact hrb1 | exact hrb2))) ?_)))))))))
 rintro _ F8 _ le8 ⟨x16, x17, rfl, hr18, hr19, rfl⟩
 replace hbs := hbs.mono le8
 replace hr1 := hr1.mono le8
 replace hr2 := hr2.mono le8
 replace hr11 := hr11.mono le8
 replace hr12 := hr12.mono le8
 replace hr16 := hr16.mono le8
 replace hr17 := hr17.mono le8
 refine qi (.tuple #[.agg #[x16, x17], .bool (plainB x12 x13)]) rfl (cX (qG (.agg #[x16, x17]) rfl rfl (cX (qG (.bool (plainB x12 x13)) rfl rfl (cX (jm [sN, sN] zeroValue40 rfl ?_))))))
 intro b4
 refine cX (qO [] _ [x16, x17] jU rfl rfl rfl (qw (qJ (qv hr18)) (qw (qJ (PairsF.isSl hr19)) qT)) rfl rfl rfl (qj (.bool (plainB x12 x13)) rfl (qf (qg (qg (qd (qi (.bool (plainB x12 x13)) rfl (qi (.bool (plainB x12 x13)) rfl (cX (XOp.neB (a := plainB x12 x13) (b := plainB x12 x13) runUnderlying4 rfl rfl (qf ?_)))))))))))
 refine qH (p := (plainB x12 x13) ≠ (plainB x12 x13)) rfl (fun h7 => ?_) (fun h7 => ?_)
 ·exact absurd rfl h7
 refine qz (qg (qg (qd (qi (.bool (plainB x12 x13)) rfl (qf ?_)))))
 refine js (t := plainB x12 x13) rfl (fun h8 => ?_) (fun h8 => ?_)
 ·have hpb : plainB x12 x13 = true := h8
  have hpl9 : (plainRs x13).length = x13.length := plainRs_len
  have hpc9 := (csysOk_iff.1 (plainB_iff.1 hpb).1).2.1
  have hpR := fun i (hi : i < x13.length) => csysOk_at (plainB_iff.1 hpb).1 hi
  rw [if_pos hpb] at hr16
  rw [if_pos hpb] at hr17
  rw [if_pos hpb] at hr18
  rw [if_pos hpb] at hr19
  refine qg (qd (qj (ii (0)) rfl (qf (qQ (jr (α := Nat) (fun i => [(3, ptr b1 0), (5, ii (x7)), (11, ii ((pickF x4 x5 x6 x7).2.1)), (12, .bool ((pickF x4 x5 x6 x7).2.2)), (14, ii ((pickF x4 x5 x6 x7).2.1)), (16, ptr b2 0), (17, ptr b3 0), (21, ii ((i : Int)))]) (fun i => cellsH b4 [x16, x17] 40 :: cellsH b3 [x14, x15] 40 :: cellsH b2 [x10, x11] 29 :: cellsH b1 [x1, x2] 29 :: L) (fun i F' => F8 = F' ∧ (i ≤ x13.length)) (fun i => x13.length - i) 0 ⟨rfl, rfl, rfl, rfl, rfl, rfl, rfl, rfl, ⟨⟩⟩ (sC (sC (sC (sC sR)))) ⟨rfl, (Nat.zero_le _)⟩ ?_)))))
  rintro i rE _ _ ⟨rfl, hi⟩
  show X _ _ _ _ (envs [(3, ptr b1 0), (5, ii (x7)), (11, ii ((pickF x4 x5 x6 x7).2.1)), (12, .bool ((pickF x4 x5 x6 x7).2.2)), (14, ii ((pickF x4 x5 x6 x7).2.1)), (16, ptr b2 0), (17, ptr b3 0), (21, ii ((i : Int)))] rE) _ (cellsH b4 [x16, x17] 40 :: cellsH b3 [x14, x15] 40 :: cellsH b2 [x10, x11] 29 :: cellsH b1 [x1, x2] 29 :: L)
  refine qg (qg (qd (qi (ii ((i : Int))) rfl (cX (qq (1) ju rfl yb (by decide) rfl rfl (cX (qm isAgg38 rfl (Rd.own [_] rfl rfl) (cX (qE jZ rfl hr17.slv (cX (jb rfl rfl (qf ?_))))))))))))
  refine qH (p := (i : Int) < (((plainRs x13).length : Nat) : Int)) rfl (fun h9 => ?_) (fun h9 => ?_)
  ·refine qz (qg (qQ (qg (qd (cX (qq (1) ju rfl yb (by decide) rfl rfl (cX (qm isAgg38 rfl (Rd.own [_] rfl rfl) (qi (ii ((i : Int))) rfl (cX (qD i jZ sizeOf44 rfl rfl rfl hr17.slv (by omega) rfl (cX (jV (i * 2) jB rfl qy (by decide) rfl rfl ?_)))))))))))))
   obtain ⟨a1, a2, ha1, ha2, hr20, hr21⟩ := hr17.rd (i := i) (by omega)
   refine cX (qm qX rfl (hr20 _) (qj (a1) rfl ?_))
   have hps := plain_step (i := i) hpb (by omega)
   have hpg := plainRs_get (cr := x13) (i := i) (by omega)
   have hpt : ((plainRs x13).getD i ([], [])).1.length ≤ 60 := by rw [hpg]; exact (termOk_len (hpR i (by omega)).left).2
   refine qf (qg (qd (cX (qs [x10, x11] qY qK rfl rfl (Rd.ownN [_, _] rfl rfl) (qi (a1) rfl (qi (ii ((i : Int))) rfl (cX (qn (args := [.agg #[x10, x11], a1, ii (0), ii ((i : Int)), ii (0)]) call14 rfl (CStepAt_spec (p := 0) (r := (i : Int)) (z := 0) hr11 hr12 ha1) ?_))))))))
   rintro _ F9 _ le9 ⟨x18, rfl, hr22, hr23, rfl⟩
   replace hbs := hbs.mono le9
   replace hr1 := hr1.mono le9
   replace hr2 := hr2.mono le9
   replace hr16 := hr16.mono le9
   replace hr17 := hr17.mono le9
   replace ha1 := ha1.mono le9
   refine qi (.tuple #[x18, .bool ((cstepF x12 x13 (((plainRs x13).getD i ([], [])).1) 0 ((i : Int)) 0).isSome)]) rfl (cX (qG (x18) rfl rfl (cX (qG (.bool ((cstepF x12 x13 (((plainRs x13).getD i ([], [])).1) 0 ((i : Int)) 0).isSome)) rfl rfl (qj (x18) rfl (qj (.bool ((cstepF x12 x13 (((plainRs x13).getD i ([], [])).1) 0 ((i : Int)) 0).isSome)) rfl (qf (qg (qd (cX (qs [x14, x15] isAgg40 jU rfl rfl (Rd.ownN [_] rfl rfl) (qi (a1) rfl (qi (ii ((i : Int))) rfl (cX (qn (args := [.agg #[x14, x15], a1, ii (0), ii ((i : Int))]) call15 rfl (sStepAt_spec (p := 0) (r := (i : Int)) hr16 hr17 ha1 (hla := (by omega)) (hlr := (by omega)) (hrb := (fun j hj => by have h9 := hpR j (by omega); rw [plainRs_get (by omega)]; have := termOk_len h9.left; have := termOk_len h9.right; dsimp only; omega)) (hlt := (by omega))) ?_)))))))))))))))
   rintro _ F10 _ le10 ⟨x19, rfl, hr24, rfl⟩
   replace hbs := hbs.mono le10
   replace hr1 := hr1.mono le10
   replace hr2 := hr2.mono le10
   replace hr22 := hr22.mono le10
   refine qi (.tuple #[x19, .bool ((stepAtL x12 (plainRs x13) (((plainRs x13).getD i ([], [])).1) 0 ((i : Int))).isSome)]) rfl (cX (qG (x19) rfl rfl (cX (qG (.bool ((stepAtL x12 (plainRs x13) (((plainRs x13).getD i ([], [])).1) 0 ((i : Int))).isSome)) rfl rfl (qj (x19) rfl (qj (.bool ((stepAtL x12 (plainRs x13) (((plainRs x13).getD i ([], [])).1) 0 ((i : Int))).isSome)) rfl (qf (qg (qd (qi (.bool ((cstepF x12 x13 (((plainRs x13).getD i ([], [])).1) 0 ((i : Int)) 0).isSome)) rfl (qi (.bool ((stepAtL x12 (plainRs x13) (((plainRs x13).getD i ([], [])).1) 0 ((i : Int))).isSome)) rfl (cX (XOp.neB (a := (cstepF x12 x13 (((plainRs x13).getD i ([], [])).1) 0 ((i : Int)) 0).isSome) (b := (stepAtL x12 (plainRs x13) (((plainRs x13).getD i ([], [])).1) 0 ((i : Int))).isSome) runUnderlying4 rfl rfl (qi (.bool (decide (((cstepF x12 x13 (((plainRs x13).getD i ([], [])).1) 0 ((i : Int)) 0).isSome) ≠ ((stepAtL x12 (plainRs x13) (((plainRs x13).getD i ([], [])).1) 0 ((i : Int))).isSome)))) rfl ?_))))))))))))))
   by_cases h10 : ((cstepF x12 x13 (((plainRs x13).getD i ([], [])).1) 0 ((i : Int)) 0).isSome) ≠ ((stepAtL x12 (plainRs x13) (((plainRs x13).getD i ([], [])).1) 0 ((i : Int))).isSome)
   ·exact absurd (by rw [hps]) h10
   refine qr (t := 135) rfl (vF h10) (qo (x18) rfl (qr (t := 135) rfl (vF h10) (qo (x19) rfl (qr (t := 135) rfl (vF h10) (qn (args := [x18, x19]) call10 rfl (SameTerm_spec hr22 hr24 (hbd := (by first | exact .inl (Nat.le_trans cnormF_len (by decide)) | exact .inl (Nat.le_trans cstepF_len (by decide))))) ?_)))))
   rintro _ _ _ _ ⟨rfl, rfl, rfl⟩
   refine qr (t := 135) rfl (vF h10) (XOp.notD rfl (cX (qM (.bool (decide (¬(((cstepF x12 x13 (((plainRs x13).getD i ([], [])).1) 0 ((i : Int)) 0).getD []) = ((stepAtL x12 (plainRs x13) (((plainRs x13).getD i ([], [])).1) 0 ((i : Int))).getD []))))) (vF h10) rfl (qf ?_))))
   refine qH (p := ¬(((cstepF x12 x13 (((plainRs x13).getD i ([], [])).1) 0 ((i : Int)) 0).getD []) = ((stepAtL x12 (plainRs x13) (((plainRs x13).getD i ([], [])).1) 0 ((i : Int))).getD []))) rfl (fun h11 => ?_) (fun h11 => ?_)
   ·exact absurd (by rw [hps]) h11
   refine qz (qd (qi (ii ((i : Int))) rfl (cX (qS (((i + 1 : Nat) : Int)) rfl rfl (by omega) (by omega) (qj (ii (((i + 1 : Nat) : Int))) rfl (qf ?_))))))
   exact ⟨i + 1, _, FLe.refl _, (qc le9 le10), ⟨rfl, rfl, rfl, rfl, rfl, rfl, rfl, rfl, ⟨⟩⟩, (sC (sC (sC (sC sR)))), ⟨rfl, (by (try dsimp only) <;> omega)⟩, (by omega)⟩
  refine jn (qA (qA (qV (qg ?_))))
  by_cases h12 : (!((pickF x4 x5 x6 x7).2.2)) = true
  ·refine X.draw [cellsH b4 [x16, x17] 40, cellsH b3 [x14, x15] 40, cellsH b2 [x10, x11] 29, cellsH b1 [x1, x2] 29] L 20 [] [[], [0], [1], [2], [2, 3], [2, 4], [5], [6], [6], [6, 7, 8], [6, 9], [6, 10], [6, 11], [12], [12, 13], [12], [12, 15], [12], [12, 16, 17], [12, 18]] (phiL [qe (.bool ((pickF x4 x5 x6 x7).2.2)), qe (.bool (!((pickF x4 x5 x6 x7).2.2))), qe (.bool (!((pickF x4 x5 x6 x7).2.2))), qe undef, qe undef, qe (.bool (true)), qe (.bool (true)), qe undef, qe undef, qe undef, qe undef, qe undef, qe undef, qe undef, qe undef, qe undef, qe undef, qe undef, qe undef, qe undef]) (ownL []) mixed rfl rfl (by kernel_rfl) ?_ ?_
   ·refine pD (fun W R z9 => ?_) ?_
    ·refine qk (qo (.bool ((pickF x4 x5 x6 x7).2.2)) rfl ?_)
     exact ⟨rfl, rfl, rfl⟩
    refine pD (fun W R z9 => ?_) ?_
    ·rw [zA 0 (z9 0 rfl)]
     refine qk (jg rfl ?_)
     exact ⟨rfl, rfl, rfl⟩
    refine pD (fun W R z9 => ?_) ?_
    ·rw [zA 1 (z9 1 rfl)]
     refine qk (qo (.bool (!((pickF x4 x5 x6 x7).2.2))) rfl ?_)
     exact ⟨rfl, rfl, rfl⟩
    refine pD (fun W R z9 => ?_) ?_
    ·rw [zA 2 (z9 2 rfl)]
     exact jC (t := 143) rfl (vB h12) ⟨rfl, rfl, rfl⟩
    refine pD (fun W R z9 => ?_) ?_
    ·rw [eS (l := [(2, _), (3, undef)]) ⟨z9 2 rfl, z9 3 rfl, ⟨⟩⟩]
     exact jC (t := 143) rfl (vB h12) ⟨rfl, rfl, rfl⟩
    refine pD (fun W R z9 => ?_) ?_
    ·rw [eS (l := [(2, _), (4, undef)]) ⟨z9 2 rfl, z9 4 rfl, ⟨⟩⟩]
     refine qk (qN (.bool (true)) (vB h12) rfl ?_)
     exact ⟨rfl, rfl, rfl⟩
    refine pD (fun W R z9 => ?_) ?_
    ·rw [zA 5 (z9 5 rfl)]
     refine qk (qo (.bool (true)) rfl ?_)
     exact ⟨rfl, rfl, rfl⟩
    refine pD (fun W R z9 => ?_) ?_
    ·rw [zA 6 (z9 6 rfl)]
     exact jC (t := 147) rfl rfl ⟨rfl, rfl, rfl⟩
    refine pD (fun W R z9 => ?_) ?_
    ·rw [zA 6 (z9 6 rfl)]
     exact jC (t := 147) rfl rfl ⟨rfl, rfl, rfl⟩
    refine pD (fun W R z9 => ?_) ?_
    ·rw [eS (l := [(6, _), (7, undef), (8, undef)]) ⟨z9 6 rfl, z9 7 rfl, z9 8 rfl, ⟨⟩⟩]
     exact jC (t := 147) rfl rfl ⟨rfl, rfl, rfl⟩
    refine pD (fun W R z9 => ?_) ?_
    ·rw [eS (l := [(6, _), (9, undef)]) ⟨z9 6 rfl, z9 9 rfl, ⟨⟩⟩]
     exact jC (t := 147) rfl rfl ⟨rfl, rfl, rfl⟩
    refine pD (fun W R z9 => ?_) ?_
    ·rw [eS (l := [(6, _), (10, undef)]) ⟨z9 6 rfl, z9 10 rfl, ⟨⟩⟩]
     exact jC (t := 147) rfl rfl ⟨rfl, rfl, rfl⟩
    refine pD (fun W R z9 => ?_) ?_
    ·rw [eS (l := [(6, _), (11, undef)]) ⟨z9 6 rfl, z9 11 rfl, ⟨⟩⟩]
     exact jC (t := 147) rfl rfl ⟨rfl, rfl, rfl⟩
    refine pD (fun W R z9 => ?_) ?_
    ·rw [eS (l := [(12, undef)]) ⟨z9 12 rfl, ⟨⟩⟩]
     exact jY (t := 153) rfl rfl ⟨rfl, rfl, rfl⟩
    refine pD (fun W R z9 => ?_) ?_
    ·rw [eS (l := [(12, undef), (13, undef)]) ⟨z9 12 rfl, z9 13 rfl, ⟨⟩⟩]
     exact jY (t := 153) rfl rfl ⟨rfl, rfl, rfl⟩
    refine pD (fun W R z9 => ?_) ?_
    ·rw [eS (l := [(12, undef)]) ⟨z9 12 rfl, ⟨⟩⟩]
     exact jY (t := 153) rfl rfl ⟨rfl, rfl, rfl⟩
    refine pD (fun W R z9 => ?_) ?_
    ·rw [eS (l := [(12, undef), (15, undef)]) ⟨z9 12 rfl, z9 15 rfl, ⟨⟩⟩]
     exact jY (t := 153) rfl rfl ⟨rfl, rfl, rfl⟩
    refine pD (fun W R z9 => ?_) ?_
    ·rw [eS (l := [(12, undef)]) ⟨z9 12 rfl, ⟨⟩⟩]
     exact jY (t := 153) rfl rfl ⟨rfl, rfl, rfl⟩
    refine pD (fun W R z9 => ?_) ?_
    ·rw [eS (l := [(12, undef), (16, undef), (17, undef)]) ⟨z9 12 rfl, z9 16 rfl, z9 17 rfl, ⟨⟩⟩]
     exact jY (t := 153) rfl rfl ⟨rfl, rfl, rfl⟩
    refine pD (fun W R z9 => ?_) ?_
    ·rw [eS (l := [(12, undef), (18, undef)]) ⟨z9 12 rfl, z9 18 rfl, ⟨⟩⟩]
     exact jY (t := 153) rfl rfl ⟨rfl, rfl, rfl⟩
    exact stepsP.nil
   intro W hphi
   rw [eS (l := [(6, _), (12, undef), (14, undef), (19, undef)]) ⟨(hphi 6 (by decide)), (hphi 12 (by decide)), (hphi 14 (by decide)), (hphi 19 (by decide)), ⟨⟩⟩]
   show XL _ _ _ _ _ _ _ (cellsH b4 [x16, x17] 40 :: cellsH b3 [x14, x15] 40 :: cellsH b2 [x10, x11] 29 :: cellsH b1 [x1, x2] 29 :: L)
   refine XL.noU (t := 153) rfl rfl (qp (t := 147) rfl rfl (cX (qN (.bool (true)) rfl rfl (qj (.bool (true)) rfl (qf (qu (qt (L' := L) [.bool (true)] (.bool (true)) (.tmp rfl .nil) rfl rF (qc (qc (qc (qc (qc (qc (qc le1 le2) le3) le4) le5) le6) le7) le8) (sD (sD (sD (sD sR)))) ?_)))))))
   exact ⟨(vB ((by first | rfl | exact hp3.symm))), rfl, rfl⟩
  rw [Bool.not_eq_true] at h12
  have hsome := Bool.not_inj (y := true) h12
  by_cases h13 : (x7 : Int) ≠ 0
  ·refine X.draw [cellsH b4 [x16, x17] 40, cellsH b3 [x14, x15] 40, cellsH b2 [x10, x11] 29, cellsH b1 [x1, x2] 29] L 20 [] [[], [0], [1], [2], [2, 3], [2, 4], [5], [6], [6], [6, 7, 8], [6, 9], [6, 10], [6, 11], [12], [12, 13], [12], [12, 15], [12], [12, 16, 17], [12, 18]] (phiL [qe (.bool ((pickF x4 x5 x6 x7).2.2)), qe (.bool (!((pickF x4 x5 x6 x7).2.2))), qe (.bool (!((pickF x4 x5 x6 x7).2.2))), qe (ii (x7)), qe (.bool (decide ((x7 : Int) ≠ 0)) : Value), qe (.bool (decide ((x7 : Int) ≠ 0)) : Value), qe (.bool (decide ((x7 : Int) ≠ 0)) : Value), qe undef, qe undef, qe undef, qe undef, qe undef, qe undef, qe undef, qe undef, qe undef, qe undef, qe undef, qe undef, qe undef]) (ownL []) mixed rfl rfl (by kernel_rfl) ?_ ?_
   ·refine pD (fun W R z9 => ?_) ?_
    ·refine qk (qo (.bool ((pickF x4 x5 x6 x7).2.2)) rfl ?_)
     exact ⟨rfl, rfl, rfl⟩
    refine pD (fun W R z9 => ?_) ?_
    ·rw [zA 0 (z9 0 rfl)]
     refine qk (jg rfl ?_)
     exact ⟨rfl, rfl, rfl⟩
    refine pD (fun W R z9 => ?_) ?_
    ·rw [zA 1 (z9 1 rfl)]
     refine qk (qo (.bool (!((pickF x4 x5 x6 x7).2.2))) rfl ?_)
     exact ⟨rfl, rfl, rfl⟩
    refine pD (fun W R z9 => ?_) ?_
    ·rw [zA 2 (z9 2 rfl)]
     refine jq (t := 143) rfl (vB h12) (qo (ii (x7)) rfl ?_)
     exact ⟨rfl, rfl, rfl⟩
    refine pD (fun W R z9 => ?_) ?_
    ·rw [zB 2 3 (z9 2 rfl) (z9 3 rfl)]
     refine jq (t := 143) rfl (vB h12) (XOp.neq rfl rfl ?_)
     exact ⟨rfl, rfl, rfl⟩
    refine pD (fun W R z9 => ?_) ?_
    ·rw [zB 2 4 (z9 2 rfl) (z9 4 rfl)]
     refine qk (qM (.bool (decide ((x7 : Int) ≠ 0))) (vB h12) rfl ?_)
     exact ⟨rfl, rfl, rfl⟩
    refine pD (fun W R z9 => ?_) ?_
    ·rw [zA 5 (z9 5 rfl)]
     refine qk (qo (.bool (decide ((x7 : Int) ≠ 0))) rfl ?_)
     exact ⟨rfl, rfl, rfl⟩
    refine pD (fun W R z9 => ?_) ?_
    ·rw [zA 6 (z9 6 rfl)]
     exact jC (t := 147) rfl (vT h13) ⟨rfl, rfl, rfl⟩
    refine pD (fun W R z9 => ?_) ?_
    ·rw [zA 6 (z9 6 rfl)]
     exact jC (t := 147) rfl (vT h13) ⟨rfl, rfl, rfl⟩
    refine pD (fun W R z9 => ?_) ?_
    ·rw [eS (l := [(6, _), (7, undef), (8, undef)]) ⟨z9 6 rfl, z9 7 rfl, z9 8 rfl, ⟨⟩⟩]
     exact jC (t := 147) rfl (vT h13) ⟨rfl, rfl, rfl⟩
    refine pD (fun W R z9 => ?_) ?_
    ·rw [eS (l := [(6, _), (9, undef)]) ⟨z9 6 rfl, z9 9 rfl, ⟨⟩⟩]
     exact jC (t := 147) rfl (vT h13) ⟨rfl, rfl, rfl⟩
    refine pD (fun W R z9 => ?_) ?_
    ·rw [eS (l := [(6, _), (10, undef)]) ⟨z9 6 rfl, z9 10 rfl, ⟨⟩⟩]
     exact jC (t := 147) rfl (vT h13) ⟨rfl, rfl, rfl⟩
    refine pD (fun W R z9 => ?_) ?_
    ·rw [eS (l := [(6, _), (11, undef)]) ⟨z9 6 rfl, z9 11 rfl, ⟨⟩⟩]
     exact jC (t := 147) rfl (vT h13) ⟨rfl, rfl, rfl⟩
    refine pD (fun W R z9 => ?_) ?_
    ·rw [eS (l := [(12, undef)]) ⟨z9 12 rfl, ⟨⟩⟩]
     exact jY (t := 153) rfl rfl ⟨rfl, rfl, rfl⟩
    refine pD (fun W R z9 => ?_) ?_
    ·rw [eS (l := [(12, undef), (13, undef)]) ⟨z9 12 rfl, z9 13 rfl, ⟨⟩⟩]
     exact jY (t := 153) rfl rfl ⟨rfl, rfl, rfl⟩
    refine pD (fun W R z9 => ?_) ?_
    ·rw [eS (l := [(12, undef)]) ⟨z9 12 rfl, ⟨⟩⟩]
     exact jY (t := 153) rfl rfl ⟨rfl, rfl, rfl⟩
    refine pD (fun W R z9 => ?_) ?_
    ·rw [eS (l := [(12, undef), (15, undef)]) ⟨z9 12 rfl, z9 15 rfl, ⟨⟩⟩]
     exact jY (t := 153) rfl rfl ⟨rfl, rfl, rfl⟩
    refine pD (fun W R z9 => ?_) ?_
    ·rw [eS (l := [(12, undef)]) ⟨z9 12 rfl, ⟨⟩⟩]
     exact jY (t := 153) rfl rfl ⟨rfl, rfl, rfl⟩
    refine pD (fun W R z9 => ?_) ?_
    ·rw [eS (l := [(12, undef), (16, undef), (17, undef)]) ⟨z9 12 rfl, z9 16 rfl, z9 17 rfl, ⟨⟩⟩]
     exact jY (t := 153) rfl rfl ⟨rfl, rfl, rfl⟩
    refine pD (fun W R z9 => ?_) ?_
    ·rw [eS (l := [(12, undef), (18, undef)]) ⟨z9 12 rfl, z9 18 rfl, ⟨⟩⟩]
     exact jY (t := 153) rfl rfl ⟨rfl, rfl, rfl⟩
    exact stepsP.nil
   intro W hphi
   rw [eS (l := [(6, _), (12, undef), (14, undef), (19, undef)]) ⟨(hphi 6 (by decide)), (hphi 12 (by decide)), (hphi 14 (by decide)), (hphi 19 (by decide)), ⟨⟩⟩]
   show XL _ _ _ _ _ _ _ (cellsH b4 [x16, x17] 40 :: cellsH b3 [x14, x15] 40 :: cellsH b2 [x10, x11] 29 :: cellsH b1 [x1, x2] 29 :: L)
   refine XL.noU (t := 153) rfl rfl (qp (t := 147) rfl (vT h13) (cX (qN (.bool (true)) (vT h13) rfl (qj (.bool (true)) rfl (qf (qu (qt (L' := L) [.bool (true)] (.bool (true)) (.tmp rfl .nil) rfl rF (qc (qc (qc (qc (qc (qc (qc le1 le2) le3) le4) le5) le6) le7) le8) (sD (sD (sD (sD sR)))) ?_)))))))
   exact ⟨(vB ((by first | rfl | exact hp3.symm))), rfl, rfl⟩
  have hz0 := Classical.not_not.1 h13
  obtain ⟨hp1, hp2, hp3, hp4⟩ := pick_lawZ (ar := x4) (cr := x5) (t := x6) hz0 hsome
  by_cases h14 : ((((([] : List Int)).length : Nat) : Int) : Int) = 0
  ·obtain ⟨a3, a4, a5, ha3, ha4, ha5, hrg1, hq1⟩ := hr2.rd (i := ((pickF x4 x5 x6 x7).2.1).toNat) (by omega)
   refine jG [cellsH b4 [x16, x17] 40, cellsH b3 [x14, x15] 40, cellsH b2 [x10, x11] 29, cellsH b1 [x1, x2] 29] L 20 [] [[], [0], [1], [2], [2, 3], [2, 4], [5], [6], [6], [6, 7, 8], [6, 9], [6, 10], [6, 11], [12], [12, 13], [12], [12, 15], [12], [12, 16, 17], [12, 18]] [] (phiG [pe (.bool ((pickF x4 x5 x6 x7).2.2)), pe (.bool (!((pickF x4 x5 x6 x7).2.2))), pe (.bool (!((pickF x4 x5 x6 x7).2.2))), pe (ii (x7)), pe (.bool (decide ((x7 : Int) ≠ 0)) : Value), pe (.bool (decide ((x7 : Int) ≠ 0)) : Value), pe (.bool (decide ((x7 : Int) ≠ 0)) : Value), pe (.agg #[x1, x2]), pe (ii ((pickF x4 x5 x6 x7).2.1)), fun FF us v => ((v) : Value) = v ∧ (IntsF FF (v) ([] : List Int)), pe (ii ((((([] : List Int)).length : Nat) : Int)) : Value), pe (.bool (decide (((((([] : List Int)).length : Nat) : Int) : Int) = 0)) : Value), pe (.bool (decide (((((([] : List Int)).length : Nat) : Int) : Int) = 0)) : Value), pe (ptr b1 0), pe (.agg #[x1]), pe (ptr b1 1), pe x2, pe (ii ((pickF x4 x5 x6 x7).2.1)), pe (.pointer (some (elemA x2 ((((pickF x4 x5 x6 x7).2.1).toNat) * 3)))), pe (.agg #[a3, a4, a5])]) (ownL []) mixed rfl rfl (by kernel_rfl) (by kernel_rfl) (MonoG.get (m1 (m1 (m1 (m1 (m1 (m1 (m1 (m1 (m1 (mC (fun le h => ⟨h.1, h.2.mono le⟩) (m1 (m1 (m1 (m1 (m1 (m1 (m1 (m1 (m1 (m1 MonoG.nil))))))))))))))))))))) ?_ ?_
   ·refine gD (fun W Fs R lF z9 => ?_) ?_
    ·refine qk (qo (.bool ((pickF x4 x5 x6 x7).2.2)) rfl ?_)
     exact ⟨rfl, rfl⟩
    refine gD (fun W Fs R lF z9 => ?_) ?_
    ·rw [zA 0 (z9 0 rfl)]
     refine qk (jg rfl ?_)
     exact ⟨rfl, rfl⟩
    refine gD (fun W Fs R lF z9 => ?_) ?_
    ·rw [zA 1 (z9 1 rfl)]
     refine qk (qo (.bool (!((pickF x4 x5 x6 x7).2.2))) rfl ?_)
     exact ⟨rfl, rfl⟩
    refine gD (fun W Fs R lF z9 => ?_) ?_
    ·rw [zA 2 (z9 2 rfl)]
     refine jq (t := 143) rfl (vB h12) (qo (ii (x7)) rfl ?_)
     exact ⟨rfl, rfl⟩
    refine gD (fun W Fs R lF z9 => ?_) ?_
    ·rw [zB 2 3 (z9 2 rfl) (z9 3 rfl)]
     refine jq (t := 143) rfl (vB h12) (XOp.neq rfl rfl ?_)
     exact ⟨rfl, rfl⟩
    refine gD (fun W Fs R lF z9 => ?_) ?_
    ·rw [zB 2 4 (z9 2 rfl) (z9 4 rfl)]
     refine qk (qM (.bool (decide ((x7 : Int) ≠ 0))) (vB h12) rfl ?_)
     exact ⟨rfl, rfl⟩
    refine gD (fun W Fs R lF z9 => ?_) ?_
    ·rw [zA 5 (z9 5 rfl)]
     refine qk (qo (.bool (decide ((x7 : Int) ≠ 0))) rfl ?_)
     exact ⟨rfl, rfl⟩
    refine gD (fun W Fs R lF z9 => ?_) ?_
    ·replace hbs := hbs.mono lF
     replace hr1 := hr1.mono lF
     replace hr2 := hr2.mono lF
     replace ha3 := ha3.mono lF
     replace ha4 := ha4.mono lF
     replace ha5 := ha5.mono lF
     replace hrg1 := fun L9 j9 u9 h9 => Rd.mono (hrg1 L9 j9 u9 h9) lF
     rw [zA 6 (z9 6 rfl)]
     refine jq (t := 147) rfl (vF h13) (qs [x1, x2] qY qK rfl rfl (Rd.ownN [_, _, _] rfl rfl) ?_)
     exact ⟨rfl, rfl⟩
    refine gD (fun W Fs R lF z9 => ?_) ?_
    ·rw [zA 6 (z9 6 rfl)]
     refine jq (t := 147) rfl (vF h13) (qo (ii ((pickF x4 x5 x6 x7).2.1)) rfl ?_)
     exact ⟨rfl, rfl⟩
    refine gD (fun W Fs R lF z9 => ?_) ?_
    ·replace hbs := hbs.mono lF
     replace hr1 := hr1.mono lF
     replace hr2 := hr2.mono lF
     replace ha3 := ha3.mono lF
     replace ha4 := ha4.mono lF
     replace ha5 := ha5.mono lF
     replace hrg1 := fun L9 j9 u9 h9 => Rd.mono (hrg1 L9 j9 u9 h9) lF
     rw [eS (l := [(6, _), (7, _), (8, _)]) ⟨z9 6 rfl, z9 7 rfl, z9 8 rfl, ⟨⟩⟩]
     refine jq (t := 147) rfl (vF h13) (qn (args := [.agg #[x1, x2], ii ((pickF x4 x5 x6 x7).2.1), ii (0)]) call16 rfl (HeldIn_spec (r := (pickF x4 x5 x6 x7).2.1) (q := 0) hr1 hr2 (hq0 := (by first | assumption | rfl | omega | simp)) (hrn := (hp4))) ?_)
     rintro _ F13 _ le13 ⟨x22, rfl, hr27, rfl⟩
     replace hbs := hbs.mono le13
     replace hr1 := hr1.mono le13
     replace hr2 := hr2.mono le13
     replace ha3 := ha3.mono le13
     replace ha4 := ha4.mono le13
     replace ha5 := ha5.mono le13
     replace hrg1 := fun L9 j9 u9 h9 => Rd.mono (hrg1 L9 j9 u9 h9) le13
     exact ⟨⟨rfl, hr27⟩, rfl⟩
    refine gD (fun W Fs R lF z9 => ?_) ?_
    ·obtain ⟨e9, f9_6hr⟩ := z9 9 rfl
     replace hbs := hbs.mono lF
     replace hr1 := hr1.mono lF
     replace hr2 := hr2.mono lF
     replace ha3 := ha3.mono lF
     replace ha4 := ha4.mono lF
     replace ha5 := ha5.mono lF
     replace hrg1 := fun L9 j9 u9 h9 => Rd.mono (hrg1 L9 j9 u9 h9) lF
     rw [eS (l := [(6, _), (9, ((W 9)))]) ⟨z9 6 rfl, (e9).symm, ⟨⟩⟩]
     refine jq (t := 147) rfl (vF h13) (qE qh rfl f9_6hr.slv ?_)
     exact ⟨rfl, rfl⟩
    refine gD (fun W Fs R lF z9 => ?_) ?_
    ·rw [zB 6 10 (z9 6 rfl) (z9 10 rfl)]
     refine jq (t := 147) rfl (vF h13) (jD rfl rfl ?_)
     exact ⟨rfl, rfl⟩
    refine gD (fun W Fs R lF z9 => ?_) ?_
    ·rw [zB 6 11 (z9 6 rfl) (z9 11 rfl)]
     refine jq (t := 147) rfl (vF h13) (qo (.bool (decide (((((([] : List Int)).length : Nat) : Int) : Int) = 0))) rfl ?_)
     exact ⟨rfl, rfl⟩
    refine gD (fun W Fs R lF z9 => ?_) ?_
    ·rw [zA 12 (z9 12 rfl)]
     refine jq (t := 153) rfl (vT h14) (qq (0) qF rfl qB (by decide) rfl rfl ?_)
     exact ⟨rfl, rfl⟩
    refine gD (fun W Fs R lF z9 => ?_) ?_
    ·replace hbs := hbs.mono lF
     replace hr1 := hr1.mono lF
     replace hr2 := hr2.mono lF
     replace ha3 := ha3.mono lF
     replace ha4 := ha4.mono lF
     replace ha5 := ha5.mono lF
     replace hrg1 := fun L9 j9 u9 h9 => Rd.mono (hrg1 L9 j9 u9 h9) lF
     rw [zB 12 13 (z9 12 rfl) (z9 13 rfl)]
     refine jq (t := 153) rfl (vT h14) (qs [x1] qW qB rfl rfl (Rd.ownN [_, _, _] rfl rfl) ?_)
     exact ⟨rfl, rfl⟩
    refine gD (fun W Fs R lF z9 => ?_) ?_
    ·rw [zA 12 (z9 12 rfl)]
     refine jq (t := 153) rfl (vT h14) (qq (1) qF rfl jp (by decide) rfl rfl ?_)
     exact ⟨rfl, rfl⟩
    refine gD (fun W Fs R lF z9 => ?_) ?_
    ·replace hbs := hbs.mono lF
     replace hr1 := hr1.mono lF
     replace hr2 := hr2.mono lF
     replace ha3 := ha3.mono lF
     replace ha4 := ha4.mono lF
     replace ha5 := ha5.mono lF
     replace hrg1 := fun L9 j9 u9 h9 => Rd.mono (hrg1 L9 j9 u9 h9) lF
     rw [zB 12 15 (z9 12 rfl) (z9 15 rfl)]
     refine jq (t := 153) rfl (vT h14) (qm jz rfl (Rd.own [_, _, _] rfl rfl) ?_)
     exact ⟨rfl, rfl⟩
    refine gD (fun W Fs R lF z9 => ?_) ?_
    ·rw [zA 12 (z9 12 rfl)]
     refine jq (t := 153) rfl (vT h14) (qo (ii ((pickF x4 x5 x6 x7).2.1)) rfl ?_)
     exact ⟨rfl, rfl⟩
    refine gD (fun W Fs R lF z9 => ?_) ?_
    ·replace hbs := hbs.mono lF
     replace hr1 := hr1.mono lF
     replace hr2 := hr2.mono lF
     replace ha3 := ha3.mono lF
     replace ha4 := ha4.mono lF
     replace ha5 := ha5.mono lF
     replace hrg1 := fun L9 j9 u9 h9 => Rd.mono (hrg1 L9 j9 u9 h9) lF
     rw [eS (l := [(12, _), (16, _), (17, _)]) ⟨z9 12 rfl, z9 16 rfl, z9 17 rfl, ⟨⟩⟩]
     refine jq (t := 153) rfl (vT h14) (qD (((pickF x4 x5 x6 x7).2.1).toNat) qU jv rfl rfl (by omega) hr2.slv (by omega) rfl ?_)
     exact ⟨rfl, rfl⟩
    refine gD (fun W Fs R lF z9 => ?_) ?_
    ·replace hbs := hbs.mono lF
     replace hr1 := hr1.mono lF
     replace hr2 := hr2.mono lF
     replace ha3 := ha3.mono lF
     replace ha4 := ha4.mono lF
     replace ha5 := ha5.mono lF
     replace hrg1 := fun L9 j9 u9 h9 => Rd.mono (hrg1 L9 j9 u9 h9) lF
     rw [zB 12 18 (z9 12 rfl) (z9 18 rfl)]
     refine jq (t := 153) rfl (vT h14) (qs [a3, a4, a5] isAgg51 jv rfl rfl (Rd.all (hrg1 _)) ?_)
     exact ⟨rfl, rfl⟩
    exact stepsG.nil
   intro W F14 le14 hphi
   obtain ⟨e9, f9_6hr⟩ := hphi 9 (by decide)
   generalize hu1 : ((W 9)) = u1 at e9 f9_6hr
   rw [eS (l := [(6, _), (12, _), (14, _), (19, _)]) ⟨(hphi 6 (by decide)), (hphi 12 (by decide)), (hphi 14 (by decide)), (hphi 19 (by decide)), ⟨⟩⟩]
   replace hbs := hbs.mono le14
   replace hr1 := hr1.mono le14
   replace hr2 := hr2.mono le14
   replace ha3 := ha3.mono le14
   replace ha4 := ha4.mono le14
   replace ha5 := ha5.mono le14
   show XL _ _ _ _ _ _ _ (cellsH b4 [x16, x17] 40 :: cellsH b3 [x14, x15] 40 :: cellsH b2 [x10, x11] 29 :: cellsH b1 [x1, x2] 29 :: L)
   refine qr (t := 153) rfl (vT h14) (qn (args := [.agg #[x1], .agg #[a3, a4, a5]]) call17 rfl (CRuleOk_spec hr1 ha3 ha4 ha5) ?_)
   rintro _ _ _ _ ⟨rfl, rfl, rfl⟩
   refine qr (t := 147) rfl (vF h13) (qN (.bool (cruleOk x4 (((x5.getD (((pickF x4 x5 x6 x7).2.1).toNat) ([], [], [])).1), ((x5.getD (((pickF x4 x5 x6 x7).2.1).toNat) ([], [], [])).2.1), ((x5.getD (((pickF x4 x5 x6 x7).2.1).toNat) ([], [], [])).2.2)))) (vT h14) rfl (cX (qM (.bool (cruleOk x4 (((x5.getD (((pickF x4 x5 x6 x7).2.1).toNat) ([], [], [])).1), ((x5.getD (((pickF x4 x5 x6 x7).2.1).toNat) ([], [], [])).2.1), ((x5.getD (((pickF x4 x5 x6 x7).2.1).toNat) ([], [], [])).2.2)))) (vF h13) rfl (qj (.bool (cruleOk x4 (((x5.getD (((pickF x4 x5 x6 x7).2.1).toNat) ([], [], [])).1), ((x5.getD (((pickF x4 x5 x6 x7).2.1).toNat) ([], [], [])).2.1), ((x5.getD (((pickF x4 x5 x6 x7).2.1).toNat) ([], [], [])).2.2)))) rfl (qf (qu (qt (L' := L) [.bool (cruleOk x4 (((x5.getD (((pickF x4 x5 x6 x7).2.1).toNat) ([], [], [])).1), ((x5.getD (((pickF x4 x5 x6 x7).2.1).toNat) ([], [], [])).2.1), ((x5.getD (((pickF x4 x5 x6 x7).2.1).toNat) ([], [], [])).2.2)))] (.bool (cruleOk x4 (((x5.getD (((pickF x4 x5 x6 x7).2.1).toNat) ([], [], [])).1), ((x5.getD (((pickF x4 x5 x6 x7).2.1).toNat) ([], [], [])).2.1), ((x5.getD (((pickF x4 x5 x6 x7).2.1).toNat) ([], [], [])).2.2)))) (.tmp rfl .nil) rfl rF (qc (qc (qc (qc (qc (qc (qc (qc le1 le2) le3) le4) le5) le6) le7) le8) le14) (sD (sD (sD (sD sR)))) ?_)))))))
   exact ⟨(vB ((by first | rfl | exact hp3.symm))), rfl, rfl⟩
  exact absurd rfl h14
 refine qz (qg ?_)
 by_cases h15 : (!((pickF x4 x5 x6 x7).2.2)) = true
 ·refine X.draw [cellsH b4 [x16, x17] 40, cellsH b3 [x14, x15] 40, cellsH b2 [x10, x11] 29, cellsH b1 [x1, x2] 29] L 20 [] [[], [0], [1], [2], [2, 3], [2, 4], [5], [6], [6], [6, 7, 8], [6, 9], [6, 10], [6, 11], [12], [12, 13], [12], [12, 15], [12], [12, 16, 17], [12, 18]] (phiL [qe (.bool ((pickF x4 x5 x6 x7).2.2)), qe (.bool (!((pickF x4 x5 x6 x7).2.2))), qe (.bool (!((pickF x4 x5 x6 x7).2.2))), qe undef, qe undef, qe (.bool (true)), qe (.bool (true)), qe undef, qe undef, qe undef, qe undef, qe undef, qe undef, qe undef, qe undef, qe undef, qe undef, qe undef, qe undef, qe undef]) (ownL []) mixed rfl rfl (by kernel_rfl) ?_ ?_
  ·refine pD (fun W R z9 => ?_) ?_
   ·refine qk (qo (.bool ((pickF x4 x5 x6 x7).2.2)) rfl ?_)
    exact ⟨rfl, rfl, rfl⟩
   refine pD (fun W R z9 => ?_) ?_
   ·rw [zA 0 (z9 0 rfl)]
    refine qk (jg rfl ?_)
    exact ⟨rfl, rfl, rfl⟩
   refine pD (fun W R z9 => ?_) ?_
   ·rw [zA 1 (z9 1 rfl)]
    refine qk (qo (.bool (!((pickF x4 x5 x6 x7).2.2))) rfl ?_)
    exact ⟨rfl, rfl, rfl⟩
   refine pD (fun W R z9 => ?_) ?_
   ·rw [zA 2 (z9 2 rfl)]
    exact jC (t := 143) rfl (vB h15) ⟨rfl, rfl, rfl⟩
   refine pD (fun W R z9 => ?_) ?_
   ·rw [eS (l := [(2, _), (3, undef)]) ⟨z9 2 rfl, z9 3 rfl, ⟨⟩⟩]
    exact jC (t := 143) rfl (vB h15) ⟨rfl, rfl, rfl⟩
   refine pD (fun W R z9 => ?_) ?_
   ·rw [eS (l := [(2, _), (4, undef)]) ⟨z9 2 rfl, z9 4 rfl, ⟨⟩⟩]
    refine qk (qN (.bool (true)) (vB h15) rfl ?_)
    exact ⟨rfl, rfl, rfl⟩
   refine pD (fun W R z9 => ?_) ?_
   ·rw [zA 5 (z9 5 rfl)]
    refine qk (qo (.bool (true)) rfl ?_)
    exact ⟨rfl, rfl, rfl⟩
   refine pD (fun W R z9 => ?_) ?_
   ·rw [zA 6 (z9 6 rfl)]
    exact jC (t := 147) rfl rfl ⟨rfl, rfl, rfl⟩
   refine pD (fun W R z9 => ?_) ?_
   ·rw [zA 6 (z9 6 rfl)]
    exact jC (t := 147) rfl rfl ⟨rfl, rfl, rfl⟩
   refine pD (fun W R z9 => ?_) ?_
   ·rw [eS (l := [(6, _), (7, undef), (8, undef)]) ⟨z9 6 rfl, z9 7 rfl, z9 8 rfl, ⟨⟩⟩]
    exact jC (t := 147) rfl rfl ⟨rfl, rfl, rfl⟩
   refine pD (fun W R z9 => ?_) ?_
   ·rw [eS (l := [(6, _), (9, undef)]) ⟨z9 6 rfl, z9 9 rfl, ⟨⟩⟩]
    exact jC (t := 147) rfl rfl ⟨rfl, rfl, rfl⟩
   refine pD (fun W R z9 => ?_) ?_
   ·rw [eS (l := [(6, _), (10, undef)]) ⟨z9 6 rfl, z9 10 rfl, ⟨⟩⟩]
    exact jC (t := 147) rfl rfl ⟨rfl, rfl, rfl⟩
   refine pD (fun W R z9 => ?_) ?_
   ·rw [eS (l := [(6, _), (11, undef)]) ⟨z9 6 rfl, z9 11 rfl, ⟨⟩⟩]
    exact jC (t := 147) rfl rfl ⟨rfl, rfl, rfl⟩
   refine pD (fun W R z9 => ?_) ?_
   ·rw [eS (l := [(12, undef)]) ⟨z9 12 rfl, ⟨⟩⟩]
    exact jY (t := 153) rfl rfl ⟨rfl, rfl, rfl⟩
   refine pD (fun W R z9 => ?_) ?_
   ·rw [eS (l := [(12, undef), (13, undef)]) ⟨z9 12 rfl, z9 13 rfl, ⟨⟩⟩]
    exact jY (t := 153) rfl rfl ⟨rfl, rfl, rfl⟩
   refine pD (fun W R z9 => ?_) ?_
   ·rw [eS (l := [(12, undef)]) ⟨z9 12 rfl, ⟨⟩⟩]
    exact jY (t := 153) rfl rfl ⟨rfl, rfl, rfl⟩
   refine pD (fun W R z9 => ?_) ?_
   ·rw [eS (l := [(12, undef), (15, undef)]) ⟨z9 12 rfl, z9 15 rfl, ⟨⟩⟩]
    exact jY (t := 153) rfl rfl ⟨rfl, rfl, rfl⟩
   refine pD (fun W R z9 => ?_) ?_
   ·rw [eS (l := [(12, undef)]) ⟨z9 12 rfl, ⟨⟩⟩]
    exact jY (t := 153) rfl rfl ⟨rfl, rfl, rfl⟩
   refine pD (fun W R z9 => ?_) ?_
   ·rw [eS (l := [(12, undef), (16, undef), (17, undef)]) ⟨z9 12 rfl, z9 16 rfl, z9 17 rfl, ⟨⟩⟩]
    exact jY (t := 153) rfl rfl ⟨rfl, rfl, rfl⟩
   refine pD (fun W R z9 => ?_) ?_
   ·rw [eS (l := [(12, undef), (18, undef)]) ⟨z9 12 rfl, z9 18 rfl, ⟨⟩⟩]
    exact jY (t := 153) rfl rfl ⟨rfl, rfl, rfl⟩
   exact stepsP.nil
  intro W hphi
  rw [eS (l := [(6, _), (12, undef), (14, undef), (19, undef)]) ⟨(hphi 6 (by decide)), (hphi 12 (by decide)), (hphi 14 (by decide)), (hphi 19 (by decide)), ⟨⟩⟩]
  show XL _ _ _ _ _ _ _ (cellsH b4 [x16, x17] 40 :: cellsH b3 [x14, x15] 40 :: cellsH b2 [x10, x11] 29 :: cellsH b1 [x1, x2] 29 :: L)
  refine XL.noU (t := 153) rfl rfl (qp (t := 147) rfl rfl (cX (qN (.bool (true)) rfl rfl (qj (.bool (true)) rfl (qf (qu (qt (L' := L) [.bool (true)] (.bool (true)) (.tmp rfl .nil) rfl rF (qc (qc (qc (qc (qc (qc (qc le1 le2) le3) le4) le5) le6) le7) le8) (sD (sD (sD (sD sR)))) ?_)))))))
  exact ⟨(vB ((by first | rfl | exact hp3.symm))), rfl, rfl⟩
 rw [Bool.not_eq_true] at h15
 have hsome := Bool.not_inj (y := true) h15
 by_cases h16 : (x7 : Int) ≠ 0
 ·refine X.draw [cellsH b4 [x16, x17] 40, cellsH b3 [x14, x15] 40, cellsH b2 [x10, x11] 29, cellsH b1 [x1, x2] 29] L 20 [] [[], [0], [1], [2], [2, 3], [2, 4], [5], [6], [6], [6, 7, 8], [6, 9], [6, 10], [6, 11], [12], [12, 13], [12], [12, 15], [12], [12, 16, 17], [12, 18]] (phiL [qe (.bool ((pickF x4 x5 x6 x7).2.2)), qe (.bool (!((pickF x4 x5 x6 x7).2.2))), qe (.bool (!((pickF x4 x5 x6 x7).2.2))), qe (ii (x7)), qe (.bool (decide ((x7 : Int) ≠ 0)) : Value), qe (.bool (decide ((x7 : Int) ≠ 0)) : Value), qe (.bool (decide ((x7 : Int) ≠ 0)) : Value), qe undef, qe undef, qe undef, qe undef, qe undef, qe undef, qe undef, qe undef, qe undef, qe undef, qe undef, qe undef, qe undef]) (ownL []) mixed rfl rfl (by kernel_rfl) ?_ ?_
  ·refine pD (fun W R z9 => ?_) ?_
   ·refine qk (qo (.bool ((pickF x4 x5 x6 x7).2.2)) rfl ?_)
    exact ⟨rfl, rfl, rfl⟩
   refine pD (fun W R z9 => ?_) ?_
   ·rw [zA 0 (z9 0 rfl)]
    refine qk (jg rfl ?_)
    exact ⟨rfl, rfl, rfl⟩
   refine pD (fun W R z9 => ?_) ?_
   ·rw [zA 1 (z9 1 rfl)]
    refine qk (qo (.bool (!((pickF x4 x5 x6 x7).2.2))) rfl ?_)
    exact ⟨rfl, rfl, rfl⟩
   refine pD (fun W R z9 => ?_) ?_
   ·rw [zA 2 (z9 2 rfl)]
    refine jq (t := 143) rfl (vB h15) (qo (ii (x7)) rfl ?_)
    exact ⟨rfl, rfl, rfl⟩
   refine pD (fun W R z9 => ?_) ?_
   ·rw [zB 2 3 (z9 2 rfl) (z9 3 rfl)]
    refine jq (t := 143) rfl (vB h15) (XOp.neq rfl rfl ?_)
    exact ⟨rfl, rfl, rfl⟩
   refine pD (fun W R z9 => ?_) ?_
   ·rw [zB 2 4 (z9 2 rfl) (z9 4 rfl)]
    refine qk (qM (.bool (decide ((x7 : Int) ≠ 0))) (vB h15) rfl ?_)
    exact ⟨rfl, rfl, rfl⟩
   refine pD (fun W R z9 => ?_) ?_
   ·rw [zA 5 (z9 5 rfl)]
    refine qk (qo (.bool (decide ((x7 : Int) ≠ 0))) rfl ?_)
    exact ⟨rfl, rfl, rfl⟩
   refine pD (fun W R z9 => ?_) ?_
   ·rw [zA 6 (z9 6 rfl)]
    exact jC (t := 147) rfl (vT h16) ⟨rfl, rfl, rfl⟩
   refine pD (fun W R z9 => ?_) ?_
   ·rw [zA 6 (z9 6 rfl)]
    exact jC (t := 147) rfl (vT h16) ⟨rfl, rfl, rfl⟩
   refine pD (fun W R z9 => ?_) ?_
   ·rw [eS (l := [(6, _), (7, undef), (8, undef)]) ⟨z9 6 rfl, z9 7 rfl, z9 8 rfl, ⟨⟩⟩]
    exact jC (t := 147) rfl (vT h16) ⟨rfl, rfl, rfl⟩
   refine pD (fun W R z9 => ?_) ?_
   ·rw [eS (l := [(6, _), (9, undef)]) ⟨z9 6 rfl, z9 9 rfl, ⟨⟩⟩]
    exact jC (t := 147) rfl (vT h16) ⟨rfl, rfl, rfl⟩
   refine pD (fun W R z9 => ?_) ?_
   ·rw [eS (l := [(6, _), (10, undef)]) ⟨z9 6 rfl, z9 10 rfl, ⟨⟩⟩]
    exact jC (t := 147) rfl (vT h16) ⟨rfl, rfl, rfl⟩
   refine pD (fun W R z9 => ?_) ?_
   ·rw [eS (l := [(6, _), (11, undef)]) ⟨z9 6 rfl, z9 11 rfl, ⟨⟩⟩]
    exact jC (t := 147) rfl (vT h16) ⟨rfl, rfl, rfl⟩
   refine pD (fun W R z9 => ?_) ?_
   ·rw [eS (l := [(12, undef)]) ⟨z9 12 rfl, ⟨⟩⟩]
    exact jY (t := 153) rfl rfl ⟨rfl, rfl, rfl⟩
   refine pD (fun W R z9 => ?_) ?_
   ·rw [eS (l := [(12, undef), (13, undef)]) ⟨z9 12 rfl, z9 13 rfl, ⟨⟩⟩]
    exact jY (t := 153) rfl rfl ⟨rfl, rfl, rfl⟩
   refine pD (fun W R z9 => ?_) ?_
   ·rw [eS (l := [(12, undef)]) ⟨z9 12 rfl, ⟨⟩⟩]
    exact jY (t := 153) rfl rfl ⟨rfl, rfl, rfl⟩
   refine pD (fun W R z9 => ?_) ?_
   ·rw [eS (l := [(12, undef), (15, undef)]) ⟨z9 12 rfl, z9 15 rfl, ⟨⟩⟩]
    exact jY (t := 153) rfl rfl ⟨rfl, rfl, rfl⟩
   refine pD (fun W R z9 => ?_) ?_
   ·rw [eS (l := [(12, undef)]) ⟨z9 12 rfl, ⟨⟩⟩]
    exact jY (t := 153) rfl rfl ⟨rfl, rfl, rfl⟩
   refine pD (fun W R z9 => ?_) ?_
   ·rw [eS (l := [(12, undef), (16, undef), (17, undef)]) ⟨z9 12 rfl, z9 16 rfl, z9 17 rfl, ⟨⟩⟩]
    exact jY (t := 153) rfl rfl ⟨rfl, rfl, rfl⟩
   refine pD (fun W R z9 => ?_) ?_
   ·rw [eS (l := [(12, undef), (18, undef)]) ⟨z9 12 rfl, z9 18 rfl, ⟨⟩⟩]
    exact jY (t := 153) rfl rfl ⟨rfl, rfl, rfl⟩
   exact stepsP.nil
  intro W hphi
  rw [eS (l := [(6, _), (12, undef), (14, undef), (19, undef)]) ⟨(hphi 6 (by decide)), (hphi 12 (by decide)), (hphi 14 (by decide)), (hphi 19 (by decide)), ⟨⟩⟩]
  show XL _ _ _ _ _ _ _ (cellsH b4 [x16, x17] 40 :: cellsH b3 [x14, x15] 40 :: cellsH b2 [x10, x11] 29 :: cellsH b1 [x1, x2] 29 :: L)
  refine XL.noU (t := 153) rfl rfl (qp (t := 147) rfl (vT h16) (cX (qN (.bool (true)) (vT h16) rfl (qj (.bool (true)) rfl (qf (qu (qt (L' := L) [.bool (true)] (.bool (true)) (.tmp rfl .nil) rfl rF (qc (qc (qc (qc (qc (qc (qc le1 le2) le3) le4) le5) le6) le7) le8) (sD (sD (sD (sD sR)))) ?_)))))))
  exact ⟨(vB ((by first | rfl | exact hp3.symm))), rfl, rfl⟩
 have hz0 := Classical.not_not.1 h16
 obtain ⟨hp1, hp2, hp3, hp4⟩ := pick_lawZ (ar := x4) (cr := x5) (t := x6) hz0 hsome
 by_cases h17 : ((((([] : List Int)).length : Nat) : Int) : Int) = 0
 ·obtain ⟨a6, a7, a8, ha6, ha7, ha8, hrg2, hq2⟩ := hr2.rd (i := ((pickF x4 x5 x6 x7).2.1).toNat) (by omega)
  refine jG [cellsH b4 [x16, x17] 40, cellsH b3 [x14, x15] 40, cellsH b2 [x10, x11] 29, cellsH b1 [x1, x2] 29] L 20 [] [[], [0], [1], [2], [2, 3], [2, 4], [5], [6], [6], [6, 7, 8], [6, 9], [6, 10], [6, 11], [12], [12, 13], [12], [12, 15], [12], [12, 16, 17], [12, 18]] [] (phiG [pe (.bool ((pickF x4 x5 x6 x7).2.2)), pe (.bool (!((pickF x4 x5 x6 x7).2.2))), pe (.bool (!((pickF x4 x5 x6 x7).2.2))), pe (ii (x7)), pe (.bool (decide ((x7 : Int) ≠ 0)) : Value), pe (.bool (decide ((x7 : Int) ≠ 0)) : Value), pe (.bool (decide ((x7 : Int) ≠ 0)) : Value), pe (.agg #[x1, x2]), pe (ii ((pickF x4 x5 x6 x7).2.1)), fun FF us v => ((v) : Value) = v ∧ (IntsF FF (v) ([] : List Int)), pe (ii ((((([] : List Int)).length : Nat) : Int)) : Value), pe (.bool (decide (((((([] : List Int)).length : Nat) : Int) : Int) = 0)) : Value), pe (.bool (decide (((((([] : List Int)).length : Nat) : Int) : Int) = 0)) : Value), pe (ptr b1 0), pe (.agg #[x1]), pe (ptr b1 1), pe x2, pe (ii ((pickF x4 x5 x6 x7).2.1)), pe (.pointer (some (elemA x2 ((((pickF x4 x5 x6 x7).2.1).toNat) * 3)))), pe (.agg #[a6, a7, a8])]) (ownL []) mixed rfl rfl (by kernel_rfl) (by kernel_rfl) (MonoG.get (m1 (m1 (m1 (m1 (m1 (m1 (m1 (m1 (m1 (mC (fun le h => ⟨h.1, h.2.mono le⟩) (m1 (m1 (m1 (m1 (m1 (m1 (m1 (m1 (m1 (m1 MonoG.nil))))))))))))))))))))) ?_ ?_
  ·refine gD (fun W Fs R lF z9 => ?_) ?_
   ·refine qk (qo (.bool ((pickF x4 x5 x6 x7).2.2)) rfl ?_)
    exact ⟨rfl, rfl⟩
   refine gD (fun W Fs R lF z9 => ?_) ?_
   ·rw [zA 0 (z9 0 rfl)]
    refine qk (jg rfl ?_)
    exact ⟨rfl, rfl⟩
   refine gD (fun W Fs R lF z9 => ?_) ?_
   ·rw [zA 1 (z9 1 rfl)]
    refine qk (qo (.bool (!((pickF x4 x5 x6 x7).2.2))) rfl ?_)
    exact ⟨rfl, rfl⟩
   refine gD (fun W Fs R lF z9 => ?_) ?_
   ·rw [zA 2 (z9 2 rfl)]
    refine jq (t := 143) rfl (vB h15) (qo (ii (x7)) rfl ?_)
    exact ⟨rfl, rfl⟩
   refine gD (fun W Fs R lF z9 => ?_) ?_
   ·rw [zB 2 3 (z9 2 rfl) (z9 3 rfl)]
    refine jq (t := 143) rfl (vB h15) (XOp.neq rfl rfl ?_)
    exact ⟨rfl, rfl⟩
   refine gD (fun W Fs R lF z9 => ?_) ?_
   ·rw [zB 2 4 (z9 2 rfl) (z9 4 rfl)]
    refine qk (qM (.bool (decide ((x7 : Int) ≠ 0))) (vB h15) rfl ?_)
    exact ⟨rfl, rfl⟩
   refine gD (fun W Fs R lF z9 => ?_) ?_
   ·rw [zA 5 (z9 5 rfl)]
    refine qk (qo (.bool (decide ((x7 : Int) ≠ 0))) rfl ?_)
    exact ⟨rfl, rfl⟩
   refine gD (fun W Fs R lF z9 => ?_) ?_
   ·replace hbs := hbs.mono lF
    replace hr1 := hr1.mono lF
    replace hr2 := hr2.mono lF
    replace ha6 := ha6.mono lF
    replace ha7 := ha7.mono lF
    replace ha8 := ha8.mono lF
    replace hrg2 := fun L9 j9 u9 h9 => Rd.mono (hrg2 L9 j9 u9 h9) lF
    rw [zA 6 (z9 6 rfl)]
    refine jq (t := 147) rfl (vF h16) (qs [x1, x2] qY qK rfl rfl (Rd.ownN [_, _, _] rfl rfl) ?_)
    exact ⟨rfl, rfl⟩
   refine gD (fun W Fs R lF z9 => ?_) ?_
   ·rw [zA 6 (z9 6 rfl)]
    refine jq (t := 147) rfl (vF h16) (qo (ii ((pickF x4 x5 x6 x7).2.1)) rfl ?_)
    exact ⟨rfl, rfl⟩
   refine gD (fun W Fs R lF z9 => ?_) ?_
   ·replace hbs := hbs.mono lF
    replace hr1 := hr1.mono lF
    replace hr2 := hr2.mono lF
    replace ha6 := ha6.mono lF
    replace ha7 := ha7.mono lF
    replace ha8 := ha8.mono lF
    replace hrg2 := fun L9 j9 u9 h9 => Rd.mono (hrg2 L9 j9 u9 h9) lF
    rw [eS (l := [(6, _), (7, _), (8, _)]) ⟨z9 6 rfl, z9 7 rfl, z9 8 rfl, ⟨⟩⟩]
    refine jq (t := 147) rfl (vF h16) (qn (args := [.agg #[x1, x2], ii ((pickF x4 x5 x6 x7).2.1), ii (0)]) call16 rfl (HeldIn_spec (r := (pickF x4 x5 x6 x7).2.1) (q := 0) hr1 hr2 (hq0 := (by first | assumption | rfl | omega | simp)) (hrn := (hp4))) ?_)
    rintro _ F17 _ le17 ⟨x25, rfl, hr30, rfl⟩
    replace hbs := hbs.mono le17
    replace hr1 := hr1.mono le17
    replace hr2 := hr2.mono le17
    replace ha6 := ha6.mono le17
    replace ha7 := ha7.mono le17
    replace ha8 := ha8.mono le17
    replace hrg2 := fun L9 j9 u9 h9 => Rd.mono (hrg2 L9 j9 u9 h9) le17
    exact ⟨⟨rfl, hr30⟩, rfl⟩
   refine gD (fun W Fs R lF z9 => ?_) ?_
   ·obtain ⟨e9, f9_12hr⟩ := z9 9 rfl
    replace hbs := hbs.mono lF
    replace hr1 := hr1.mono lF
    replace hr2 := hr2.mono lF
    replace ha6 := ha6.mono lF
    replace ha7 := ha7.mono lF
    replace ha8 := ha8.mono lF
    replace hrg2 := fun L9 j9 u9 h9 => Rd.mono (hrg2 L9 j9 u9 h9) lF
    rw [eS (l := [(6, _), (9, ((W 9)))]) ⟨z9 6 rfl, (e9).symm, ⟨⟩⟩]
    refine jq (t := 147) rfl (vF h16) (qE qh rfl f9_12hr.slv ?_)
    exact ⟨rfl, rfl⟩
   refine gD (fun W Fs R lF z9 => ?_) ?_
   ·rw [zB 6 10 (z9 6 rfl) (z9 10 rfl)]
    refine jq (t := 147) rfl (vF h16) (jD rfl rfl ?_)
    exact ⟨rfl, rfl⟩
   refine gD (fun W Fs R lF z9 => ?_) ?_
   ·rw [zB 6 11 (z9 6 rfl) (z9 11 rfl)]
    refine jq (t := 147) rfl (vF h16) (qo (.bool (decide (((((([] : List Int)).length : Nat) : Int) : Int) = 0))) rfl ?_)
    exact ⟨rfl, rfl⟩
   refine gD (fun W Fs R lF z9 => ?_) ?_
   ·rw [zA 12 (z9 12 rfl)]
    refine jq (t := 153) rfl (vT h17) (qq (0) qF rfl qB (by decide) rfl rfl ?_)
    exact ⟨rfl, rfl⟩
   refine gD (fun W Fs R lF z9 => ?_) ?_
   ·replace hbs := hbs.mono lF
    replace hr1 := hr1.mono lF
    replace hr2 := hr2.mono lF
    replace ha6 := ha6.mono lF
    replace ha7 := ha7.mono lF
    replace ha8 := ha8.mono lF
    replace hrg2 := fun L9 j9 u9 h9 => Rd.mono (hrg2 L9 j9 u9 h9) lF
    rw [zB 12 13 (z9 12 rfl) (z9 13 rfl)]
    refine jq (t := 153) rfl (vT h17) (qs [x1] qW qB rfl rfl (Rd.ownN [_, _, _] rfl rfl) ?_)
    exact ⟨rfl, rfl⟩
   refine gD (fun W Fs R lF z9 => ?_) ?_
   ·rw [zA 12 (z9 12 rfl)]
    refine jq (t := 153) rfl (vT h17) (qq (1) qF rfl jp (by decide) rfl rfl ?_)
    exact ⟨rfl, rfl⟩
   refine gD (fun W Fs R lF z9 => ?_) ?_
   ·replace hbs := hbs.mono lF
    replace hr1 := hr1.mono lF
    replace hr2 := hr2.mono lF
    replace ha6 := ha6.mono lF
    replace ha7 := ha7.mono lF
    replace ha8 := ha8.mono lF
    replace hrg2 := fun L9 j9 u9 h9 => Rd.mono (hrg2 L9 j9 u9 h9) lF
    rw [zB 12 15 (z9 12 rfl) (z9 15 rfl)]
    refine jq (t := 153) rfl (vT h17) (qm jz rfl (Rd.own [_, _, _] rfl rfl) ?_)
    exact ⟨rfl, rfl⟩
   refine gD (fun W Fs R lF z9 => ?_) ?_
   ·rw [zA 12 (z9 12 rfl)]
    refine jq (t := 153) rfl (vT h17) (qo (ii ((pickF x4 x5 x6 x7).2.1)) rfl ?_)
    exact ⟨rfl, rfl⟩
   refine gD (fun W Fs R lF z9 => ?_) ?_
   ·replace hbs := hbs.mono lF
    replace hr1 := hr1.mono lF
    replace hr2 := hr2.mono lF
    replace ha6 := ha6.mono lF
    replace ha7 := ha7.mono lF
    replace ha8 := ha8.mono lF
    replace hrg2 := fun L9 j9 u9 h9 => Rd.mono (hrg2 L9 j9 u9 h9) lF
    rw [eS (l := [(12, _), (16, _), (17, _)]) ⟨z9 12 rfl, z9 16 rfl, z9 17 rfl, ⟨⟩⟩]
    refine jq (t := 153) rfl (vT h17) (qD (((pickF x4 x5 x6 x7).2.1).toNat) qU jv rfl rfl (by omega) hr2.slv (by omega) rfl ?_)
    exact ⟨rfl, rfl⟩
   refine gD (fun W Fs R lF z9 => ?_) ?_
   ·replace hbs := hbs.mono lF
    replace hr1 := hr1.mono lF
    replace ha6 := ha6.mono lF
    replace ha7 := ha7.mono lF
    replace ha8 := ha8.mono lF
    replace hrg2 := fun L9 j9 u9 h9 => Rd.mono (hrg2 L9 j9 u9 h9) lF
    rw [zB 12 18 (z9 12 rfl) (z9 18 rfl)]
    refine jq (t := 153) rfl (vT h17) (qs [a6, a7, a8] isAgg51 jv rfl rfl (Rd.all (hrg2 _)) ?_)
    exact ⟨rfl, rfl⟩
   exact stepsG.nil
  intro W F18 le18 hphi
  obtain ⟨e9, f9_12hr⟩ := hphi 9 (by decide)
  generalize hu2 : ((W 9)) = u2 at e9 f9_12hr
  rw [eS (l := [(6, _), (12, _), (14, _), (19, _)]) ⟨(hphi 6 (by decide)), (hphi 12 (by decide)), (hphi 14 (by decide)), (hphi 19 (by decide)), ⟨⟩⟩]
  replace hr1 := hr1.mono le18
  replace ha6 := ha6.mono le18
  replace ha7 := ha7.mono le18
  replace ha8 := ha8.mono le18
  show XL _ _ _ _ _ _ _ (cellsH b4 [x16, x17] 40 :: cellsH b3 [x14, x15] 40 :: cellsH b2 [x10, x11] 29 :: cellsH b1 [x1, x2] 29 :: L)
  refine qr (t := 153) rfl (vT h17) (qn (args := [.agg #[x1], .agg #[a6, a7, a8]]) call17 rfl (CRuleOk_spec hr1 ha6 ha7 ha8) ?_)
  rintro _ _ _ _ ⟨rfl, rfl, rfl⟩
  refine qr (t := 147) rfl (vF h16) (qN (.bool (cruleOk x4 (((x5.getD (((pickF x4 x5 x6 x7).2.1).toNat) ([], [], [])).1), ((x5.getD (((pickF x4 x5 x6 x7).2.1).toNat) ([], [], [])).2.1), ((x5.getD (((pickF x4 x5 x6 x7).2.1).toNat) ([], [], [])).2.2)))) (vT h17) rfl (cX (qM (.bool (cruleOk x4 (((x5.getD (((pickF x4 x5 x6 x7).2.1).toNat) ([], [], [])).1), ((x5.getD (((pickF x4 x5 x6 x7).2.1).toNat) ([], [], [])).2.1), ((x5.getD (((pickF x4 x5 x6 x7).2.1).toNat) ([], [], [])).2.2)))) (vF h16) rfl (qj (.bool (cruleOk x4 (((x5.getD (((pickF x4 x5 x6 x7).2.1).toNat) ([], [], [])).1), ((x5.getD (((pickF x4 x5 x6 x7).2.1).toNat) ([], [], [])).2.1), ((x5.getD (((pickF x4 x5 x6 x7).2.1).toNat) ([], [], [])).2.2)))) rfl (qf (qu (qt (L' := L) [.bool (cruleOk x4 (((x5.getD (((pickF x4 x5 x6 x7).2.1).toNat) ([], [], [])).1), ((x5.getD (((pickF x4 x5 x6 x7).2.1).toNat) ([], [], [])).2.1), ((x5.getD (((pickF x4 x5 x6 x7).2.1).toNat) ([], [], [])).2.2)))] (.bool (cruleOk x4 (((x5.getD (((pickF x4 x5 x6 x7).2.1).toNat) ([], [], [])).1), ((x5.getD (((pickF x4 x5 x6 x7).2.1).toNat) ([], [], [])).2.1), ((x5.getD (((pickF x4 x5 x6 x7).2.1).toNat) ([], [], [])).2.2)))) (.tmp rfl .nil) rfl rF (qc (qc (qc (qc (qc (qc (qc (qc le1 le2) le3) le4) le5) le6) le7) le8) le18) (sD (sD (sD (sD sR)))) ?_)))))))
  exact ⟨(vB ((by first | rfl | exact hp3.symm))), rfl, rfl⟩
 exact absurd rfl h17
end Go.Proofs.YteodlimhopibkaaGreat
