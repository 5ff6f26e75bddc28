/-
  Walks, one after the other (part 3).
-/
import Derived.Test.YtcdjpapjjoldeaaGreatQXL1
import Derived.Test.YtcdjpapjjoldeaaGreatQXB1
set_option linter.unusedSimpArgs false
set_option linter.unusedVariables false
namespace Go.Proofs.YtcdjpapjjoldeaaGreat
open Go X M Tryz

/- (impl.Front).isCall -/
set_option maxRecDepth 20000 in
theorem isCall_spec {F : FH} {L : List HP} {arv : Value} {ar : List Int} (har : IntsF F arv ar) {fsv : Value} {fs : List Int} (hfs : IntsF F fsv fs) {lsv : Value} {ls : List LineT} (hls : LinesF F lsv ls) {tv : Value} {t : List Int} (ht : IntsF F tv t) (hl1 : 1 ≤ t.length ∧ t.length ≤ 4000000) (hlf : fs.length ≤ 4000000) :
    Does prog 111 [.agg #[arv, fsv, lsv], tv] F (L) (fun v F' L' => (.bool ((decide (t.getD 0 0 ∈ fs) && freeB fs (t.drop 1))) : Value) = v ∧ F = F' ∧ L = L') := by
 refine qB func111 rfl rfl rfl ?_
 have htk : (t.drop 1).take (t.length - 1) = t.drop 1 := List.take_of_length_le (by simp)
 refine qc (qa (cX (qP [arv, fsv, lsv] rfl rfl ?_)))
 intro b1
 refine qg (.bool (false)) rfl (qb (qc ?_))
 by_cases h1 : (t.getD 0 0) ∈ fs
 ·refine X.drawG [cellsH b1 [arv, fsv, lsv] 34] L 10 [] [[], [0], [], [2], [3], [1, 4], [5], [6], [6], [6, 8]] [] (phiG [pe (ptr b1 1), pe fsv, pe tv, pe (.pointer (some (elemA tv (0)))), pe (ii (t.getD 0 0)), pe (.bool (decide ((t.getD 0 0) ∈ fs))), pe (.bool (decide ((t.getD 0 0) ∈ fs))), pe (.agg #[arv, fsv, lsv]), pe tv, fun FF us v => (v : Value) = v ∧ (IntsF FF v ((t.drop 1).take (((t).length) - 1))) ∧ (isNil v = isNil tv)]) (ownL []) mixed rfl rfl (by kernel_rfl) (by kernel_rfl) (MonoG.get (m1 (m1 (m1 (m1 (m1 (m1 (m1 (m1 (m1 (mC (fun le h => ⟨h.1, h.2.1.mono le, h.2.2⟩) MonoG.nil))))))))))) ?_ ?_
  ·refine gD (fun W Fs R lF z9 => ?_) ?_
   ·refine qj (qk (1) qD rfl qA (by decide) rfl rfl ?_)
    exact ⟨rfl, rfl⟩
   refine gD (fun W Fs R lF z9 => ?_) ?_
   ·replace har := har.mono lF
    replace hfs := hfs.mono lF
    replace hls := hls.mono lF
    replace ht := ht.mono lF
    rw [eS (l := [(0, _)]) ⟨z9 0 rfl, ⟨⟩⟩]
    refine qj (qi qK rfl (Rd.own [] rfl rfl) ?_)
    exact ⟨rfl, rfl⟩
   refine gD (fun W Fs R lF z9 => ?_) ?_
   ·refine qj (qm (tv) rfl ?_)
    exact ⟨rfl, rfl⟩
   refine gD (fun W Fs R lF z9 => ?_) ?_
   ·replace har := har.mono lF
    replace hfs := hfs.mono lF
    replace hls := hls.mono lF
    replace ht := ht.mono lF
    rw [eS (l := [(2, _)]) ⟨z9 2 rfl, ⟨⟩⟩]
    refine qj (qx 0 qf qE rfl rfl rfl ht.slv (by omega) (Nat.mul_one _) ?_)
    exact ⟨rfl, rfl⟩
   refine gD (fun W Fs R lF z9 => ?_) ?_
   ·replace har := har.mono lF
    replace hfs := hfs.mono lF
    replace hls := hls.mono lF
    replace ht := ht.mono lF
    rw [eS (l := [(3, _)]) ⟨z9 3 rfl, ⟨⟩⟩]
    refine qj (qi qS rfl (ht.rd (by omega)) ?_)
    exact ⟨rfl, rfl⟩
   refine gD (fun W Fs R lF z9 => ?_) ?_
   ·replace har := har.mono lF
    replace hfs := hfs.mono lF
    replace hls := hls.mono lF
    replace ht := ht.mono lF
    rw [eS (l := [(1, _), (4, _)]) ⟨z9 1 rfl, z9 4 rfl, ⟨⟩⟩]
    refine qj (ql (args := [fsv, ii (t.getD 0 0)]) call131 rfl (Contains_spec (n := t.getD 0 0) hfs (hbd := (by first | assumption | rfl | omega | simp))) ?_)
    rintro _ _ _ _ ⟨rfl, rfl, rfl⟩
    exact ⟨rfl, rfl⟩
   refine gD (fun W Fs R lF z9 => ?_) ?_
   ·rw [eS (l := [(5, _)]) ⟨z9 5 rfl, ⟨⟩⟩]
    refine qj (qm (.bool (decide ((t.getD 0 0) ∈ fs))) rfl ?_)
    exact ⟨rfl, rfl⟩
   refine gD (fun W Fs R lF z9 => ?_) ?_
   ·replace har := har.mono lF
    replace hfs := hfs.mono lF
    replace hls := hls.mono lF
    replace ht := ht.mono lF
    rw [eS (l := [(6, _)]) ⟨z9 6 rfl, ⟨⟩⟩]
    refine qR (t := 11) rfl (vT h1) (qC [arv, fsv, lsv] isAgg34 jB rfl rfl (Rd.ownN [] rfl rfl) ?_)
    exact ⟨rfl, rfl⟩
   refine gD (fun W Fs R lF z9 => ?_) ?_
   ·rw [eS (l := [(6, _)]) ⟨z9 6 rfl, ⟨⟩⟩]
    refine qR (t := 11) rfl (vT h1) (qm (tv) rfl ?_)
    exact ⟨rfl, rfl⟩
   refine gD (fun W Fs R lF z9 => ?_) ?_
   ·replace har := har.mono lF
    replace hfs := hfs.mono lF
    replace hls := hls.mono lF
    replace ht := ht.mono lF
    rw [eS (l := [(6, _), (8, _)]) ⟨z9 6 rfl, z9 8 rfl, ⟨⟩⟩]
    refine qR (t := 11) rfl (vT h1) (jw 1 ((t).length) qf qE rfl ht ⟨_, rfl⟩ rfl (by omega) (by omega) ?_)
    intro v2 hv2 hn2
    exact ⟨⟨rfl, hv2, hn2⟩, rfl⟩
   exact stepsG.nil
  intro W F1 le1 hphi
  obtain ⟨e9, f9_2hv, f9_2hn⟩ := hphi 9 (by decide)
  generalize hu1 : (W 9) = u1 at e9 f9_2hv f9_2hn
  rw [eS (l := [(6, _), (7, _), (9, u1)]) ⟨(hphi 6 (by decide)), (hphi 7 (by decide)), hu1, ⟨⟩⟩]
  replace har := har.mono le1
  replace hfs := hfs.mono le1
  replace hls := hls.mono le1
  replace ht := ht.mono le1
  show XL _ _ _ _ _ _ _ (cellsH b1 [arv, fsv, lsv] 34 :: L)
  refine qo (t := 11) rfl (vT h1) (ql (args := [.agg #[arv, fsv, lsv], u1]) call164 rfl (calls_spec har hfs hls f9_2hv (hlt := (by simp; omega)) (hlf := (hlf))) ?_)
  rintro _ _ _ _ ⟨rfl, rfl, rfl⟩
  refine qo (t := 11) rfl (vT h1) (jn rfl (cX (qM (.bool (!(!(freeB fs (((t.drop 1).take (((t).length) - 1))))))) (vT h1) rfl (qg (.bool (!(!(freeB fs (((t.drop 1).take (((t).length) - 1))))))) rfl (qb (qq (qn (L' := L) [.bool (!(!(freeB fs (((t.drop 1).take (((t).length) - 1))))))] (.bool (!(!(freeB fs (((t.drop 1).take (((t).length) - 1))))))) (.tmp rfl .nil) rfl rF le1 (sD sR) ?_)))))))
  exact ⟨(vB (by (try rw [htk]); simp_all)), rfl, rfl⟩
 refine ju [cellsH b1 [arv, fsv, lsv] 34] L 10 [] [[], [0], [], [2], [3], [1, 4], [5], [6], [6], [6, 8]] (phiL [qe (ptr b1 1), qe fsv, qe tv, qe (.pointer (some (elemA tv (0)))), qe (ii (t.getD 0 0)), qe (.bool (decide ((t.getD 0 0) ∈ fs))), qe (.bool (decide ((t.getD 0 0) ∈ fs))), qe undef, qe undef, qe undef]) (ownL []) mixed rfl rfl (by kernel_rfl) ?_ ?_
 ·refine pD (fun W R z9 => ?_) ?_
  ·refine qj (qk (1) qD rfl qA (by decide) rfl rfl ?_)
   exact ⟨rfl, rfl, rfl⟩
  refine pD (fun W R z9 => ?_) ?_
  ·rw [eS (l := [(0, _)]) ⟨z9 0 rfl, ⟨⟩⟩]
   refine qj (qi qK rfl (Rd.own [] rfl rfl) ?_)
   exact ⟨rfl, rfl, rfl⟩
  refine pD (fun W R z9 => ?_) ?_
  ·refine qj (qm (tv) rfl ?_)
   exact ⟨rfl, rfl, rfl⟩
  refine pD (fun W R z9 => ?_) ?_
  ·rw [eS (l := [(2, _)]) ⟨z9 2 rfl, ⟨⟩⟩]
   refine qj (qx 0 qf qE rfl rfl rfl ht.slv (by omega) (Nat.mul_one _) ?_)
   exact ⟨rfl, rfl, rfl⟩
  refine pD (fun W R z9 => ?_) ?_
  ·rw [eS (l := [(3, _)]) ⟨z9 3 rfl, ⟨⟩⟩]
   refine qj (qi qS rfl (ht.rd (by omega)) ?_)
   exact ⟨rfl, rfl, rfl⟩
  refine pD (fun W R z9 => ?_) ?_
  ·rw [eS (l := [(1, _), (4, _)]) ⟨z9 1 rfl, z9 4 rfl, ⟨⟩⟩]
   refine qj (ql (args := [fsv, ii (t.getD 0 0)]) call131 rfl (Contains_spec (n := t.getD 0 0) hfs (hbd := (by first | assumption | rfl | omega | simp))) ?_)
   rintro _ _ _ _ ⟨rfl, rfl, rfl⟩
   exact ⟨rfl, rfl, rfl⟩
  refine pD (fun W R z9 => ?_) ?_
  ·rw [eS (l := [(5, _)]) ⟨z9 5 rfl, ⟨⟩⟩]
   refine qj (qm (.bool (decide ((t.getD 0 0) ∈ fs))) rfl ?_)
   exact ⟨rfl, rfl, rfl⟩
  refine pD (fun W R z9 => ?_) ?_
  ·rw [eS (l := [(6, _)]) ⟨z9 6 rfl, ⟨⟩⟩]
   exact qY (t := 11) rfl (vF h1) ⟨rfl, rfl, rfl⟩
  refine pD (fun W R z9 => ?_) ?_
  ·rw [eS (l := [(6, _)]) ⟨z9 6 rfl, ⟨⟩⟩]
   exact qY (t := 11) rfl (vF h1) ⟨rfl, rfl, rfl⟩
  refine pD (fun W R z9 => ?_) ?_
  ·rw [eS (l := [(6, _), (8, undef)]) ⟨z9 6 rfl, z9 8 rfl, ⟨⟩⟩]
   exact qY (t := 11) rfl (vF h1) ⟨rfl, rfl, rfl⟩
  exact stepsP.nil
 intro W hphi
 rw [eS (l := [(6, _), (7, undef), (9, undef)]) ⟨(hphi 6 (by decide)), (hphi 7 (by decide)), (hphi 9 (by decide)), ⟨⟩⟩]
 show XL _ _ _ _ _ _ _ (cellsH b1 [arv, fsv, lsv] 34 :: L)
 refine qp (t := 11) rfl (vF h1) (qp (t := 11) rfl (vF h1) (cX (qL (.bool (false)) (vF h1) rfl (qg (.bool (false)) rfl (qb (qq (qn (L' := L) [.bool (false)] (.bool (false)) (.tmp rfl .nil) rfl rF rF (sD sR) ?_)))))))
 exact ⟨(vB (by (try rw [htk]); simp_all)), rfl, rfl⟩

/- (impl.Front).firstCall -/
set_option maxRecDepth 20000 in
theorem firstCall_spec {F : FH} {L : List HP} {arv : Value} {ar : List Int} (har : IntsF F arv ar) {fsv : Value} {fs : List Int} (hfs : IntsF F fsv fs) {lsv : Value} {ls : List LineT} (hls : LinesF F lsv ls) {tv : Value} {t : List Int} (ht : IntsF F tv t) (hsig : sigOk ar = true) (ho : termOk ar t = true) (hlf : fs.length ≤ 4000000) :
    Does prog 54 [.agg #[arv, fsv, lsv], tv] F (L) (fun v F' L' => (ii (if firstC ar fs t = t.length then -1 else ((firstC ar fs t : Nat) : Int)) : Value) = v ∧ F = F' ∧ L = L') := by
 refine qB func54 rfl rfl rfl ?_
 have htl := termOk_len ho
 have hnn := notNil_of_pos ht (by omega)
 refine qc (qa (cX (qP [arv, fsv, lsv] rfl rfl ?_)))
 intro b1
 refine qg (ii (0)) rfl (qb (qc (qc (qa (qd (tv) rfl (cX (qy qf rfl ht.slv (qd (ii (0)) rfl (qb (qF (ja (α := Nat) (fun k => [(1, tv), (2, ptr b1 0), (7, ii ((t.length : Int))), (8, ii ((k : Int)))]) (fun k => cellsH b1 [arv, fsv, lsv] 34 :: L) (fun k F' => F = F' ∧ (k ≤ t.length) ∧ (∀ i, i < k → callAt ar fs t i = false)) (fun k => t.length - k) 0 ⟨rfl, rfl, rfl, rfl, ⟨⟩⟩ (sC sR) ⟨rfl, (by (try dsimp only) <;> omega), (fun i hi => absurd hi (by omega))⟩ ?_)))))))))))
 rintro k rE _ _ ⟨rfl, hk, hall⟩
 show X _ _ _ _ (envs [(1, tv), (2, ptr b1 0), (7, ii ((t.length : Int))), (8, ii ((k : Int)))] rE) _ (cellsH b1 [arv, fsv, lsv] 34 :: L)
 refine qc (qa (cX (qI rfl rfl (qb (qc ?_)))))
 refine qv (p := (k : Int) < (t.length : Int)) rfl (fun h1 => ?_) (fun h1 => ?_)
 ·refine qw (qc (qF (qc (qa (qd (ii ((k : Int))) rfl (qg (ii ((k : Int))) rfl (qb (qc ?_))))))))
  refine X.drawG [cellsH b1 [arv, fsv, lsv] 34] L 6 [] [[], [], [1], [], [], [2, 3, 4]] [] (phiG [pe (.agg #[arv, fsv, lsv]), pe (ptr b1 0), pe (.agg #[arv]), pe tv, pe (ii ((k : Int)) : Value), fun FF us v => ((v) : Value) = v ∧ (IntsF FF (v) (sub ar t k)) ∧ (isNil (v) = false)]) (ownL []) mixed rfl rfl (by kernel_rfl) (by kernel_rfl) (MonoG.get (m1 (m1 (m1 (m1 (m1 (mC (fun le h => ⟨h.1, h.2.1.mono le, h.2.2⟩) MonoG.nil))))))) ?_ ?_
  ·refine gD (fun W Fs R lF z9 => ?_) ?_
   ·replace har := har.mono lF
    replace hfs := hfs.mono lF
    replace hls := hls.mono lF
    replace ht := ht.mono lF
    refine qj (qC [arv, fsv, lsv] isAgg34 jB rfl rfl (Rd.ownN [] rfl rfl) ?_)
    exact ⟨rfl, rfl⟩
   refine gD (fun W Fs R lF z9 => ?_) ?_
   ·refine qj (qk (0) qD rfl qH (by decide) rfl rfl ?_)
    exact ⟨rfl, rfl⟩
   refine gD (fun W Fs R lF z9 => ?_) ?_
   ·replace har := har.mono lF
    replace hfs := hfs.mono lF
    replace hls := hls.mono lF
    replace ht := ht.mono lF
    rw [eS (l := [(1, _)]) ⟨z9 1 rfl, ⟨⟩⟩]
    refine qj (qC [arv] qW qH rfl rfl (Rd.ownN [] rfl rfl) ?_)
    exact ⟨rfl, rfl⟩
   refine gD (fun W Fs R lF z9 => ?_) ?_
   ·refine qj (qm (tv) rfl ?_)
    exact ⟨rfl, rfl⟩
   refine gD (fun W Fs R lF z9 => ?_) ?_
   ·refine qj (qm (ii ((k : Int))) rfl ?_)
    exact ⟨rfl, rfl⟩
   refine gD (fun W Fs R lF z9 => ?_) ?_
   ·replace har := har.mono lF
    replace hfs := hfs.mono lF
    replace hls := hls.mono lF
    replace ht := ht.mono lF
    rw [eS (l := [(2, _), (3, _), (4, _)]) ⟨z9 2 rfl, z9 3 rfl, z9 4 rfl, ⟨⟩⟩]
    refine qj (ql (args := [.agg #[arv], tv, ii (k : Int)]) call55 rfl (subAtW_spec (p := k) har ht (ho := (termW_of ho)) (hp := (by omega)) (hnn := (hnn))) ?_)
    rintro v2 _ _ _ ⟨rfl, rfl, hv2, hn2⟩
    exact ⟨⟨rfl, hv2, hn2⟩, rfl⟩
   exact stepsG.nil
  intro W F1 le1 hphi
  obtain ⟨e5, f5_1ha, f5_1hn⟩ := hphi 5 (by decide)
  generalize hu1 : ((W 5)) = u1 at e5 f5_1ha f5_1hn
  rw [eS (l := [(0, _), (5, u1)]) ⟨(hphi 0 (by decide)), hu1, ⟨⟩⟩]
  replace har := har.mono le1
  replace hfs := hfs.mono le1
  replace hls := hls.mono le1
  show XL _ _ _ _ _ _ _ (cellsH b1 [arv, fsv, lsv] 34 :: L)
  refine cX (ql (args := [.agg #[arv, fsv, lsv], u1]) call111 rfl (isCall_spec har hfs hls f5_1ha (hl1 := (by have h9 := termOk_len (sub_ok ho (show k < t.length by omega)); omega)) (hlf := (hlf))) ?_)
  rintro _ _ _ _ ⟨rfl, rfl, rfl⟩
  refine qb ?_
  refine X.cond (t := (decide (((sub ar t k)).getD 0 0 ∈ fs) && freeB fs (((sub ar t k)).drop 1))) rfl (fun h2 => ?_) (fun h2 => ?_)
  ·have hca : callAt ar fs t k = true := by unfold callAt; rw [← sub_head ho (by omega)]; exact h2
   refine qc (qa (qd (ii ((k : Int))) rfl (qg (ii ((k : Int))) rfl (qb (qq (qu (qh (qh (qu (qh (qn (L' := L) [ii ((k : Int))] (ii ((k : Int))) (.tmp rfl .nil) rfl rF le1 (sD sR) ?_)))))))))))
   exact ⟨(vI (by rw [firstC_at (by omega) hca hall, if_neg (by omega)])), rfl, rfl⟩
  have hca : callAt ar fs t k = false := by unfold callAt; rw [← sub_head ho (by omega)]; exact h2
  refine qw (qa (cX (qG (((k + 1 : Nat) : Int)) rfl rfl (by omega) (by omega) (qd (ii (((k + 1 : Nat) : Int))) rfl (qb ?_)))))
  exact ⟨k + 1, _, FLe.refl _, le1, ⟨rfl, rfl, rfl, rfl, ⟨⟩⟩, (sC sR), ⟨rfl, (by (try dsimp only) <;> omega), (fun i hi => (Nat.lt_or_ge i k).elim (fun h => hall i h) (fun h => by obtain rfl : i = k := (by omega); exact hca))⟩, (by omega)⟩
 refine qX (qr (qr (qJ (qc (qa (qg (ii (-1)) rfl (qb (qq (qn (L' := L) [ii (-1)] (ii (-1)) (.tmp rfl .nil) rfl rF rF (sD sR) ?_)))))))))
 exact ⟨(vI (by rw [if_pos (firstC_none (fun i hi => hall i (by omega)))])), rfl, rfl⟩

/- (impl.Front).firstLine$1 -/
theorem firstLine1_spec {F : FH} {L : List HP} {fn : Int} {psv : Value} {ps : List (List Int)} (hps : RowsF F psv ps) {bdv : Value} {bd : List Int} (hbd : IntsF F bdv bd) {arv : Value} {ar : List Int} (har : IntsF F arv ar) {fsv : Value} {fs : List Int} (hfs : IntsF F fsv fs) {lsv : Value} {ls : List LineT} (hls : LinesF F lsv ls) {b : Nat} (hzb : FzC F b [arv, fsv, lsv]) {tv : Value} {t : List Int} (ht : IntsF F tv t) {c : Nat} (hzc : FzC F c [tv]) (ho : termOk ar t = true) (hpo : termOk ar (leftL (fn, ps, bd)) = true) (hpn : ps.length ≤ 10) (hpb : ∀ i, i < ps.length → (ps.getD i []).length ≤ 4000000) :
    Does prog 114 [.agg #[ii (fn), psv, bdv], ptr b 0, ptr c 0] F (L) (fun v F' L' => (.bool ((matchB ar (leftL (fn, ps, bd)) t).isSome) : Value) = v ∧ F = F' ∧ L = L') := by
 refine qB func114 rfl rfl rfl (qc (qa (cX (qP [ii (fn), psv, bdv] rfl rfl ?_))))
 intro b1
 refine qg (.bool (false)) rfl (qb (qc ?_))
 refine X.drawG [cellsH b1 [ii (fn), psv, bdv] 91] L 5 [] [[], [0], [], [2]] [] (phiG [pe (ptr b 0), pe (.agg #[arv]), pe (.agg #[ii (fn), psv, bdv]), fun FF us v => ((v) : Value) = v ∧ (IntsF FF (v) (leftL (fn, ps, bd))), pe tv]) (ownL []) mixed rfl rfl (by kernel_rfl) (by kernel_rfl) (MonoG.get (m1 (m1 (m1 (mC (fun le h => ⟨h.1, h.2.mono le⟩) (m1 MonoG.nil)))))) ?_ ?_
 ·refine gD (fun W Fs R lF z9 => ?_) ?_
  ·refine qj (qk (0) qD rfl qH (by decide) rfl rfl ?_)
   exact ⟨rfl, rfl⟩
  refine gD (fun W Fs R lF z9 => ?_) ?_
  ·replace hps := hps.mono lF
   replace hbd := hbd.mono lF
   replace har := har.mono lF
   replace hzb := hzb.mono lF
   replace ht := ht.mono lF
   replace hzc := hzc.mono lF
   rw [eS (l := [(0, _)]) ⟨z9 0 rfl, ⟨⟩⟩]
   refine qj (qC [arv] qW qH rfl rfl (FzC.rdN (o := 0) hzb rfl) ?_)
   exact ⟨rfl, rfl⟩
  refine gD (fun W Fs R lF z9 => ?_) ?_
  ·replace hps := hps.mono lF
   replace hbd := hbd.mono lF
   replace har := har.mono lF
   replace ht := ht.mono lF
   replace hzc := hzc.mono lF
   refine qj (qC [ii (fn), psv, bdv] isAgg91 ji rfl rfl (Rd.ownN [] rfl rfl) ?_)
   exact ⟨rfl, rfl⟩
  refine gD (fun W Fs R lF z9 => ?_) ?_
  ·replace hps := hps.mono lF
   replace hbd := hbd.mono lF
   replace har := har.mono lF
   replace ht := ht.mono lF
   replace hzc := hzc.mono lF
   rw [eS (l := [(2, _)]) ⟨z9 2 rfl, ⟨⟩⟩]
   refine qj (ql (args := [.agg #[ii (fn), psv, bdv]]) call58 rfl (left_spec hps hbd (hpn := (by first | assumption | rfl | omega | simp)) (hpb := (by first | assumption | rfl | omega | simp))) ?_)
   rintro _ F2 _ le2 ⟨x2, rfl, hr2, rfl⟩
   replace hps := hps.mono le2
   replace har := har.mono le2
   replace ht := ht.mono le2
   replace hzc := hzc.mono le2
   exact ⟨⟨rfl, hr2⟩, rfl⟩
  refine gD (fun W Fs R lF z9 => ?_) ?_
  ·replace hps := hps.mono lF
   replace har := har.mono lF
   replace ht := ht.mono lF
   replace hzc := hzc.mono lF
   refine qj (qi qK rfl (FzC.rd1 hzc rfl) ?_)
   exact ⟨rfl, rfl⟩
  exact stepsG.nil
 intro W F3 le3 hphi
 obtain ⟨e3, f3_1hr⟩ := hphi 3 (by decide)
 generalize hu1 : ((W 3)) = u1 at e3 f3_1hr
 rw [eS (l := [(1, _), (3, u1), (4, _)]) ⟨(hphi 1 (by decide)), hu1, (hphi 4 (by decide)), ⟨⟩⟩]
 replace har := har.mono le3
 replace ht := ht.mono le3
 show XL _ _ _ _ _ _ _ (cellsH b1 [ii (fn), psv, bdv] 91 :: L)
 refine cX (ql (args := [.agg #[arv], u1, tv]) call115 rfl (instance_spec har f3_1hr ht (ho := (ho)) (hpo := (hpo))) ?_)
 rintro _ _ _ _ ⟨rfl, rfl, rfl⟩
 refine qg (.bool ((matchB ar (leftL (fn, ps, bd)) t).isSome)) rfl (qb (qq (qn (L' := L) [.bool ((matchB ar (leftL (fn, ps, bd)) t).isSome)] (.bool ((matchB ar (leftL (fn, ps, bd)) t).isSome)) (.tmp rfl .nil) rfl rF le3 (sD sR) ?_)))
 exact ⟨rfl, rfl, rfl⟩

/- slices.IndexFunc[[]impl.Line,impl.Line] -/
theorem IndexFuncM_spec {F : FH} {L : List HP} {xsv : Value} {xs : List LineT} (hxs : LinesF F xsv xs) {arv : Value} {ar : List Int} (har : IntsF F arv ar) {fsv : Value} {fs : List Int} (hfs : IntsF F fsv fs) {lsv : Value} {ls : List LineT} (hls : LinesF F lsv ls) {b : Nat} (hzb : FzC F b [arv, fsv, lsv]) {tv : Value} {t : List Int} (ht : IntsF F tv t) {c : Nat} (hzc : FzC F c [tv]) (hlx : xs.length ≤ 4000000) (ho : termOk ar t = true) (hel : ∀ i, i < xs.length → termOk ar (leftL (xs.getD i (0, [], []))) = true ∧ (xs.getD i (0, [], [])).2.1.length ≤ 10 ∧ ∀ j, j < (xs.getD i (0, [], [])).2.1.length → ((xs.getD i (0, [], [])).2.1.getD j []).length ≤ 4000000) :
    Does prog 113 [xsv, .func (.func 114) #[] #[ptr b 0, ptr c 0]] F (L) (fun v F' L' => (ii (badG (fun x : LineT => !(matchB ar (leftL x) t).isSome) xs) : Value) = v ∧ F = F' ∧ L = L') := by
 refine qB func113 rfl rfl rfl (qc (qa (qg (ii (0)) rfl (qb (qc (qc (qa (qd (xsv) rfl (cX (qy qV rfl hxs.slv (qd (ii (0)) rfl (qb (qF (ja (α := Nat) (fun k => [(0, xsv), (1, .func (.func 114) #[] #[ptr b 0, ptr c 0]), (7, ii ((xs.length : Int))), (8, ii ((k : Int)))]) (fun k => L) (fun k F' => F = F' ∧ (k ≤ xs.length) ∧ (∀ i, i < k → (fun x : LineT => !(matchB ar (leftL x) t).isSome) (xs.getD i (0, [], [])) = true)) (fun k => xs.length - k) 0 ⟨rfl, rfl, rfl, rfl, ⟨⟩⟩ sR ⟨rfl, (by (try dsimp only) <;> omega), (fun i hi => absurd hi (by omega))⟩ ?_))))))))))))))
 rintro k rE _ _ ⟨rfl, hk, hall⟩
 show X _ _ _ _ (envs [(0, xsv), (1, .func (.func 114) #[] #[ptr b 0, ptr c 0]), (7, ii ((xs.length : Int))), (8, ii ((k : Int)))] rE) _ (L)
 refine qc (qa (cX (qI rfl rfl (qb (qc ?_)))))
 refine qv (p := (k : Int) < (xs.length : Int)) rfl (fun h1 => ?_) (fun h1 => ?_)
 ·refine qw (qc (qF (qc (qa (qd (ii ((k : Int))) rfl (qg (ii ((k : Int))) rfl (qb (qc (qa (qd (.func (.func 114) #[] #[ptr b 0, ptr c 0]) rfl (qd (xsv) rfl (qd (ii ((k : Int))) rfl (cX (qx k qV ji rfl rfl rfl hxs.slv (by omega) rfl ?_))))))))))))))
  obtain ⟨a1, a2, ha1, ha2, hrg1, hq1⟩ := hxs.rd (i := k) (by omega)
  refine cX (qC [ii ((xs.getD k (0, [], [])).1), a1, a2] isAgg91 ji rfl rfl (Rd.all (hrg1 _)) (cX (XOp.callV (first := []) (captured := [ptr b 0, ptr c 0]) (args := [.agg #[ii ((xs.getD k (0, [], [])).1), a1, a2], ptr b 0, ptr c 0]) call114 rfl rfl (firstLine1_spec ha1 ha2 har hfs hls hzb ht hzc (ho := (ho)) (hpo := ((hel k (by omega)).1)) (hpn := ((hel k (by omega)).2.1)) (hpb := ((hel k (by omega)).2.2))) ?_)))
  rintro _ _ _ _ ⟨rfl, rfl, rfl⟩
  refine qb ?_
  refine X.cond (t := (matchB ar (leftL (((xs.getD k (0, [], [])).1), ((xs.getD k (0, [], [])).2.1), ((xs.getD k (0, [], [])).2.2))) t).isSome) rfl (fun h2 => ?_) (fun h2 => ?_)
  ·have hlk := h2
   refine qc (qa (qd (ii ((k : Int))) rfl (qg (ii ((k : Int))) rfl (qb (qq (qu (qh (qh (qu (qh (qn (L' := L) [ii ((k : Int))] (ii ((k : Int))) (.tmp rfl .nil) rfl rF rF sR ?_)))))))))))
   exact ⟨(vI (badG_at ((0, [], []) : LineT) (by omega) (congrArg (fun b : Bool => !b) hlk) hall)), rfl, rfl⟩
  have hlk := h2
  refine qw (qa (cX (qG (((k + 1 : Nat) : Int)) rfl rfl (by omega) (by omega) (qd (ii (((k + 1 : Nat) : Int))) rfl (qb ?_)))))
  exact ⟨k + 1, _, FLe.refl _, rF, ⟨rfl, rfl, rfl, rfl, ⟨⟩⟩, sR, ⟨rfl, (by (try dsimp only) <;> omega), (fun i hi => (Nat.lt_or_ge i k).elim (fun h => hall i h) (fun h => by obtain rfl : i = k := (by omega); exact congrArg (fun b : Bool => !b) hlk))⟩, (by omega)⟩
 refine qX (qr (qr (qJ (qc (qa (qg (ii (-1)) rfl (qb (qq (qn (L' := L) [ii (-1)] (ii (-1)) (.tmp rfl .nil) rfl rF rF sR ?_)))))))))
 exact ⟨(vI (badG_none ((0, [], []) : LineT) (fun i hi => hall i (by omega)))), rfl, rfl⟩

/- (impl.Front).firstLine -/
theorem firstLine_spec {F : FH} {L : List HP} {arv : Value} {ar : List Int} (har : IntsF F arv ar) {fsv : Value} {fs : List Int} (hfs : IntsF F fsv fs) {lsv : Value} {ls : List LineT} (hls : LinesF F lsv ls) {tv : Value} {t : List Int} (ht : IntsF F tv t) (hfr : frontB ar fs ls = true) (ho : termOk ar t = true) :
    Does prog 56 [.agg #[arv, fsv, lsv], tv] F (L) (fun v F' L' => (ii (firstL ar ls t) : Value) = v ∧ F = F' ∧ L = L') := by
 refine qB func56 rfl rfl rfl ?_
 have hfi := front_iff.1 hfr
 have hsg := sigOk_spec hfi.1
 have hls8 := hfi.2.2.1
 have hln := fun (i : Nat) (hi : i < ls.length) => line_iff.1 ((all_getD_iff ((0, [], []) : LineT)).1 hfi.2.2.2 i hi)
 refine qc (qa (cX (qP [arv, fsv, lsv] rfl rfl ?_)))
 intro b1
 refine cX (qP [tv] rfl (cells_one (qT ht)) ?_)
 intro b2
 refine qg (ii (0)) rfl (qb (qc (qa (cX (qk (2) qD rfl sizeOf32 (by decide) rfl rfl (cX (qi isAgg32 rfl (Rd.own [_] rfl rfl) (cX (XOp.makeFuncL [] [ptr b1 0, ptr b2 0] rfl rfl (XL.freeze [_] _ _ rfl (fun F1 le1 hz1 => ?_)))))))))))
 replace har := har.mono le1
 replace hfs := hfs.mono le1
 replace hls := hls.mono le1
 replace ht := ht.mono le1
 have hf1 : FzC F1 b1 [arv, fsv, lsv] := Fz.cells hz1
 refine XL.freeze [] _ _ rfl (fun F2 le2 hz2 => ?_)
 replace har := har.mono le2
 replace hfs := hfs.mono le2
 replace hls := hls.mono le2
 replace ht := ht.mono le2
 replace hf1 := hf1.mono le2
 have hf2 : FzC F2 b2 [tv] := Fz.cells hz2
 refine cX (ql (args := [lsv, .func (.func 114) #[] #[ptr b1 0, ptr b2 0]]) call113 rfl (IndexFuncM_spec hls har hfs hls hf1 ht hf2 (hlx := (by omega)) (ho := (ho)) (hel := (fun i hi => ⟨(ruleOk_iff.1 (hln i hi).2.2.2.1).left, by have h9 := (hln i hi).2.1; have h8 := set_mem hfi.2.1 (hln i hi).1; have h7 := (hsg.2.2 (ls.getD i (0, [], [])).1.toNat (by omega)).2; omega, fun j hj => by have h9 := termOk_len ((hln i hi).2.2.1 j hj).1; omega⟩))) ?_)
 rintro _ _ _ _ ⟨rfl, rfl, rfl⟩
 refine qg (ii (badG (fun x : LineT => !(matchB ar (leftL x) t).isSome) ls)) rfl (qb (qq (qn (L' := L) [ii (badG (fun x : LineT => !(matchB ar (leftL x) t).isSome) ls)] (ii (badG (fun x : LineT => !(matchB ar (leftL x) t).isSome) ls)) (.tmp rfl .nil) rfl rF (qt le1 le2) sR ?_)))
 exact ⟨rfl, rfl, rfl⟩

/- impl.CallBy -/
set_option maxHeartbeats 2000000 in
set_option maxRecDepth 20000 in
theorem CallBy_spec {F : FH} {L : List HP} {arv : Value} {ar : List Int} (har : IntsF F arv ar) {fsv : Value} {fs : List Int} (hfs : IntsF F fsv fs) {lsv : Value} {ls : List LineT} (hls : LinesF F lsv ls) {tv : Value} {t : List Int} (ht : IntsF F tv t) {n : Int} (hsa : ar.length ≤ 4000000) (hlf : fs.length ≤ 4000000) (hll : ls.length ≤ 4000000) (hlb : ∀ i, i < ls.length → (ls.getD i (0, [], [])).2.1.length ≤ 4000000 ∧ (∀ j, j < (ls.getD i (0, [], [])).2.1.length → ((ls.getD i (0, [], [])).2.1.getD j []).length ≤ 4000000) ∧ (ls.getD i (0, [], [])).2.2.length ≤ 4000000) (hlt : t.length ≤ 4000000) :
    Does prog 11 [.agg #[arv, fsv, lsv], tv, ii (n)] F (L) (fun v F' L' => ∃ (a : Value), (.tuple #[a, ii ((callL ar fs ls t n).2)] : Value) = v ∧ (IntsF F' a (callL ar fs ls t n).1) ∧ (Fresh F F' (star [intsH 2 a (callL ar fs ls t n).1])) ∧ L = L') := by
 refine qB func11 rfl rfl rfl (qc (qa (cX (qP [arv, fsv, lsv] rfl rfl ?_))))
 intro b1
 refine qg (sN) rfl (qg (ii (0)) rfl (qb (qc (qc (qa (cX (qC [arv, fsv, lsv] isAgg34 jB rfl rfl (Rd.ownN [] rfl rfl) (cX (ql (args := [.agg #[arv, fsv, lsv]]) call34 rfl (FrontOk_spec har hfs hls (hsa := (by first | assumption | rfl | omega | simp)) (hlf := (by first | assumption | rfl | omega | simp)) (hll := (by first | assumption | rfl | omega | simp)) (hlb := (by first | assumption | rfl | omega | simp))) ?_)))))))))
 rintro _ _ _ _ ⟨rfl, rfl, rfl⟩
 refine cX (jn rfl (qd (.bool (!(frontB ar fs ls))) rfl ?_))
 by_cases h1 : (!(frontB ar fs ls)) = true
 ·have hfr := Bool.not_inj (y := false) h1
  refine qp (t := 20) rfl (vB h1) (qp (t := 20) rfl (vB h1) (qp (t := 20) rfl (vB h1) (qp (t := 20) rfl (vB h1) (qp (t := 20) rfl (vB h1) (cX (qM (.bool (true)) (vB h1) rfl (qd (.bool (true)) rfl (qp (t := 27) rfl rfl (qp (t := 27) rfl rfl (cX (qM (.bool (true)) rfl rfl ?_)))))))))))
  refine qd (.bool (true)) rfl (qp (t := 31) rfl rfl (qp (t := 31) rfl rfl (cX (qM (.bool (true)) rfl rfl (qb (jr rfl (qc (qa (qg (sN) rfl (qg (ii (-1)) rfl (qb ?_)))))))))))
  refine qq (qh (qn (L' := L) [sN, ii (-1)] (.tuple #[sN, ii (-1)]) (.tmp rfl (.tmp rfl .nil)) rfl rF rF (sD sR) ?_))
  have e : callL ar fs ls t n = ([], -1) := callL_no (fun h9 => by first | exact absurd (h9.1.symm.trans hfr) (by decide) | exact absurd (h9.2.1.symm.trans hgr) (by decide) | omega)
  exact ⟨_, by rw [e] <;> rfl, by rw [e]; exact IntsF.nilV, by rw [e]; exact Fresh.one (Fresh.ofNil _), rfl⟩
 rw [Bool.not_eq_true] at h1
 have hfr := Bool.not_inj (y := true) h1
 have hfi := front_iff.1 hfr
 have hsg := sigOk_spec hfi.1
 have hls8 := hfi.2.2.1
 have hln := fun (i : Nat) (hi : i < ls.length) => line_iff.1 ((all_getD_iff ((0, [], []) : LineT)).1 hfi.2.2.2 i hi)
 refine qo (t := 20) rfl (vB h1) (qk (0) qD rfl qH (by decide) rfl rfl (qo (t := 20) rfl (vB h1) (qC [arv] qW qH rfl rfl (Rd.ownN [] rfl rfl) (qo (t := 20) rfl (vB h1) (qm (tv) rfl (qo (t := 20) rfl (vB h1) (ql (args := [.agg #[arv], tv]) call52 rfl (iGroundIn_spec har ht (hlt := (by first | assumption | rfl | omega | simp))) ?_)))))))
 rintro _ _ _ _ ⟨rfl, rfl, rfl⟩
 refine qo (t := 20) rfl (vB h1) (jn rfl (cX (qL (.bool (!(groundB ar t))) (vB h1) rfl (qd (.bool (!(groundB ar t))) rfl ?_))))
 by_cases h2 : (!(groundB ar t)) = true
 ·have hgr := Bool.not_inj (y := false) h2
  refine qp (t := 27) rfl (vB h2) (qp (t := 27) rfl (vB h2) (cX (qM (.bool (true)) (vB h2) rfl (qd (.bool (true)) rfl (qp (t := 31) rfl rfl (qp (t := 31) rfl rfl (cX (qM (.bool (true)) rfl rfl (qb (jr rfl (qc (qa ?_))))))))))))
  refine qg (sN) rfl (qg (ii (-1)) rfl (qb (qq (qh (qn (L' := L) [sN, ii (-1)] (.tuple #[sN, ii (-1)]) (.tmp rfl (.tmp rfl .nil)) rfl rF rF (sD sR) ?_)))))
  have e : callL ar fs ls t n = ([], -1) := callL_no (fun h9 => by first | exact absurd (h9.1.symm.trans hfr) (by decide) | exact absurd (h9.2.1.symm.trans hgr) (by decide) | omega)
  exact ⟨_, by rw [e] <;> rfl, by rw [e]; exact IntsF.nilV, by rw [e]; exact Fresh.one (Fresh.ofNil _), rfl⟩
 rw [Bool.not_eq_true] at h2
 have hgr := Bool.not_inj (y := true) h2
 have hot := (ground_iff.1 hgr).1
 have htl9 := termOk_len hot
 refine qo (t := 27) rfl (vB h2) (qm (ii (n)) rfl (qo (t := 27) rfl (vB h2) (qI rfl rfl (cX (qL (.bool (decide ((n : Int) < 0))) (vB h2) rfl (qd (.bool (decide ((n : Int) < 0))) rfl ?_))))))
 by_cases h3 : (n : Int) < 0
 ·refine qp (t := 31) rfl (vT h3) (qp (t := 31) rfl (vT h3) (cX (qM (.bool (true)) (vT h3) rfl (qb (jr rfl (qc (qa (qg (sN) rfl (qg (ii (-1)) rfl (qb (qq (qh (qn (L' := L) [sN, ii (-1)] (.tuple #[sN, ii (-1)]) (.tmp rfl (.tmp rfl .nil)) rfl rF rF (sD sR) ?_)))))))))))))
  have e : callL ar fs ls t n = ([], -1) := callL_no (fun h9 => by first | exact absurd (h9.1.symm.trans hfr) (by decide) | exact absurd (h9.2.1.symm.trans hgr) (by decide) | omega)
  exact ⟨_, by rw [e] <;> rfl, by rw [e]; exact IntsF.nilV, by rw [e]; exact Fresh.one (Fresh.ofNil _), rfl⟩
 refine qo (t := 31) rfl (vF h3) (qm (ii (n)) rfl (qo (t := 31) rfl (vF h3) (jt rfl rfl (cX (qL (.bool (decide ((n : Int) > 60))) (vF h3) rfl (qb ?_))))))
 refine qv (p := (n : Int) > 60) rfl (fun h4 => ?_) (fun h4 => ?_)
 ·refine qc (qa (qg (sN) rfl (qg (ii (-1)) rfl (qb (qq (qh (qn (L' := L) [sN, ii (-1)] (.tuple #[sN, ii (-1)]) (.tmp rfl (.tmp rfl .nil)) rfl rF rF (sD sR) ?_)))))))
  have e : callL ar fs ls t n = ([], -1) := callL_no (fun h9 => by first | exact absurd (h9.1.symm.trans hfr) (by decide) | exact absurd (h9.2.1.symm.trans hgr) (by decide) | omega)
  exact ⟨_, by rw [e] <;> rfl, by rw [e]; exact IntsF.nilV, by rw [e]; exact Fresh.one (Fresh.ofNil _), rfl⟩
 refine qw (qc (qa (qd (tv) rfl (cX (jx <| ql (args := [tv]) call53 rfl (Clone_spec ht (hlt := (by omega))) ?_)))))
 rintro v1 _ _ _ ⟨rfl, hs1, rfl⟩
 refine ⟨_, _, rfl, fun F1 le1 hz1 => ?_⟩
 replace har := har.mono le1
 replace hfs := hfs.mono le1
 replace hls := hls.mono le1
 have hf1 : IntsF F1 v1 ((t)) := intsH.fz (xs := (t)) hz1.fz
 refine qg (v1) rfl (qb (qc (qa (qg (ii (0)) rfl (qb (qF (ja (α := Nat × Value × List Int × FH) (fun xQ => [(1, xQ.2.1), (2, ii (n)), (3, ptr b1 0), (8, ii (((xQ.1 : Nat) : Int)))]) (fun xQ => cellsH b1 [arv, fsv, lsv] 34 :: L) (fun xQ F' => xQ.2.2.2 = F' ∧ F1 ≤ xQ.2.2.2 ∧ (IntsF xQ.2.2.2 xQ.2.1 xQ.2.2.1) ∧ (Fresh F xQ.2.2.2 (intsH 2 xQ.2.1 xQ.2.2.1)) ∧ (termOk ar xQ.2.2.1 = true) ∧ ((xQ.1 : Int) ≤ n) ∧ (callL ar fs ls t n = callGo ar fs ls (n.toNat - xQ.1) xQ.2.2.1)) (fun xQ => n.toNat - xQ.1) (0, v1, (t), F1) ⟨rfl, rfl, rfl, rfl, ⟨⟩⟩ (sC sR) ⟨rfl, FLe.refl _, (hf1), (hz1), (hot), (by (try dsimp only); omega), (by (try dsimp only); rw [callL_yes hfr hgr (by omega)]; rfl)⟩ ?_)))))))
 rintro ⟨k, cv, cur, G1⟩ rE _ _ ⟨rfl, leG, hcv, hZ, hoc, hk, hgo⟩
 show X _ _ _ _ (envs [(1, cv), (2, ii (n)), (3, ptr b1 0), (8, ii ((k : Int)))] rE) _ (cellsH b1 [arv, fsv, lsv] 34 :: L)
 replace leG : F1 ≤ G1 := leG
 dsimp only at hcv hZ hoc hk hgo
 have hcl := termOk_len hoc
 have hnc := notNil_of_pos hcv (by omega)
 have leG1 := leG
 replace har := har.mono leG1
 replace hfs := hfs.mono leG1
 replace hls := hls.mono leG1
 refine qc (qF (qc (qa (cX (qC [arv, fsv, lsv] isAgg34 jB rfl rfl (Rd.ownN [] rfl rfl) (qd (cv) rfl (cX (ql (args := [.agg #[arv, fsv, lsv], cv]) call54 rfl (firstCall_spec har hfs hls hcv (hsig := (hfi.1)) (ho := (hoc)) (hlf := (by first | assumption | rfl | omega | simp))) ?_))))))))
 rintro _ _ _ _ ⟨rfl, rfl, rfl⟩
 refine qg (ii (if firstC ar fs cur = cur.length then -1 else ((firstC ar fs cur : Nat) : Int))) rfl (qb (qc (qc (qa (qd (ii (if firstC ar fs cur = cur.length then -1 else ((firstC ar fs cur : Nat) : Int))) rfl (cX (qI rfl rfl (qb ?_))))))))
 refine qv (p := (if firstC ar fs cur = cur.length then -1 else ((firstC ar fs cur : Nat) : Int) : Int) < 0) rfl (fun h5 => ?_) (fun h5 => ?_)
 ·have hfc : firstC ar fs cur = cur.length := by
    by_cases h9 : firstC ar fs cur = cur.length
    · exact h9
    · have h8 := h5
      rw [if_neg h9] at h8; omega
  refine qc (qa (qd (cv) rfl (qg (cv) rfl (qg (ii (0)) rfl (qb (qq (qh (qu (qh (qh (qu (qn (L' := L) [cv, ii (0)] (.tuple #[cv, ii (0)]) (.tmp rfl (.tmp rfl .nil)) rfl (qt le1 leG1) rF (sD sR) ?_))))))))))))
  have e := hgo.trans (call_done hfc)
  exact ⟨_, by rw [e], by rw [e]; exact hcv, by rw [e]; exact Fresh.one hZ, rfl⟩
 have hfc : firstC ar fs cur ≠ cur.length := fun h9 => by
   have h8 := h5
   rw [if_pos h9] at h8; omega
 have hfp : firstC ar fs cur < cur.length := by have := firstC_le (ar := ar) (fs := fs) (t := cur); omega
 have hfe : (if firstC ar fs cur = cur.length then -1 else ((firstC ar fs cur : Nat) : Int)) = ((firstC ar fs cur : Nat) : Int) := if_neg hfc
 have hoq := sub_ok hoc hfp
 have hql := termOk_len hoq
 simp only [hfe]
 skip
 refine qw (qc (qa (cX (qk (0) qD rfl qH (by decide) rfl rfl (cX (qC [arv] qW qH rfl rfl (Rd.ownN [] rfl rfl) (qd (cv) rfl (qd (ii ((((firstC ar fs cur) : Nat) : Int))) rfl (cX (ql (args := [.agg #[arv], cv, ii (((firstC ar fs cur) : Nat) : Int)]) call55 rfl (subAtW_spec (p := (firstC ar fs cur)) har hcv (ho := (termW_of hoc)) (hp := (hfp)) (hnn := (hnc))) ?_))))))))))
 rintro v2 _ _ _ ⟨rfl, rfl, hv1, hn1⟩
 refine qg (v2) rfl (qb (qc (qa (cX (qC [arv, fsv, lsv] isAgg34 jB rfl rfl (Rd.ownN [] rfl rfl) (qd (v2) rfl (cX (ql (args := [.agg #[arv, fsv, lsv], v2]) call56 rfl (firstLine_spec har hfs hls hv1 (hfr := (hfr)) (ho := (hoq))) ?_))))))))
 rintro _ _ _ _ ⟨rfl, rfl, rfl⟩
 refine qg (ii (firstL ar ls ((sub ar cur ((firstC ar fs cur)))))) rfl (qb (qc (qc (qa (qd (ii (firstL ar ls ((sub ar cur ((firstC ar fs cur)))))) rfl (cX (qI rfl rfl (qb ?_))))))))
 refine qv (p := (firstL ar ls ((sub ar cur ((firstC ar fs cur)))) : Int) < 0) rfl (fun h6 => ?_) (fun h6 => ?_)
 ·have hlg := h6
  refine qc (qa (qd (cv) rfl (qg (cv) rfl (qg (ii (1)) rfl (qb (qq (qh (qu (qh (qh (qu (qn (L' := L) [cv, ii (1)] (.tuple #[cv, ii (1)]) (.tmp rfl (.tmp rfl .nil)) rfl (qt le1 leG1) rF (sD sR) ?_))))))))))))
  have e := hgo.trans (call_gap hfc hlg)
  exact ⟨_, by rw [e], by rw [e]; exact hcv, by rw [e]; exact Fresh.one hZ, rfl⟩
 have hlg := h6
 obtain ⟨hqk, hqm⟩ := firstL_lt hlg
 have hRk := hln _ hqk
 have hRo := ruleOk_iff.1 hRk.2.2.2.1
 have hRl := hRo.left
 have hRr := hRo.right
 have hRrl := termOk_len hRr
 have hRg := fun k (hk : k < (ls.getD (firstL ar ls (sub ar cur (firstC ar fs cur))).toNat (0, [], [])).2.2.length) => termOk_ge hRr hk
 have hmp := matchP_len (ar := ar) (p := leftL (ls.getD (firstL ar ls (sub ar cur (firstC ar fs cur))).toNat (0, [], []))) (t := sub ar cur (firstC ar fs cur))
 have hmp2 := hmp.2
 have hmp3 := hmp.1
 have hel9 : ∀ i, i < ls.length → termOk ar (leftL (ls.getD i (0, [], []))) = true ∧ (ls.getD i (0, [], [])).2.1.length ≤ 10 ∧ ∀ j, j < (ls.getD i (0, [], [])).2.1.length → ((ls.getD i (0, [], [])).2.1.getD j []).length ≤ 4000000 := fun i hi => ⟨(ruleOk_iff.1 (hln i hi).2.2.2.1).left, by have h9 := (hln i hi).2.1; have h8 := set_mem hfi.2.1 (hln i hi).1; have h7 := (hsg.2.2 (ls.getD i (0, [], [])).1.toNat (by omega)).2; omega, fun j hj => by have h9 := termOk_len ((hln i hi).2.2.1 j hj).1; omega⟩
 refine qw (qc (qc (qa (qd (ii ((k : Int))) rfl (qd (ii (n)) rfl (cX (XOp.eql rfl rfl (qb ?_))))))))
 refine qv (p := (k : Int) = n) rfl (fun h7 => ?_) (fun h7 => ?_)
 ·refine qc (qa (qd (cv) rfl (qg (cv) rfl (qg (ii (2)) rfl (qb (qq (qh (qu (qh (qh (qu (qn (L' := L) [cv, ii (2)] (.tuple #[cv, ii (2)]) (.tmp rfl (.tmp rfl .nil)) rfl (qt le1 leG1) rF (sD sR) ?_))))))))))))
  have e := hgo.trans (call_fuel hfc hlg (by omega))
  exact ⟨_, by rw [e], by rw [e]; exact hcv, by rw [e]; exact Fresh.one hZ, rfl⟩
 refine qw (qc ?_)
 obtain ⟨a1, a2, ha1, ha2, hrg1, hq1⟩ := hls.rd (i := (firstL ar ls ((sub ar cur ((firstC ar fs cur))))).toNat) (by omega)
 refine X.drawG [cellsH b1 [arv, fsv, lsv] 34] L 15 [[], [], [], [], [], [], [], [], [], [], [9], [9], [], [], [9, 13]] [[], [0], [], [2], [], [3, 4], [5], [6], [], [1, 7, 8], [9], [9, 10], [9, 10], [], [9, 11, 13]] [[], [], [], [], [], [], [], [], [], [], [], [], [], [], [13]] (phiG [pe (ptr b1 0), pe (.agg #[arv]), pe (ptr b1 2), pe lsv, pe (ii (firstL ar ls ((sub ar cur ((firstC ar fs cur)))))), pe (.pointer (some (elemA lsv (((firstL ar ls ((sub ar cur ((firstC ar fs cur))))).toNat) * 3)))), pe (.agg #[ii ((ls.getD ((firstL ar ls ((sub ar cur ((firstC ar fs cur))))).toNat) (0, [], [])).1), a1, a2]), fun FF us v => ((v) : Value) = v ∧ (IntsF FF (v) (leftL (((ls.getD ((firstL ar ls ((sub ar cur ((firstC ar fs cur))))).toNat) (0, [], [])).1), ((ls.getD ((firstL ar ls ((sub ar cur ((firstC ar fs cur))))).toNat) (0, [], [])).2.1), ((ls.getD ((firstL ar ls ((sub ar cur ((firstC ar fs cur))))).toNat) (0, [], [])).2.2)))), pe v2, fun FF us v => (.tuple #[.agg #[((aggAt (tupAt v 0) 0))], .bool ((matchB ar (leftL (((ls.getD ((firstL ar ls ((sub ar cur ((firstC ar fs cur))))).toNat) (0, [], [])).1), ((ls.getD ((firstL ar ls ((sub ar cur ((firstC ar fs cur))))).toNat) (0, [], [])).2.1), ((ls.getD ((firstL ar ls ((sub ar cur ((firstC ar fs cur))))).toNat) (0, [], [])).2.2))) ((sub ar cur ((firstC ar fs cur))))).isSome)] : Value) = v ∧ (RowsF FF ((aggAt (tupAt v 0) 0)) (matchP ar (leftL (((ls.getD ((firstL ar ls ((sub ar cur ((firstC ar fs cur))))).toNat) (0, [], [])).1), ((ls.getD ((firstL ar ls ((sub ar cur ((firstC ar fs cur))))).toNat) (0, [], [])).2.1), ((ls.getD ((firstL ar ls ((sub ar cur ((firstC ar fs cur))))).toNat) (0, [], [])).2.2))) ((sub ar cur ((firstC ar fs cur)))))), fun FF us v => v = (.tuple #[.agg #[((aggAt (tupAt (us.getD 0 undef) 0) 0))], .bool ((matchB ar (leftL (((ls.getD ((firstL ar ls ((sub ar cur ((firstC ar fs cur))))).toNat) (0, [], [])).1), ((ls.getD ((firstL ar ls ((sub ar cur ((firstC ar fs cur))))).toNat) (0, [], [])).2.1), ((ls.getD ((firstL ar ls ((sub ar cur ((firstC ar fs cur))))).toNat) (0, [], [])).2.2))) ((sub ar cur ((firstC ar fs cur))))).isSome)] : Value), fun FF us v => v = (.agg #[((aggAt (tupAt (us.getD 0 undef) 0) 0))] : Value), pe (.bool ((matchB ar (leftL (((ls.getD ((firstL ar ls ((sub ar cur ((firstC ar fs cur))))).toNat) (0, [], [])).1), ((ls.getD ((firstL ar ls ((sub ar cur ((firstC ar fs cur))))).toNat) (0, [], [])).2.1), ((ls.getD ((firstL ar ls ((sub ar cur ((firstC ar fs cur))))).toNat) (0, [], [])).2.2))) ((sub ar cur ((firstC ar fs cur))))).isSome)), fun FF us v => v = ptr (blk v) 0, fun FF us v => True]) (ownL [o0, o0, o0, o0, o0, o0, o0, o0, o0, o0, o0, o0, o0, fun us v => [cellsH (blk v) [sN] 86], fun us v => [cellsH (blk (us.getD 1 undef)) [((aggAt (tupAt (us.getD 0 undef) 0) 0))] 86]]) mixed rfl rfl (by kernel_rfl) (by kernel_rfl) (MonoG.get (m1 (m1 (m1 (m1 (m1 (m1 (m1 (mC (fun le h => ⟨h.1, h.2.mono le⟩) (m1 (mC (fun le h => ⟨h.1, h.2.mono le⟩) (mC (fun le h => h) (mC (fun le h => h) (m1 (mC (fun le h => h) (mC (fun le h => h) MonoG.nil)))))))))))))))) ?_ ?_
 ·refine gD (fun W Fs R lF z9 => ?_) ?_
  ·refine qj (qk (0) qD rfl qH (by decide) rfl rfl ?_)
   exact ⟨rfl, rfl⟩
  refine gD (fun W Fs R lF z9 => ?_) ?_
  ·replace har := har.mono lF
   replace hls := hls.mono lF
   replace hcv := hcv.mono lF
   replace hv1 := hv1.mono lF
   replace ha1 := ha1.mono lF
   replace ha2 := ha2.mono lF
   replace hrg1 := fun L9 j9 u9 h9 => Rd.mono (hrg1 L9 j9 u9 h9) lF
   rw [eS (l := [(0, _)]) ⟨z9 0 rfl, ⟨⟩⟩]
   refine qj (qC [arv] qW qH rfl rfl (Rd.ownN [] rfl rfl) ?_)
   exact ⟨rfl, rfl⟩
  refine gD (fun W Fs R lF z9 => ?_) ?_
  ·refine qj (qk (2) qD rfl sizeOf32 (by decide) rfl rfl ?_)
   exact ⟨rfl, rfl⟩
  refine gD (fun W Fs R lF z9 => ?_) ?_
  ·replace har := har.mono lF
   replace hls := hls.mono lF
   replace hcv := hcv.mono lF
   replace hv1 := hv1.mono lF
   replace ha1 := ha1.mono lF
   replace ha2 := ha2.mono lF
   replace hrg1 := fun L9 j9 u9 h9 => Rd.mono (hrg1 L9 j9 u9 h9) lF
   rw [eS (l := [(2, _)]) ⟨z9 2 rfl, ⟨⟩⟩]
   refine qj (qi isAgg32 rfl (Rd.own [] rfl rfl) ?_)
   exact ⟨rfl, rfl⟩
  refine gD (fun W Fs R lF z9 => ?_) ?_
  ·refine qj (qm (ii (firstL ar ls ((sub ar cur ((firstC ar fs cur)))))) rfl ?_)
   exact ⟨rfl, rfl⟩
  refine gD (fun W Fs R lF z9 => ?_) ?_
  ·replace har := har.mono lF
   replace hls := hls.mono lF
   replace hcv := hcv.mono lF
   replace hv1 := hv1.mono lF
   replace ha1 := ha1.mono lF
   replace ha2 := ha2.mono lF
   replace hrg1 := fun L9 j9 u9 h9 => Rd.mono (hrg1 L9 j9 u9 h9) lF
   rw [eS (l := [(3, _), (4, _)]) ⟨z9 3 rfl, z9 4 rfl, ⟨⟩⟩]
   refine qj (qx ((firstL ar ls ((sub ar cur ((firstC ar fs cur))))).toNat) qV ji rfl rfl (by omega) hls.slv (by omega) rfl ?_)
   exact ⟨rfl, rfl⟩
  refine gD (fun W Fs R lF z9 => ?_) ?_
  ·replace har := har.mono lF
   replace hls := hls.mono lF
   replace hcv := hcv.mono lF
   replace hv1 := hv1.mono lF
   replace ha1 := ha1.mono lF
   replace ha2 := ha2.mono lF
   replace hrg1 := fun L9 j9 u9 h9 => Rd.mono (hrg1 L9 j9 u9 h9) lF
   rw [eS (l := [(5, _)]) ⟨z9 5 rfl, ⟨⟩⟩]
   refine qj (qC [ii ((ls.getD ((firstL ar ls ((sub ar cur ((firstC ar fs cur))))).toNat) (0, [], [])).1), a1, a2] isAgg91 ji rfl rfl (Rd.all (hrg1 _)) ?_)
   exact ⟨rfl, rfl⟩
  refine gD (fun W Fs R lF z9 => ?_) ?_
  ·replace har := har.mono lF
   replace hls := hls.mono lF
   replace hcv := hcv.mono lF
   replace hv1 := hv1.mono lF
   replace ha1 := ha1.mono lF
   replace ha2 := ha2.mono lF
   replace hrg1 := fun L9 j9 u9 h9 => Rd.mono (hrg1 L9 j9 u9 h9) lF
   rw [eS (l := [(6, _)]) ⟨z9 6 rfl, ⟨⟩⟩]
   refine qj (ql (args := [.agg #[ii ((ls.getD ((firstL ar ls ((sub ar cur ((firstC ar fs cur))))).toNat) (0, [], [])).1), a1, a2]]) call58 rfl (left_spec ha1 ha2 (hpn := ((hel9 _ hqk).2.1)) (hpb := ((hel9 _ hqk).2.2))) ?_)
   rintro _ F4 _ le4 ⟨x3, rfl, hr3, rfl⟩
   replace har := har.mono le4
   replace hls := hls.mono le4
   replace hcv := hcv.mono le4
   replace hv1 := hv1.mono le4
   replace ha2 := ha2.mono le4
   replace hrg1 := fun L9 j9 u9 h9 => Rd.mono (hrg1 L9 j9 u9 h9) le4
   exact ⟨⟨rfl, hr3⟩, rfl⟩
  refine gD (fun W Fs R lF z9 => ?_) ?_
  ·refine qj (qm (v2) rfl ?_)
   exact ⟨rfl, rfl⟩
  refine gD (fun W Fs R lF z9 => ?_) ?_
  ·obtain ⟨e7, f7_1hr⟩ := z9 7 rfl
   replace har := har.mono lF
   replace hls := hls.mono lF
   replace hcv := hcv.mono lF
   replace hv1 := hv1.mono lF
   replace ha2 := ha2.mono lF
   replace hrg1 := fun L9 j9 u9 h9 => Rd.mono (hrg1 L9 j9 u9 h9) lF
   rw [eS (l := [(1, _), (7, ((W 7))), (8, _)]) ⟨z9 1 rfl, (e7).symm, z9 8 rfl, ⟨⟩⟩]
   refine qj (ql (args := [.agg #[arv], ((W 7)), v2]) call57 rfl (match_spec har f7_1hr hv1 (ho := (hoq)) (hpo := (hRl))) ?_)
   rintro _ F5 _ le5 ⟨x4, rfl, hr4, rfl⟩
   replace har := har.mono le5
   replace hls := hls.mono le5
   replace hcv := hcv.mono le5
   replace ha2 := ha2.mono le5
   replace f7_1hr := f7_1hr.mono le5
   replace hrg1 := fun L9 j9 u9 h9 => Rd.mono (hrg1 L9 j9 u9 h9) le5
   exact ⟨⟨rfl, hr4⟩, rfl⟩
  refine gD (fun W Fs R lF z9 => ?_) ?_
  ·obtain ⟨e9, f9_1hr⟩ := z9 9 rfl
   rw [eS (l := [(9, (.tuple #[.agg #[((aggAt (tupAt (W 9) 0) 0))], .bool ((matchB ar (leftL (((ls.getD ((firstL ar ls ((sub ar cur ((firstC ar fs cur))))).toNat) (0, [], [])).1), ((ls.getD ((firstL ar ls ((sub ar cur ((firstC ar fs cur))))).toNat) (0, [], [])).2.1), ((ls.getD ((firstL ar ls ((sub ar cur ((firstC ar fs cur))))).toNat) (0, [], [])).2.2))) ((sub ar cur ((firstC ar fs cur))))).isSome)]))]) ⟨(e9).symm, ⟨⟩⟩]
   refine qj (qm (.tuple #[.agg #[((aggAt (tupAt (W 9) 0) 0))], .bool ((matchB ar (leftL (((ls.getD ((firstL ar ls ((sub ar cur ((firstC ar fs cur))))).toNat) (0, [], [])).1), ((ls.getD ((firstL ar ls ((sub ar cur ((firstC ar fs cur))))).toNat) (0, [], [])).2.1), ((ls.getD ((firstL ar ls ((sub ar cur ((firstC ar fs cur))))).toNat) (0, [], [])).2.2))) ((sub ar cur ((firstC ar fs cur))))).isSome)]) rfl ?_)
   exact ⟨rfl, rfl⟩
  refine gD (fun W Fs R lF z9 => ?_) ?_
  ·obtain ⟨e9, f9_1hr⟩ := z9 9 rfl
   have e10 : W 10 = (.tuple #[.agg #[((aggAt (tupAt (W 9) 0) 0))], .bool ((matchB ar (leftL (((ls.getD ((firstL ar ls ((sub ar cur ((firstC ar fs cur))))).toNat) (0, [], [])).1), ((ls.getD ((firstL ar ls ((sub ar cur ((firstC ar fs cur))))).toNat) (0, [], [])).2.1), ((ls.getD ((firstL ar ls ((sub ar cur ((firstC ar fs cur))))).toNat) (0, [], [])).2.2))) ((sub ar cur ((firstC ar fs cur))))).isSome)] : Value) := z9 10 rfl
   rw [eS (l := [(9, (.tuple #[.agg #[((aggAt (tupAt (W 9) 0) 0))], .bool ((matchB ar (leftL (((ls.getD ((firstL ar ls ((sub ar cur ((firstC ar fs cur))))).toNat) (0, [], [])).1), ((ls.getD ((firstL ar ls ((sub ar cur ((firstC ar fs cur))))).toNat) (0, [], [])).2.1), ((ls.getD ((firstL ar ls ((sub ar cur ((firstC ar fs cur))))).toNat) (0, [], [])).2.2))) ((sub ar cur ((firstC ar fs cur))))).isSome)])), (10, (.tuple #[.agg #[((aggAt (tupAt (W 9) 0) 0))], .bool ((matchB ar (leftL (((ls.getD ((firstL ar ls ((sub ar cur ((firstC ar fs cur))))).toNat) (0, [], [])).1), ((ls.getD ((firstL ar ls ((sub ar cur ((firstC ar fs cur))))).toNat) (0, [], [])).2.1), ((ls.getD ((firstL ar ls ((sub ar cur ((firstC ar fs cur))))).toNat) (0, [], [])).2.2))) ((sub ar cur ((firstC ar fs cur))))).isSome)]))]) ⟨(e9).symm, e10, ⟨⟩⟩]
   refine qj (jb (.agg #[((aggAt (tupAt (W 9) 0) 0))]) rfl rfl ?_)
   exact ⟨rfl, rfl⟩
  refine gD (fun W Fs R lF z9 => ?_) ?_
  ·obtain ⟨e9, f9_1hr⟩ := z9 9 rfl
   have e10 : W 10 = (.tuple #[.agg #[((aggAt (tupAt (W 9) 0) 0))], .bool ((matchB ar (leftL (((ls.getD ((firstL ar ls ((sub ar cur ((firstC ar fs cur))))).toNat) (0, [], [])).1), ((ls.getD ((firstL ar ls ((sub ar cur ((firstC ar fs cur))))).toNat) (0, [], [])).2.1), ((ls.getD ((firstL ar ls ((sub ar cur ((firstC ar fs cur))))).toNat) (0, [], [])).2.2))) ((sub ar cur ((firstC ar fs cur))))).isSome)] : Value) := z9 10 rfl
   rw [eS (l := [(9, (.tuple #[.agg #[((aggAt (tupAt (W 9) 0) 0))], .bool ((matchB ar (leftL (((ls.getD ((firstL ar ls ((sub ar cur ((firstC ar fs cur))))).toNat) (0, [], [])).1), ((ls.getD ((firstL ar ls ((sub ar cur ((firstC ar fs cur))))).toNat) (0, [], [])).2.1), ((ls.getD ((firstL ar ls ((sub ar cur ((firstC ar fs cur))))).toNat) (0, [], [])).2.2))) ((sub ar cur ((firstC ar fs cur))))).isSome)])), (10, (.tuple #[.agg #[((aggAt (tupAt (W 9) 0) 0))], .bool ((matchB ar (leftL (((ls.getD ((firstL ar ls ((sub ar cur ((firstC ar fs cur))))).toNat) (0, [], [])).1), ((ls.getD ((firstL ar ls ((sub ar cur ((firstC ar fs cur))))).toNat) (0, [], [])).2.1), ((ls.getD ((firstL ar ls ((sub ar cur ((firstC ar fs cur))))).toNat) (0, [], [])).2.2))) ((sub ar cur ((firstC ar fs cur))))).isSome)]))]) ⟨(e9).symm, e10, ⟨⟩⟩]
   refine qj (jb (.bool ((matchB ar (leftL (((ls.getD ((firstL ar ls ((sub ar cur ((firstC ar fs cur))))).toNat) (0, [], [])).1), ((ls.getD ((firstL ar ls ((sub ar cur ((firstC ar fs cur))))).toNat) (0, [], [])).2.1), ((ls.getD ((firstL ar ls ((sub ar cur ((firstC ar fs cur))))).toNat) (0, [], [])).2.2))) ((sub ar cur ((firstC ar fs cur))))).isSome)) rfl rfl ?_)
   exact ⟨rfl, rfl⟩
  refine gD (fun W Fs R lF z9 => ?_) ?_
  ·replace har := har.mono lF
   replace hls := hls.mono lF
   replace hcv := hcv.mono lF
   replace ha2 := ha2.mono lF
   replace hrg1 := fun L9 j9 u9 h9 => Rd.mono (hrg1 L9 j9 u9 h9) lF
   refine qj (jq [sN] jp rfl ?_)
   intro b3
   exact ⟨rfl, rfl⟩
  refine gD (fun W Fs R lF z9 => ?_) ?_
  ·obtain ⟨e9, f9_1hr⟩ := z9 9 rfl
   have e11 : W 11 = (.agg #[((aggAt (tupAt (W 9) 0) 0))] : Value) := z9 11 rfl
   have e13 : W 13 = ptr (blk (W 13)) 0 := z9 13 rfl
   replace har := har.mono lF
   replace hls := hls.mono lF
   replace hcv := hcv.mono lF
   replace ha2 := ha2.mono lF
   replace hrg1 := fun L9 j9 u9 h9 => Rd.mono (hrg1 L9 j9 u9 h9) lF
   rw [eS (l := [(9, (.tuple #[.agg #[((aggAt (tupAt (W 9) 0) 0))], .bool ((matchB ar (leftL (((ls.getD ((firstL ar ls ((sub ar cur ((firstC ar fs cur))))).toNat) (0, [], [])).1), ((ls.getD ((firstL ar ls ((sub ar cur ((firstC ar fs cur))))).toNat) (0, [], [])).2.1), ((ls.getD ((firstL ar ls ((sub ar cur ((firstC ar fs cur))))).toNat) (0, [], [])).2.2))) ((sub ar cur ((firstC ar fs cur))))).isSome)])), (11, (.agg #[((aggAt (tupAt (W 9) 0) 0))])), (13, ptr (blk (W 13)) 0)]) ⟨(e9).symm, e11, e13, ⟨⟩⟩]
   show XG _ _ _ _ _ (cellsH (blk (W 13)) [sN] 86 :: ([cellsH b1 [arv, fsv, lsv] 34] ++ R)) _
   refine qj (jd [] _ [((aggAt (tupAt (W 9) 0) 0))] jc rfl rfl rfl (qZ (jf (RowsF.isSl f9_1hr)) jj) rfl rfl rfl ?_)
   exact ⟨trivial, rfl⟩
  exact stepsG.nil
 intro W F6 le6 hphi
 obtain ⟨e7, f7_1hr⟩ := hphi 7 (by decide)
 obtain ⟨e9, f9_1hr⟩ := hphi 9 (by decide)
 have e10 : W 10 = (.tuple #[.agg #[((aggAt (tupAt (W 9) 0) 0))], .bool ((matchB ar (leftL (((ls.getD ((firstL ar ls ((sub ar cur ((firstC ar fs cur))))).toNat) (0, [], [])).1), ((ls.getD ((firstL ar ls ((sub ar cur ((firstC ar fs cur))))).toNat) (0, [], [])).2.1), ((ls.getD ((firstL ar ls ((sub ar cur ((firstC ar fs cur))))).toNat) (0, [], [])).2.2))) ((sub ar cur ((firstC ar fs cur))))).isSome)] : Value) := hphi 10 (by decide)
 have e11 : W 11 = (.agg #[((aggAt (tupAt (W 9) 0) 0))] : Value) := hphi 11 (by decide)
 have e13 : W 13 = ptr (blk (W 13)) 0 := hphi 13 (by decide)
 generalize hu1 : ((W 7)) = u1 at e7 f7_1hr e9 f9_1hr e10 e11 e13
 generalize hu2 : ((aggAt (tupAt (W 9) 0) 0)) = u2 at e7 f7_1hr e9 f9_1hr e10 e11 e13
 generalize hu3 : blk (W 13) = b4 at e7 f7_1hr e9 f9_1hr e10 e11 e13
 rw [eS (l := [(9, (.tuple #[.agg #[u2], .bool ((matchB ar (leftL (((ls.getD ((firstL ar ls ((sub ar cur ((firstC ar fs cur))))).toNat) (0, [], [])).1), ((ls.getD ((firstL ar ls ((sub ar cur ((firstC ar fs cur))))).toNat) (0, [], [])).2.1), ((ls.getD ((firstL ar ls ((sub ar cur ((firstC ar fs cur))))).toNat) (0, [], [])).2.2))) ((sub ar cur ((firstC ar fs cur))))).isSome)])), (12, _), (13, ptr b4 0)]) ⟨(e9).symm, (hphi 12 (by decide)), e13, ⟨⟩⟩]
 replace har := har.mono le6
 replace hls := hls.mono le6
 replace hcv := hcv.mono le6
 replace ha2 := ha2.mono le6
 replace hrg1 := fun L9 j9 u9 h9 => Rd.mono (hrg1 L9 j9 u9 h9) le6
 show XL _ _ _ _ _ _ _ (cellsH b4 [u2] 86 :: cellsH b1 [arv, fsv, lsv] 34 :: L)
 refine qg (.bool ((matchB ar (leftL (((ls.getD ((firstL ar ls ((sub ar cur ((firstC ar fs cur))))).toNat) (0, [], [])).1), ((ls.getD ((firstL ar ls ((sub ar cur ((firstC ar fs cur))))).toNat) (0, [], [])).2.1), ((ls.getD ((firstL ar ls ((sub ar cur ((firstC ar fs cur))))).toNat) (0, [], [])).2.2))) ((sub ar cur ((firstC ar fs cur))))).isSome)) rfl (qb (qc ?_))
 refine X.drawG [cellsH b4 [u2] 86, cellsH b1 [arv, fsv, lsv] 34] L 12 [[], [], [], [], [], [], [], [], [7], [7], [], [7]] [[], [], [1], [], [2, 3], [4], [5], [0, 6], [7], [7, 8], [7, 8], [7, 9]] [] (phiG [pe (.agg #[u2]), pe (ptr b1 2), pe lsv, pe (ii (firstL ar ls ((sub ar cur ((firstC ar fs cur)))))), pe (.pointer (some (elemA lsv (((firstL ar ls ((sub ar cur ((firstC ar fs cur))))).toNat) * 3)))), pe (.pointer (some (elemA lsv (((firstL ar ls ((sub ar cur ((firstC ar fs cur))))).toNat) * 3 + 2)))), pe a2, fun FF us v => (.tuple #[((tupAt v 0)), .bool ((fillL (matchP ar (leftL (((ls.getD ((firstL ar ls ((sub ar cur ((firstC ar fs cur))))).toNat) (0, [], [])).1), ((ls.getD ((firstL ar ls ((sub ar cur ((firstC ar fs cur))))).toNat) (0, [], [])).2.1), ((ls.getD ((firstL ar ls ((sub ar cur ((firstC ar fs cur))))).toNat) (0, [], [])).2.2))) ((sub ar cur ((firstC ar fs cur))))) ((ls.getD ((firstL ar ls ((sub ar cur ((firstC ar fs cur))))).toNat) (0, [], [])).2.2)).isSome)] : Value) = v ∧ (IntsF FF ((tupAt v 0)) ((fillL (matchP ar (leftL (((ls.getD ((firstL ar ls ((sub ar cur ((firstC ar fs cur))))).toNat) (0, [], [])).1), ((ls.getD ((firstL ar ls ((sub ar cur ((firstC ar fs cur))))).toNat) (0, [], [])).2.1), ((ls.getD ((firstL ar ls ((sub ar cur ((firstC ar fs cur))))).toNat) (0, [], [])).2.2))) ((sub ar cur ((firstC ar fs cur))))) ((ls.getD ((firstL ar ls ((sub ar cur ((firstC ar fs cur))))).toNat) (0, [], [])).2.2)).getD [])), fun FF us v => v = (.tuple #[((tupAt (us.getD 0 undef) 0)), .bool ((fillL (matchP ar (leftL (((ls.getD ((firstL ar ls ((sub ar cur ((firstC ar fs cur))))).toNat) (0, [], [])).1), ((ls.getD ((firstL ar ls ((sub ar cur ((firstC ar fs cur))))).toNat) (0, [], [])).2.1), ((ls.getD ((firstL ar ls ((sub ar cur ((firstC ar fs cur))))).toNat) (0, [], [])).2.2))) ((sub ar cur ((firstC ar fs cur))))) ((ls.getD ((firstL ar ls ((sub ar cur ((firstC ar fs cur))))).toNat) (0, [], [])).2.2)).isSome)] : Value), fun FF us v => v = ((tupAt (us.getD 0 undef) 0)), pe (.bool ((fillL (matchP ar (leftL (((ls.getD ((firstL ar ls ((sub ar cur ((firstC ar fs cur))))).toNat) (0, [], [])).1), ((ls.getD ((firstL ar ls ((sub ar cur ((firstC ar fs cur))))).toNat) (0, [], [])).2.1), ((ls.getD ((firstL ar ls ((sub ar cur ((firstC ar fs cur))))).toNat) (0, [], [])).2.2))) ((sub ar cur ((firstC ar fs cur))))) ((ls.getD ((firstL ar ls ((sub ar cur ((firstC ar fs cur))))).toNat) (0, [], [])).2.2)).isSome)), fun FF us v => v = ((tupAt (us.getD 0 undef) 0))]) (ownL []) mixed rfl rfl (by kernel_rfl) (by kernel_rfl) (MonoG.get (m1 (m1 (m1 (m1 (m1 (m1 (m1 (mC (fun le h => ⟨h.1, h.2.mono le⟩) (mC (fun le h => h) (mC (fun le h => h) (m1 (mC (fun le h => h) MonoG.nil))))))))))))) ?_ ?_
 ·refine gD (fun W Fs R lF z9 => ?_) ?_
  ·replace har := har.mono lF
   replace hls := hls.mono lF
   replace hcv := hcv.mono lF
   replace ha2 := ha2.mono lF
   replace f9_1hr := f9_1hr.mono lF
   replace hrg1 := fun L9 j9 u9 h9 => Rd.mono (hrg1 L9 j9 u9 h9) lF
   refine qj (qC [u2] jz jc rfl rfl (Rd.ownN [] rfl rfl) ?_)
   exact ⟨rfl, rfl⟩
  refine gD (fun W Fs R lF z9 => ?_) ?_
  ·refine qj (qk (2) qD rfl sizeOf32 (by decide) rfl rfl ?_)
   exact ⟨rfl, rfl⟩
  refine gD (fun W Fs R lF z9 => ?_) ?_
  ·replace har := har.mono lF
   replace hls := hls.mono lF
   replace hcv := hcv.mono lF
   replace ha2 := ha2.mono lF
   replace f9_1hr := f9_1hr.mono lF
   replace hrg1 := fun L9 j9 u9 h9 => Rd.mono (hrg1 L9 j9 u9 h9) lF
   rw [eS (l := [(1, _)]) ⟨z9 1 rfl, ⟨⟩⟩]
   refine qj (qi isAgg32 rfl (Rd.own [_] rfl rfl) ?_)
   exact ⟨rfl, rfl⟩
  refine gD (fun W Fs R lF z9 => ?_) ?_
  ·refine qj (qm (ii (firstL ar ls ((sub ar cur ((firstC ar fs cur)))))) rfl ?_)
   exact ⟨rfl, rfl⟩
  refine gD (fun W Fs R lF z9 => ?_) ?_
  ·replace har := har.mono lF
   replace hls := hls.mono lF
   replace hcv := hcv.mono lF
   replace ha2 := ha2.mono lF
   replace f9_1hr := f9_1hr.mono lF
   replace hrg1 := fun L9 j9 u9 h9 => Rd.mono (hrg1 L9 j9 u9 h9) lF
   rw [eS (l := [(2, _), (3, _)]) ⟨z9 2 rfl, z9 3 rfl, ⟨⟩⟩]
   refine qj (qx ((firstL ar ls ((sub ar cur ((firstC ar fs cur))))).toNat) qV ji rfl rfl (by omega) hls.slv (by omega) rfl ?_)
   exact ⟨rfl, rfl⟩
  refine gD (fun W Fs R lF z9 => ?_) ?_
  ·rw [eS (l := [(4, _)]) ⟨z9 4 rfl, ⟨⟩⟩]
   refine qj (XOp.fieldE (((firstL ar ls ((sub ar cur ((firstC ar fs cur))))).toNat) * 3 + 2) qO rfl qA (by decide) rfl rfl ?_)
   exact ⟨rfl, rfl⟩
  refine gD (fun W Fs R lF z9 => ?_) ?_
  ·replace har := har.mono lF
   replace hcv := hcv.mono lF
   replace ha2 := ha2.mono lF
   replace f9_1hr := f9_1hr.mono lF
   replace hrg1 := fun L9 j9 u9 h9 => Rd.mono (hrg1 L9 j9 u9 h9) lF
   rw [eS (l := [(5, _)]) ⟨z9 5 rfl, ⟨⟩⟩]
   refine qj (qi qK rfl (hrg1 _ 2 _ rfl) ?_)
   exact ⟨rfl, rfl⟩
  refine gD (fun W Fs R lF z9 => ?_) ?_
  ·replace har := har.mono lF
   replace hcv := hcv.mono lF
   replace ha2 := ha2.mono lF
   replace f9_1hr := f9_1hr.mono lF
   rw [eS (l := [(0, _), (6, _)]) ⟨z9 0 rfl, z9 6 rfl, ⟨⟩⟩]
   refine qj (ql (args := [.agg #[u2], a2]) call59 rfl (fill_spec f9_1hr ha2 (hsl := (Nat.le_trans hmp3 (by decide))) (hsb := (fun i => Nat.le_trans (hmp2 i) (by omega))) (htl := (by omega)) (htg := (fun k hk => by have := hRg k hk; omega))) ?_)
   rintro _ F8 _ le8 ⟨x6, rfl, hr7, hr8, rfl⟩
   replace har := har.mono le8
   replace hcv := hcv.mono le8
   exact ⟨⟨rfl, hr7⟩, rfl⟩
  refine gD (fun W Fs R lF z9 => ?_) ?_
  ·obtain ⟨e7, f7_2hr⟩ := z9 7 rfl
   rw [eS (l := [(7, (.tuple #[((tupAt (W 7) 0)), .bool ((fillL (matchP ar (leftL (((ls.getD ((firstL ar ls ((sub ar cur ((firstC ar fs cur))))).toNat) (0, [], [])).1), ((ls.getD ((firstL ar ls ((sub ar cur ((firstC ar fs cur))))).toNat) (0, [], [])).2.1), ((ls.getD ((firstL ar ls ((sub ar cur ((firstC ar fs cur))))).toNat) (0, [], [])).2.2))) ((sub ar cur ((firstC ar fs cur))))) ((ls.getD ((firstL ar ls ((sub ar cur ((firstC ar fs cur))))).toNat) (0, [], [])).2.2)).isSome)]))]) ⟨(e7).symm, ⟨⟩⟩]
   refine qj (qm (.tuple #[((tupAt (W 7) 0)), .bool ((fillL (matchP ar (leftL (((ls.getD ((firstL ar ls ((sub ar cur ((firstC ar fs cur))))).toNat) (0, [], [])).1), ((ls.getD ((firstL ar ls ((sub ar cur ((firstC ar fs cur))))).toNat) (0, [], [])).2.1), ((ls.getD ((firstL ar ls ((sub ar cur ((firstC ar fs cur))))).toNat) (0, [], [])).2.2))) ((sub ar cur ((firstC ar fs cur))))) ((ls.getD ((firstL ar ls ((sub ar cur ((firstC ar fs cur))))).toNat) (0, [], [])).2.2)).isSome)]) rfl ?_)
   exact ⟨rfl, rfl⟩
  refine gD (fun W Fs R lF z9 => ?_) ?_
  ·obtain ⟨e7, f7_2hr⟩ := z9 7 rfl
   have e8 : W 8 = (.tuple #[((tupAt (W 7) 0)), .bool ((fillL (matchP ar (leftL (((ls.getD ((firstL ar ls ((sub ar cur ((firstC ar fs cur))))).toNat) (0, [], [])).1), ((ls.getD ((firstL ar ls ((sub ar cur ((firstC ar fs cur))))).toNat) (0, [], [])).2.1), ((ls.getD ((firstL ar ls ((sub ar cur ((firstC ar fs cur))))).toNat) (0, [], [])).2.2))) ((sub ar cur ((firstC ar fs cur))))) ((ls.getD ((firstL ar ls ((sub ar cur ((firstC ar fs cur))))).toNat) (0, [], [])).2.2)).isSome)] : Value) := z9 8 rfl
   rw [eS (l := [(7, (.tuple #[((tupAt (W 7) 0)), .bool ((fillL (matchP ar (leftL (((ls.getD ((firstL ar ls ((sub ar cur ((firstC ar fs cur))))).toNat) (0, [], [])).1), ((ls.getD ((firstL ar ls ((sub ar cur ((firstC ar fs cur))))).toNat) (0, [], [])).2.1), ((ls.getD ((firstL ar ls ((sub ar cur ((firstC ar fs cur))))).toNat) (0, [], [])).2.2))) ((sub ar cur ((firstC ar fs cur))))) ((ls.getD ((firstL ar ls ((sub ar cur ((firstC ar fs cur))))).toNat) (0, [], [])).2.2)).isSome)])), (8, (.tuple #[((tupAt (W 7) 0)), .bool ((fillL (matchP ar (leftL (((ls.getD ((firstL ar ls ((sub ar cur ((firstC ar fs cur))))).toNat) (0, [], [])).1), ((ls.getD ((firstL ar ls ((sub ar cur ((firstC ar fs cur))))).toNat) (0, [], [])).2.1), ((ls.getD ((firstL ar ls ((sub ar cur ((firstC ar fs cur))))).toNat) (0, [], [])).2.2))) ((sub ar cur ((firstC ar fs cur))))) ((ls.getD ((firstL ar ls ((sub ar cur ((firstC ar fs cur))))).toNat) (0, [], [])).2.2)).isSome)]))]) ⟨(e7).symm, e8, ⟨⟩⟩]
   refine qj (jb (((tupAt (W 7) 0))) rfl rfl ?_)
   exact ⟨rfl, rfl⟩
  refine gD (fun W Fs R lF z9 => ?_) ?_
  ·obtain ⟨e7, f7_2hr⟩ := z9 7 rfl
   have e8 : W 8 = (.tuple #[((tupAt (W 7) 0)), .bool ((fillL (matchP ar (leftL (((ls.getD ((firstL ar ls ((sub ar cur ((firstC ar fs cur))))).toNat) (0, [], [])).1), ((ls.getD ((firstL ar ls ((sub ar cur ((firstC ar fs cur))))).toNat) (0, [], [])).2.1), ((ls.getD ((firstL ar ls ((sub ar cur ((firstC ar fs cur))))).toNat) (0, [], [])).2.2))) ((sub ar cur ((firstC ar fs cur))))) ((ls.getD ((firstL ar ls ((sub ar cur ((firstC ar fs cur))))).toNat) (0, [], [])).2.2)).isSome)] : Value) := z9 8 rfl
   rw [eS (l := [(7, (.tuple #[((tupAt (W 7) 0)), .bool ((fillL (matchP ar (leftL (((ls.getD ((firstL ar ls ((sub ar cur ((firstC ar fs cur))))).toNat) (0, [], [])).1), ((ls.getD ((firstL ar ls ((sub ar cur ((firstC ar fs cur))))).toNat) (0, [], [])).2.1), ((ls.getD ((firstL ar ls ((sub ar cur ((firstC ar fs cur))))).toNat) (0, [], [])).2.2))) ((sub ar cur ((firstC ar fs cur))))) ((ls.getD ((firstL ar ls ((sub ar cur ((firstC ar fs cur))))).toNat) (0, [], [])).2.2)).isSome)])), (8, (.tuple #[((tupAt (W 7) 0)), .bool ((fillL (matchP ar (leftL (((ls.getD ((firstL ar ls ((sub ar cur ((firstC ar fs cur))))).toNat) (0, [], [])).1), ((ls.getD ((firstL ar ls ((sub ar cur ((firstC ar fs cur))))).toNat) (0, [], [])).2.1), ((ls.getD ((firstL ar ls ((sub ar cur ((firstC ar fs cur))))).toNat) (0, [], [])).2.2))) ((sub ar cur ((firstC ar fs cur))))) ((ls.getD ((firstL ar ls ((sub ar cur ((firstC ar fs cur))))).toNat) (0, [], [])).2.2)).isSome)]))]) ⟨(e7).symm, e8, ⟨⟩⟩]
   refine qj (jb (.bool ((fillL (matchP ar (leftL (((ls.getD ((firstL ar ls ((sub ar cur ((firstC ar fs cur))))).toNat) (0, [], [])).1), ((ls.getD ((firstL ar ls ((sub ar cur ((firstC ar fs cur))))).toNat) (0, [], [])).2.1), ((ls.getD ((firstL ar ls ((sub ar cur ((firstC ar fs cur))))).toNat) (0, [], [])).2.2))) ((sub ar cur ((firstC ar fs cur))))) ((ls.getD ((firstL ar ls ((sub ar cur ((firstC ar fs cur))))).toNat) (0, [], [])).2.2)).isSome)) rfl rfl ?_)
   exact ⟨rfl, rfl⟩
  refine gD (fun W Fs R lF z9 => ?_) ?_
  ·obtain ⟨e7, f7_2hr⟩ := z9 7 rfl
   have e9 : W 9 = ((tupAt (W 7) 0)) := z9 9 rfl
   rw [eS (l := [(7, (.tuple #[((tupAt (W 7) 0)), .bool ((fillL (matchP ar (leftL (((ls.getD ((firstL ar ls ((sub ar cur ((firstC ar fs cur))))).toNat) (0, [], [])).1), ((ls.getD ((firstL ar ls ((sub ar cur ((firstC ar fs cur))))).toNat) (0, [], [])).2.1), ((ls.getD ((firstL ar ls ((sub ar cur ((firstC ar fs cur))))).toNat) (0, [], [])).2.2))) ((sub ar cur ((firstC ar fs cur))))) ((ls.getD ((firstL ar ls ((sub ar cur ((firstC ar fs cur))))).toNat) (0, [], [])).2.2)).isSome)])), (9, ((tupAt (W 7) 0)))]) ⟨(e7).symm, e9, ⟨⟩⟩]
   refine qj (XOp.assign (((tupAt (W 7) 0))) rfl ?_)
   exact ⟨rfl, rfl⟩
  exact stepsG.nil
 intro W F9 le9 hphi
 obtain ⟨e7, f7_2hr⟩ := hphi 7 (by decide)
 have e8 : W 8 = (.tuple #[((tupAt (W 7) 0)), .bool ((fillL (matchP ar (leftL (((ls.getD ((firstL ar ls ((sub ar cur ((firstC ar fs cur))))).toNat) (0, [], [])).1), ((ls.getD ((firstL ar ls ((sub ar cur ((firstC ar fs cur))))).toNat) (0, [], [])).2.1), ((ls.getD ((firstL ar ls ((sub ar cur ((firstC ar fs cur))))).toNat) (0, [], [])).2.2))) ((sub ar cur ((firstC ar fs cur))))) ((ls.getD ((firstL ar ls ((sub ar cur ((firstC ar fs cur))))).toNat) (0, [], [])).2.2)).isSome)] : Value) := hphi 8 (by decide)
 have e9 : W 9 = ((tupAt (W 7) 0)) := hphi 9 (by decide)
 have e11 : W 11 = ((tupAt (W 7) 0)) := hphi 11 (by decide)
 generalize hu4 : ((tupAt (W 7) 0)) = u3 at e7 f7_2hr e8 e9 e11
 rw [eS (l := [(7, (.tuple #[u3, .bool ((fillL (matchP ar (leftL (((ls.getD ((firstL ar ls ((sub ar cur ((firstC ar fs cur))))).toNat) (0, [], [])).1), ((ls.getD ((firstL ar ls ((sub ar cur ((firstC ar fs cur))))).toNat) (0, [], [])).2.1), ((ls.getD ((firstL ar ls ((sub ar cur ((firstC ar fs cur))))).toNat) (0, [], [])).2.2))) ((sub ar cur ((firstC ar fs cur))))) ((ls.getD ((firstL ar ls ((sub ar cur ((firstC ar fs cur))))).toNat) (0, [], [])).2.2)).isSome)])), (10, _), (11, u3)]) ⟨(e7).symm, (hphi 10 (by decide)), e11, ⟨⟩⟩]
 replace har := har.mono le9
 replace hcv := hcv.mono le9
 show XL _ _ _ _ _ _ _ (cellsH b4 [u2] 86 :: cellsH b1 [arv, fsv, lsv] 34 :: L)
 refine qg (.bool ((fillL (matchP ar (leftL (((ls.getD ((firstL ar ls ((sub ar cur ((firstC ar fs cur))))).toNat) (0, [], [])).1), ((ls.getD ((firstL ar ls ((sub ar cur ((firstC ar fs cur))))).toNat) (0, [], [])).2.1), ((ls.getD ((firstL ar ls ((sub ar cur ((firstC ar fs cur))))).toNat) (0, [], [])).2.2))) ((sub ar cur ((firstC ar fs cur))))) ((ls.getD ((firstL ar ls ((sub ar cur ((firstC ar fs cur))))).toNat) (0, [], [])).2.2)).isSome)) rfl (qb (qc (qc (qa (qd (.bool ((fillL (matchP ar (leftL (((ls.getD ((firstL ar ls ((sub ar cur ((firstC ar fs cur))))).toNat) (0, [], [])).1), ((ls.getD ((firstL ar ls ((sub ar cur ((firstC ar fs cur))))).toNat) (0, [], [])).2.1), ((ls.getD ((firstL ar ls ((sub ar cur ((firstC ar fs cur))))).toNat) (0, [], [])).2.2))) ((sub ar cur ((firstC ar fs cur))))) ((ls.getD ((firstL ar ls ((sub ar cur ((firstC ar fs cur))))).toNat) (0, [], [])).2.2)).isSome)) rfl (cX (jn rfl (qb ?_))))))))
 refine X.cond (t := !((fillL (matchP ar (leftL (((ls.getD ((firstL ar ls ((sub ar cur ((firstC ar fs cur))))).toNat) (0, [], [])).1), ((ls.getD ((firstL ar ls ((sub ar cur ((firstC ar fs cur))))).toNat) (0, [], [])).2.1), ((ls.getD ((firstL ar ls ((sub ar cur ((firstC ar fs cur))))).toNat) (0, [], [])).2.2))) ((sub ar cur ((firstC ar fs cur))))) ((ls.getD ((firstL ar ls ((sub ar cur ((firstC ar fs cur))))).toNat) (0, [], [])).2.2)).isSome)) rfl (fun h8 => ?_) (fun h8 => ?_)
 ·have hfs9 := Bool.not_inj (y := false) h8
  refine qc (qa (qd (cv) rfl (qg (cv) rfl (qg (ii (3)) rfl (qb (qq (qh (qu (qh (qh (qu (qn (L' := L) [cv, ii (3)] (.tuple #[cv, ii (3)]) (.tmp rfl (.tmp rfl .nil)) rfl (qt (qt (qt le1 leG1) le6) le9) rF (sD (sD sR)) ?_))))))))))))
  have e := hgo.trans (call_long hfc hlg (by omega) (step_nofillL hqk hqm hfs9))
  exact ⟨_, by rw [e], by rw [e]; exact hcv, by rw [e]; exact Fresh.one (hZ.mono (qt le6 le9)), rfl⟩
 have hfs9 := Bool.not_inj (y := true) h8
 have hfl9 := fill_getD_len hfs9 (by omega)
 refine qw (qc (qa (cX (qk (0) qD rfl qH (by decide) rfl rfl (cX (qC [arv] qW qH rfl rfl (Rd.ownN [_] rfl rfl) (qd (cv) rfl (qd (ii ((((firstC ar fs cur) : Nat) : Int))) rfl (qd (u3) rfl (cX (ql (args := [.agg #[arv], cv, ii (((firstC ar fs cur) : Nat) : Int), u3]) call60 rfl (putW_spec (p := (firstC ar fs cur)) har hcv f7_2hr (ho := (termW_of hoc)) (hp := (hfp)) (hul := (by omega))) ?_)))))))))))
 rintro _ F10 _ le10 ⟨x7, rfl, hr9, hr10, hr11, rfl⟩
 replace hcv := hcv.mono le10
 refine qd (.tuple #[x7, .bool ((putL ar cur ((firstC ar fs cur)) ((fillL (matchP ar (leftL (((ls.getD ((firstL ar ls ((sub ar cur ((firstC ar fs cur))))).toNat) (0, [], [])).1), ((ls.getD ((firstL ar ls ((sub ar cur ((firstC ar fs cur))))).toNat) (0, [], [])).2.1), ((ls.getD ((firstL ar ls ((sub ar cur ((firstC ar fs cur))))).toNat) (0, [], [])).2.2))) ((sub ar cur ((firstC ar fs cur))))) ((ls.getD ((firstL ar ls ((sub ar cur ((firstC ar fs cur))))).toNat) (0, [], [])).2.2)).getD [])).isSome)]) rfl (cX (jb (x7) rfl rfl (cX (jb (.bool ((putL ar cur ((firstC ar fs cur)) ((fillL (matchP ar (leftL (((ls.getD ((firstL ar ls ((sub ar cur ((firstC ar fs cur))))).toNat) (0, [], [])).1), ((ls.getD ((firstL ar ls ((sub ar cur ((firstC ar fs cur))))).toNat) (0, [], [])).2.1), ((ls.getD ((firstL ar ls ((sub ar cur ((firstC ar fs cur))))).toNat) (0, [], [])).2.2))) ((sub ar cur ((firstC ar fs cur))))) ((ls.getD ((firstL ar ls ((sub ar cur ((firstC ar fs cur))))).toNat) (0, [], [])).2.2)).getD [])).isSome)) rfl rfl (qg (x7) rfl (qg (.bool ((putL ar cur ((firstC ar fs cur)) ((fillL (matchP ar (leftL (((ls.getD ((firstL ar ls ((sub ar cur ((firstC ar fs cur))))).toNat) (0, [], [])).1), ((ls.getD ((firstL ar ls ((sub ar cur ((firstC ar fs cur))))).toNat) (0, [], [])).2.1), ((ls.getD ((firstL ar ls ((sub ar cur ((firstC ar fs cur))))).toNat) (0, [], [])).2.2))) ((sub ar cur ((firstC ar fs cur))))) ((ls.getD ((firstL ar ls ((sub ar cur ((firstC ar fs cur))))).toNat) (0, [], [])).2.2)).getD [])).isSome)) rfl ?_))))))
 refine qb (qc (qc (qa (qd (.bool ((putL ar cur ((firstC ar fs cur)) ((fillL (matchP ar (leftL (((ls.getD ((firstL ar ls ((sub ar cur ((firstC ar fs cur))))).toNat) (0, [], [])).1), ((ls.getD ((firstL ar ls ((sub ar cur ((firstC ar fs cur))))).toNat) (0, [], [])).2.1), ((ls.getD ((firstL ar ls ((sub ar cur ((firstC ar fs cur))))).toNat) (0, [], [])).2.2))) ((sub ar cur ((firstC ar fs cur))))) ((ls.getD ((firstL ar ls ((sub ar cur ((firstC ar fs cur))))).toNat) (0, [], [])).2.2)).getD [])).isSome)) rfl (cX (jn rfl (qb ?_)))))))
 refine X.cond (t := !((putL ar cur ((firstC ar fs cur)) ((fillL (matchP ar (leftL (((ls.getD ((firstL ar ls ((sub ar cur ((firstC ar fs cur))))).toNat) (0, [], [])).1), ((ls.getD ((firstL ar ls ((sub ar cur ((firstC ar fs cur))))).toNat) (0, [], [])).2.1), ((ls.getD ((firstL ar ls ((sub ar cur ((firstC ar fs cur))))).toNat) (0, [], [])).2.2))) ((sub ar cur ((firstC ar fs cur))))) ((ls.getD ((firstL ar ls ((sub ar cur ((firstC ar fs cur))))).toNat) (0, [], [])).2.2)).getD [])).isSome)) rfl (fun h9 => ?_) (fun h9 => ?_)
 ·have hps9 := Bool.not_inj (y := false) h9
  have hst9 := step_putL hqk hqm hfs9
  refine qc (qa (qd (cv) rfl (qg (cv) rfl (qg (ii (3)) rfl (qb (qq (qh (qu (qh (qh (qu (qn (L' := L) [cv, ii (3)] (.tuple #[cv, ii (3)]) (.tmp rfl (.tmp rfl .nil)) rfl (qt (qt (qt (qt le1 leG1) le6) le9) le10) rF (sD (sD sR)) ?_))))))))))))
  have e := hgo.trans (call_long hfc hlg (by omega) (by rw [hst9]; exact opt_none hps9))
  exact ⟨_, by rw [e], by rw [e]; exact hcv, by rw [e]; exact Fresh.one (hZ.mono (qt (qt le6 le9) le10)), rfl⟩
 have hps9 := Bool.not_inj (y := true) h9
 have hst9 := step_putL hqk hqm hfs9
 refine qw (qa (qd (x7) rfl (qg (x7) rfl (qb (qa (qd (ii ((k : Int))) rfl (cX (qG (((k + 1 : Nat) : Int)) rfl rfl (by omega) (by omega) (qg (ii (((k + 1 : Nat) : Int))) rfl (qb ?_))))))))))
 exact ⟨(k + 1, x7, (putL ar cur ((firstC ar fs cur)) ((fillL (matchP ar (leftL (((ls.getD ((firstL ar ls ((sub ar cur ((firstC ar fs cur))))).toNat) (0, [], [])).1), ((ls.getD ((firstL ar ls ((sub ar cur ((firstC ar fs cur))))).toNat) (0, [], [])).2.1), ((ls.getD ((firstL ar ls ((sub ar cur ((firstC ar fs cur))))).toNat) (0, [], [])).2.2))) ((sub ar cur ((firstC ar fs cur))))) ((ls.getD ((firstL ar ls ((sub ar cur ((firstC ar fs cur))))).toNat) (0, [], [])).2.2)).getD [])).getD [], F10), _, (qt (qt (qt leG1 le6) le9) le10), rF, ⟨rfl, rfl, rfl, rfl, ⟨⟩⟩, (sD (sC sR)), ⟨rfl, (qt (qt (qt leG1 le6) le9) le10), (hr9), ((hr11.base (qt (qt (qt le1 leG1) le6) le9))), ((step_okL hfr hoc hfp hqk (by rw [hst9]; exact opt_get hps9))), (by (try dsimp only); omega), ((hgo.trans ((call_next hfc hlg (by omega) (by rw [hst9]; exact opt_get hps9)).trans (by (try dsimp only); rw [show n.toNat - (k + 1) = n.toNat - k - 1 from by omega]))))⟩, (by (try dsimp only); omega)⟩

/- spec.l26Call -/
set_option maxRecDepth 20000 in
theorem l26Call_spec {F : FH} {L : List HP} {arv : Value} {ar : List Int} (har : IntsF F arv ar) {fsv : Value} {fs : List Int} (hfs : IntsF F fsv fs) {lsv : Value} {ls : List LineT} (hls : LinesF F lsv ls) {tv : Value} {t : List Int} (ht : IntsF F tv t) {p : Nat} (ho : termOk ar t = true) (hp : p < t.length) (hla : ar.length ≤ 4000000) (hlf : fs.length ≤ 4000000) :
    Does prog 43 [.agg #[arv, fsv, lsv], tv, ii ((p : Int))] F (L) (fun v F' L' => (.bool (callAt ar fs t p) : Value) = v ∧ F = F' ∧ L = L') := by
 refine qB func43 rfl rfl rfl ?_
 have htl := termOk_len ho
 have hee := endN_spec ho hp
 refine qc (qa (cX (qP [arv, fsv, lsv] rfl rfl ?_)))
 intro b1
 refine qg (.bool (false)) rfl (qb (qc (qa (cX (qk (0) qD rfl qH (by decide) rfl rfl (cX (qC [arv] qW qH rfl rfl (Rd.ownN [] rfl rfl) (qd (tv) rfl (qd (ii ((p : Int))) rfl (cX (ql (args := [.agg #[arv], tv, ii (p : Int)]) call102 rfl (l1End_ok (p := p) har ht (ho := (by first | assumption | rfl | omega | (left; simp; done) | (right; simp; done))) (hp := (by first | assumption | rfl | omega | (left; simp; done) | (right; simp; done)))) ?_)))))))))))
 rintro _ _ _ _ ⟨rfl, rfl, rfl⟩
 refine qg (ii (((endN ar t p : Nat) : Int))) rfl (qb (qc ?_))
 by_cases h1 : (t.getD p 0) ∈ fs
 ·refine X.drawG [cellsH b1 [arv, fsv, lsv] 34] L 15 [] [[], [0], [], [], [2, 3], [4], [1, 5], [6], [7], [7], [7, 9], [7], [7, 8, 10, 11], [7], [7, 13]] [] (phiG [pe (ptr b1 1), pe fsv, pe tv, pe (ii ((p : Int)) : Value), pe (.pointer (some (elemA tv (p)))), pe (ii (t.getD p 0)), pe (.bool (decide ((t.getD p 0) ∈ fs))), pe (.bool (decide ((t.getD p 0) ∈ fs))), pe tv, pe (ii ((p : Int)) : Value), pe (ii (((p + 1 : Nat) : Int)) : Value), pe (ii (((endN ar t p : Nat) : Int)) : Value), fun FF us v => (v : Value) = v ∧ (IntsF FF v ((t.drop (p + 1)).take ((endN ar t p) - (p + 1)))) ∧ (isNil v = isNil tv), pe (ptr b1 1), pe fsv]) (ownL []) mixed rfl rfl (by kernel_rfl) (by kernel_rfl) (MonoG.get (m1 (m1 (m1 (m1 (m1 (m1 (m1 (m1 (m1 (m1 (m1 (m1 (mC (fun le h => ⟨h.1, h.2.1.mono le, h.2.2⟩) (m1 (m1 MonoG.nil)))))))))))))))) ?_ ?_
  ·refine gD (fun W Fs R lF z9 => ?_) ?_
   ·refine qj (qk (1) qD rfl qA (by decide) rfl rfl ?_)
    exact ⟨rfl, rfl⟩
   refine gD (fun W Fs R lF z9 => ?_) ?_
   ·replace har := har.mono lF
    replace hfs := hfs.mono lF
    replace ht := ht.mono lF
    rw [eS (l := [(0, _)]) ⟨z9 0 rfl, ⟨⟩⟩]
    refine qj (qi qK rfl (Rd.own [] rfl rfl) ?_)
    exact ⟨rfl, rfl⟩
   refine gD (fun W Fs R lF z9 => ?_) ?_
   ·refine qj (qm (tv) rfl ?_)
    exact ⟨rfl, rfl⟩
   refine gD (fun W Fs R lF z9 => ?_) ?_
   ·refine qj (qm (ii ((p : Int))) rfl ?_)
    exact ⟨rfl, rfl⟩
   refine gD (fun W Fs R lF z9 => ?_) ?_
   ·replace har := har.mono lF
    replace hfs := hfs.mono lF
    replace ht := ht.mono lF
    rw [eS (l := [(2, _), (3, _)]) ⟨z9 2 rfl, z9 3 rfl, ⟨⟩⟩]
    refine qj (qx p qf qE rfl rfl rfl ht.slv (by omega) (Nat.mul_one _) ?_)
    exact ⟨rfl, rfl⟩
   refine gD (fun W Fs R lF z9 => ?_) ?_
   ·replace har := har.mono lF
    replace hfs := hfs.mono lF
    replace ht := ht.mono lF
    rw [eS (l := [(4, _)]) ⟨z9 4 rfl, ⟨⟩⟩]
    refine qj (qi qS rfl (ht.rd (by omega)) ?_)
    exact ⟨rfl, rfl⟩
   refine gD (fun W Fs R lF z9 => ?_) ?_
   ·replace har := har.mono lF
    replace hfs := hfs.mono lF
    replace ht := ht.mono lF
    rw [eS (l := [(1, _), (5, _)]) ⟨z9 1 rfl, z9 5 rfl, ⟨⟩⟩]
    refine qj (ql (args := [fsv, ii (t.getD p 0)]) call103 rfl (l1Has_spec (n := t.getD p 0) hfs (hbd := (by omega))) ?_)
    rintro _ _ _ _ ⟨rfl, rfl, rfl⟩
    exact ⟨rfl, rfl⟩
   refine gD (fun W Fs R lF z9 => ?_) ?_
   ·rw [eS (l := [(6, _)]) ⟨z9 6 rfl, ⟨⟩⟩]
    refine qj (qm (.bool (decide ((t.getD p 0) ∈ fs))) rfl ?_)
    exact ⟨rfl, rfl⟩
   refine gD (fun W Fs R lF z9 => ?_) ?_
   ·rw [eS (l := [(7, _)]) ⟨z9 7 rfl, ⟨⟩⟩]
    refine qR (t := 20) rfl (vT h1) (qm (tv) rfl ?_)
    exact ⟨rfl, rfl⟩
   refine gD (fun W Fs R lF z9 => ?_) ?_
   ·rw [eS (l := [(7, _)]) ⟨z9 7 rfl, ⟨⟩⟩]
    refine qR (t := 20) rfl (vT h1) (qm (ii ((p : Int))) rfl ?_)
    exact ⟨rfl, rfl⟩
   refine gD (fun W Fs R lF z9 => ?_) ?_
   ·rw [eS (l := [(7, _), (9, _)]) ⟨z9 7 rfl, z9 9 rfl, ⟨⟩⟩]
    refine qR (t := 20) rfl (vT h1) (qG (((p + 1 : Nat) : Int)) rfl rfl (by omega) (by omega) ?_)
    exact ⟨rfl, rfl⟩
   refine gD (fun W Fs R lF z9 => ?_) ?_
   ·rw [eS (l := [(7, _)]) ⟨z9 7 rfl, ⟨⟩⟩]
    refine qR (t := 20) rfl (vT h1) (qm (ii (((endN ar t p : Nat) : Int))) rfl ?_)
    exact ⟨rfl, rfl⟩
   refine gD (fun W Fs R lF z9 => ?_) ?_
   ·replace har := har.mono lF
    replace hfs := hfs.mono lF
    replace ht := ht.mono lF
    rw [eS (l := [(7, _), (8, _), (10, _), (11, _)]) ⟨z9 7 rfl, z9 8 rfl, z9 10 rfl, z9 11 rfl, ⟨⟩⟩]
    refine qR (t := 20) rfl (vT h1) (jw (p + 1) (endN ar t p) qf qE rfl ht ⟨_, rfl⟩ ⟨_, rfl⟩ (by omega) (by omega) ?_)
    intro v2 hv2 hn2
    exact ⟨⟨rfl, hv2, hn2⟩, rfl⟩
   refine gD (fun W Fs R lF z9 => ?_) ?_
   ·rw [eS (l := [(7, _)]) ⟨z9 7 rfl, ⟨⟩⟩]
    refine qR (t := 20) rfl (vT h1) (qk (1) qD rfl qA (by decide) rfl rfl ?_)
    exact ⟨rfl, rfl⟩
   refine gD (fun W Fs R lF z9 => ?_) ?_
   ·replace har := har.mono lF
    replace hfs := hfs.mono lF
    replace ht := ht.mono lF
    rw [eS (l := [(7, _), (13, _)]) ⟨z9 7 rfl, z9 13 rfl, ⟨⟩⟩]
    refine qR (t := 20) rfl (vT h1) (qi qK rfl (Rd.own [] rfl rfl) ?_)
    exact ⟨rfl, rfl⟩
   exact stepsG.nil
  intro W F1 le1 hphi
  obtain ⟨e12, f12_2hv, f12_2hn⟩ := hphi 12 (by decide)
  generalize hu1 : (W 12) = u1 at e12 f12_2hv f12_2hn
  rw [eS (l := [(7, _), (12, u1), (14, _)]) ⟨(hphi 7 (by decide)), hu1, (hphi 14 (by decide)), ⟨⟩⟩]
  replace hfs := hfs.mono le1
  replace ht := ht.mono le1
  show XL _ _ _ _ _ _ _ (cellsH b1 [arv, fsv, lsv] 34 :: L)
  refine qo (t := 20) rfl (vT h1) (ql (args := [u1, fsv]) call104 rfl (l26Without_spec f12_2hv hfs (hlt := (by simp; omega)) (hlf := (hlf))) ?_)
  rintro _ _ _ _ ⟨rfl, rfl, rfl⟩
  refine cX (qM (.bool (freeB fs (((t.drop (p + 1)).take ((endN ar t p) - (p + 1)))))) (vT h1) rfl (qg (.bool (freeB fs (((t.drop (p + 1)).take ((endN ar t p) - (p + 1)))))) rfl (qb (qq (qn (L' := L) [.bool (freeB fs (((t.drop (p + 1)).take ((endN ar t p) - (p + 1)))))] (.bool (freeB fs (((t.drop (p + 1)).take ((endN ar t p) - (p + 1)))))) (.tmp rfl .nil) rfl rF le1 (sD sR) ?_)))))
  exact ⟨(vB (by rw [← callAt_eq]; simp_all)), rfl, rfl⟩
 refine ju [cellsH b1 [arv, fsv, lsv] 34] L 15 [] [[], [0], [], [], [2, 3], [4], [1, 5], [6], [7], [7], [7, 9], [7], [7, 8, 10, 11], [7], [7, 13]] (phiL [qe (ptr b1 1), qe fsv, qe tv, qe (ii ((p : Int)) : Value), qe (.pointer (some (elemA tv (p)))), qe (ii (t.getD p 0)), qe (.bool (decide ((t.getD p 0) ∈ fs))), qe (.bool (decide ((t.getD p 0) ∈ fs))), qe undef, qe undef, qe undef, qe undef, qe undef, qe undef, qe undef]) (ownL []) mixed rfl rfl (by kernel_rfl) ?_ ?_
 ·refine pD (fun W R z9 => ?_) ?_
  ·refine qj (qk (1) qD rfl qA (by decide) rfl rfl ?_)
   exact ⟨rfl, rfl, rfl⟩
  refine pD (fun W R z9 => ?_) ?_
  ·rw [eS (l := [(0, _)]) ⟨z9 0 rfl, ⟨⟩⟩]
   refine qj (qi qK rfl (Rd.own [] rfl rfl) ?_)
   exact ⟨rfl, rfl, rfl⟩
  refine pD (fun W R z9 => ?_) ?_
  ·refine qj (qm (tv) rfl ?_)
   exact ⟨rfl, rfl, rfl⟩
  refine pD (fun W R z9 => ?_) ?_
  ·refine qj (qm (ii ((p : Int))) rfl ?_)
   exact ⟨rfl, rfl, rfl⟩
  refine pD (fun W R z9 => ?_) ?_
  ·rw [eS (l := [(2, _), (3, _)]) ⟨z9 2 rfl, z9 3 rfl, ⟨⟩⟩]
   refine qj (qx p qf qE rfl rfl rfl ht.slv (by omega) (Nat.mul_one _) ?_)
   exact ⟨rfl, rfl, rfl⟩
  refine pD (fun W R z9 => ?_) ?_
  ·rw [eS (l := [(4, _)]) ⟨z9 4 rfl, ⟨⟩⟩]
   refine qj (qi qS rfl (ht.rd (by omega)) ?_)
   exact ⟨rfl, rfl, rfl⟩
  refine pD (fun W R z9 => ?_) ?_
  ·rw [eS (l := [(1, _), (5, _)]) ⟨z9 1 rfl, z9 5 rfl, ⟨⟩⟩]
   refine qj (ql (args := [fsv, ii (t.getD p 0)]) call103 rfl (l1Has_spec (n := t.getD p 0) hfs (hbd := (by omega))) ?_)
   rintro _ _ _ _ ⟨rfl, rfl, rfl⟩
   exact ⟨rfl, rfl, rfl⟩
  refine pD (fun W R z9 => ?_) ?_
  ·rw [eS (l := [(6, _)]) ⟨z9 6 rfl, ⟨⟩⟩]
   refine qj (qm (.bool (decide ((t.getD p 0) ∈ fs))) rfl ?_)
   exact ⟨rfl, rfl, rfl⟩
  refine pD (fun W R z9 => ?_) ?_
  ·rw [eS (l := [(7, _)]) ⟨z9 7 rfl, ⟨⟩⟩]
   exact qY (t := 20) rfl (vF h1) ⟨rfl, rfl, rfl⟩
  refine pD (fun W R z9 => ?_) ?_
  ·rw [eS (l := [(7, _)]) ⟨z9 7 rfl, ⟨⟩⟩]
   exact qY (t := 20) rfl (vF h1) ⟨rfl, rfl, rfl⟩
  refine pD (fun W R z9 => ?_) ?_
  ·rw [eS (l := [(7, _), (9, undef)]) ⟨z9 7 rfl, z9 9 rfl, ⟨⟩⟩]
   exact qY (t := 20) rfl (vF h1) ⟨rfl, rfl, rfl⟩
  refine pD (fun W R z9 => ?_) ?_
  ·rw [eS (l := [(7, _)]) ⟨z9 7 rfl, ⟨⟩⟩]
   exact qY (t := 20) rfl (vF h1) ⟨rfl, rfl, rfl⟩
  refine pD (fun W R z9 => ?_) ?_
  ·rw [eS (l := [(7, _), (8, undef), (10, undef), (11, undef)]) ⟨z9 7 rfl, z9 8 rfl, z9 10 rfl, z9 11 rfl, ⟨⟩⟩]
   exact qY (t := 20) rfl (vF h1) ⟨rfl, rfl, rfl⟩
  refine pD (fun W R z9 => ?_) ?_
  ·rw [eS (l := [(7, _)]) ⟨z9 7 rfl, ⟨⟩⟩]
   exact qY (t := 20) rfl (vF h1) ⟨rfl, rfl, rfl⟩
  refine pD (fun W R z9 => ?_) ?_
  ·rw [eS (l := [(7, _), (13, undef)]) ⟨z9 7 rfl, z9 13 rfl, ⟨⟩⟩]
   exact qY (t := 20) rfl (vF h1) ⟨rfl, rfl, rfl⟩
  exact stepsP.nil
 intro W hphi
 rw [eS (l := [(7, _), (12, undef), (14, undef)]) ⟨(hphi 7 (by decide)), (hphi 12 (by decide)), (hphi 14 (by decide)), ⟨⟩⟩]
 show XL _ _ _ _ _ _ _ (cellsH b1 [arv, fsv, lsv] 34 :: L)
 refine qp (t := 20) rfl (vF h1) (cX (qL (.bool (false)) (vF h1) rfl (qg (.bool (false)) rfl (qb (qq (qn (L' := L) [.bool (false)] (.bool (false)) (.tmp rfl .nil) rfl rF rF (sD sR) ?_))))))
 exact ⟨(vB (by rw [← callAt_eq]; simp_all)), rfl, rfl⟩

/- spec.Matched -/
theorem sMatchedG_spec {F : FH} {L : List HP} {arv : Value} {ar : List Int} (har : IntsF F arv ar) {pv : Value} {p : List Int} (hp : IntsF F pv p) {tv : Value} {t : List Int} (ht : IntsF F tv t) (ho : termOk ar t = true) (hpo : termOk ar p = true) (hla : ar.length ≤ 4000000) :
    Does prog 46 [.agg #[arv], pv, tv] F (L) (fun v F' L' => ∃ (a : Value), (.tuple #[.agg #[a], .bool ((matchB ar p t).isSome)] : Value) = v ∧ (RowsF F' a (matchP ar p t)) ∧ L = L') := by
 refine qB func46 rfl rfl rfl ?_
 have hpl := termOk_len hpo
 have htl := termOk_len ho
 refine qc (qa (cX (qP [arv] rfl rfl ?_)))
 intro b1
 refine cX (jq [sN] jp rfl ?_)
 intro b2
 refine qg (.bool (false)) rfl (qb (qc (qc (qa (cX (qC [arv] qW qH rfl rfl (Rd.ownN [_] rfl rfl) (qd (pv) rfl (cX (ql (args := [.agg #[arv], pv]) call100 rfl (sTermOk_spec har hp (hla := (by first | assumption | rfl | omega | simp)) (hlt := (by first | assumption | rfl | omega | simp))) ?_)))))))))
 rintro _ _ _ _ ⟨rfl, rfl, rfl⟩
 refine cX (jn rfl (qd (.bool (!(termOk ar p))) rfl ?_))
 by_cases h1 : (!(termOk ar p)) = true
 ·exact absurd h1 (by simp [ho, hpo])
 rw [Bool.not_eq_true] at h1
 refine qo (t := 12) rfl (vB h1) (qC [arv] qW qH rfl rfl (Rd.ownN [_] rfl rfl) (qo (t := 12) rfl (vB h1) (qm (tv) rfl (qo (t := 12) rfl (vB h1) (ql (args := [.agg #[arv], tv]) call100 rfl (sTermOk_spec har ht (hla := (by first | assumption | rfl | omega | simp)) (hlt := (by first | assumption | rfl | omega | simp))) ?_)))))
 rintro _ _ _ _ ⟨rfl, rfl, rfl⟩
 refine qo (t := 12) rfl (vB h1) (jn rfl (cX (qL (.bool (!(termOk ar t))) (vB h1) rfl (qb ?_))))
 refine X.cond (t := !(termOk ar t)) rfl (fun h2 => ?_) (fun h2 => ?_)
 ·exact absurd h2 (by simp [ho, hpo])
 refine qw (qc (qa (cX (qC [arv] qW qH rfl rfl (Rd.ownN [_] rfl rfl) (qd (pv) rfl (qd (tv) rfl (cX (ql (args := [.agg #[arv], pv, tv]) call106 rfl (l4Match_spec har hp ht (ho := (by first | assumption | rfl | omega | simp)) (hpo := (by first | assumption | rfl | omega | simp))) ?_))))))))
 rintro _ F1 _ le1 ⟨x1, rfl, hr1, rfl⟩
 refine cX (jb (.agg #[x1]) rfl rfl (cX (jb (.bool ((matchB ar p t).isSome)) rfl rfl (cX (jd [] _ [x1] jc rfl rfl rfl (qZ (jf (RowsF.isSl hr1)) jj) rfl rfl rfl (qg (.bool ((matchB ar p t).isSome)) rfl (qb (qq (qn (L' := L) [.agg #[x1], .bool ((matchB ar p t).isSome)] (.tuple #[.agg #[x1], .bool ((matchB ar p t).isSome)]) (.cell rfl (loadNV [x1] jz jc rfl (Rd.ownN [] rfl rfl)) (.tmp rfl .nil)) rfl le1 rF (sD (sD sR)) ?_)))))))))
 exact ⟨_, rfl, hr1, rfl⟩

/- spec.InstanceIn -/
theorem sInstanceIn_spec {F : FH} {L : List HP} {arv : Value} {ar : List Int} (har : IntsF F arv ar) {pv : Value} {p : List Int} (hp : IntsF F pv p) {tv : Value} {t : List Int} (ht : IntsF F tv t) (ho : termOk ar t = true) (hpo : termOk ar p = true) (hla : ar.length ≤ 4000000) :
    Does prog 105 [.agg #[arv], pv, tv] F (L) (fun v F' L' => (.bool ((matchB ar p t).isSome) : Value) = v ∧ F = F' ∧ L = L') := by
 refine qB func105 rfl rfl rfl (qc (qa (cX (qP [arv] rfl rfl ?_))))
 intro b1
 refine qg (.bool (false)) rfl (qb (qc (qa (cX (qC [arv] qW qH rfl rfl (Rd.ownN [] rfl rfl) (qd (pv) rfl (qd (tv) rfl (cX (ql (args := [.agg #[arv], pv, tv]) call46 rfl (sMatchedG_spec har hp ht (ho := (by first | assumption | rfl | omega | simp)) (hpo := (by first | assumption | rfl | omega | simp)) (hla := (by first | assumption | rfl | omega | simp))) ?_)))))))))
 rintro _ F1 _ le1 ⟨x1, rfl, hr1, rfl⟩
 refine qd (.tuple #[.agg #[x1], .bool ((matchB ar p t).isSome)]) rfl (cX (jb (.agg #[x1]) rfl rfl (cX (jb (.bool ((matchB ar p t).isSome)) rfl rfl (cX (jq [sN] jp rfl ?_))))))
 intro b2
 refine cX (jd [] _ [x1] jc rfl rfl rfl (qZ (jf (RowsF.isSl hr1)) jj) rfl rfl rfl (qg (.bool ((matchB ar p t).isSome)) rfl (qb (qc (qa (qd (.bool ((matchB ar p t).isSome)) rfl (qg (.bool ((matchB ar p t).isSome)) rfl (qb (qq (qn (L' := L) [.bool ((matchB ar p t).isSome)] (.bool ((matchB ar p t).isSome)) (.tmp rfl .nil) rfl rF le1 (sD (sD sR)) ?_))))))))))
 exact ⟨rfl, rfl, rfl⟩

/- spec.l26First -/
set_option maxRecDepth 20000 in
theorem l26First_spec {F : FH} {L : List HP} {arv : Value} {ar : List Int} (har : IntsF F arv ar) {fsv : Value} {fs : List Int} (hfs : IntsF F fsv fs) {lsv : Value} {ls : List LineT} (hls : LinesF F lsv ls) {tv : Value} {t : List Int} (ht : IntsF F tv t) (hfr : frontB ar fs ls = true) (ho : termOk ar t = true) (hla : ar.length ≤ 4000000) :
    Does prog 45 [.agg #[arv, fsv, lsv], tv] F (L) (fun v F' L' => (ii (firstL ar ls t) : Value) = v ∧ F = F' ∧ L = L') := by
 refine qB func45 rfl rfl rfl ?_
 have hfi := front_iff.1 hfr
 have hsg := sigOk_spec hfi.1
 have hls8 := hfi.2.2.1
 have hln := fun (i : Nat) (hi : i < ls.length) => line_iff.1 ((all_getD_iff ((0, [], []) : LineT)).1 hfi.2.2.2 i hi)
 have hel9 : ∀ i, i < ls.length → termOk ar (leftL (ls.getD i (0, [], []))) = true ∧ (ls.getD i (0, [], [])).2.1.length ≤ 10 ∧ ∀ j, j < (ls.getD i (0, [], [])).2.1.length → ((ls.getD i (0, [], [])).2.1.getD j []).length ≤ 4000000 := fun i hi => ⟨(ruleOk_iff.1 (hln i hi).2.2.2.1).left, by have h9 := (hln i hi).2.1; have h8 := set_mem hfi.2.1 (hln i hi).1; have h7 := (hsg.2.2 (ls.getD i (0, [], [])).1.toNat (by omega)).2; omega, fun j hj => by have h9 := termOk_len ((hln i hi).2.2.1 j hj).1; omega⟩
 refine qc (qa (cX (qP [arv, fsv, lsv] rfl rfl ?_)))
 intro b1
 refine qg (ii (0)) rfl (qb (qc (qc (qa (qg (ii (0)) rfl (qb (qF (ja (α := Nat × FH) (fun xQ => [(1, tv), (2, ptr b1 0), (5, ii (((xQ.1 : Nat) : Int)))]) (fun xQ => cellsH b1 [arv, fsv, lsv] 34 :: L) (fun xQ F' => xQ.2 = F' ∧ F ≤ xQ.2 ∧ (xQ.1 ≤ ls.length) ∧ (∀ i, i < xQ.1 → (fun x : LineT => !(matchB ar (leftL x) t).isSome) (ls.getD i (0, [], [])) = true)) (fun xQ => ls.length - xQ.1) (0, F) ⟨rfl, rfl, rfl, ⟨⟩⟩ (sC sR) ⟨rfl, FLe.refl _, (by (try dsimp only) <;> omega), (fun i hi => absurd hi (by omega))⟩ ?_))))))))
 rintro ⟨k, G1⟩ rE _ _ ⟨rfl, leG, hk, hall⟩
 show X _ _ _ _ (envs [(1, tv), (2, ptr b1 0), (5, ii ((k : Int)))] rE) _ (cellsH b1 [arv, fsv, lsv] 34 :: L)
 replace leG : F ≤ G1 := leG
 dsimp only at hk hall
 have leG1 := leG
 replace har := har.mono leG1
 replace hls := hls.mono leG1
 replace ht := ht.mono leG1
 refine qc (qc (qa (qd (ii ((k : Int))) rfl (cX (qk (2) qD rfl sizeOf32 (by decide) rfl rfl (cX (qi isAgg32 rfl (Rd.own [] rfl rfl) (cX (qy qV rfl hls.slv (cX (qI rfl rfl (qb ?_))))))))))))
 refine qv (p := (k : Int) < (ls.length : Int)) rfl (fun h1 => ?_) (fun h1 => ?_)
 ·have hkl : k < ls.length := by omega
  have hek := hel9 k hkl
  refine qw (qc (qF (qc ?_)))
  obtain ⟨a1, a2, ha1, ha2, hrg1, hq1⟩ := hls.rd (i := k) (by omega)
  refine X.drawG [cellsH b1 [arv, fsv, lsv] 34] L 9 [] [[], [0], [], [2], [], [3, 4], [5], [6]] [] (phiG [pe (ptr b1 0), pe (.agg #[arv]), pe (ptr b1 2), pe lsv, pe (ii ((k : Int)) : Value), pe (.pointer (some (elemA lsv (k * 3)))), pe (.agg #[ii ((ls.getD k (0, [], [])).1), a1, a2]), fun FF us v => ((v) : Value) = v ∧ (IntsF FF (v) (leftL (((ls.getD k (0, [], [])).1), ((ls.getD k (0, [], [])).2.1), ((ls.getD k (0, [], [])).2.2)))), pe tv]) (ownL []) mixed rfl rfl (by kernel_rfl) (by kernel_rfl) (MonoG.get (m1 (m1 (m1 (m1 (m1 (m1 (m1 (mC (fun le h => ⟨h.1, h.2.mono le⟩) (m1 MonoG.nil)))))))))) ?_ ?_
  ·refine gD (fun W Fs R lF z9 => ?_) ?_
   ·refine qj (qk (0) qD rfl qH (by decide) rfl rfl ?_)
    exact ⟨rfl, rfl⟩
   refine gD (fun W Fs R lF z9 => ?_) ?_
   ·replace har := har.mono lF
    replace hls := hls.mono lF
    replace ht := ht.mono lF
    replace ha1 := ha1.mono lF
    replace ha2 := ha2.mono lF
    replace hrg1 := fun L9 j9 u9 h9 => Rd.mono (hrg1 L9 j9 u9 h9) lF
    rw [eS (l := [(0, _)]) ⟨z9 0 rfl, ⟨⟩⟩]
    refine qj (qC [arv] qW qH rfl rfl (Rd.ownN [] rfl rfl) ?_)
    exact ⟨rfl, rfl⟩
   refine gD (fun W Fs R lF z9 => ?_) ?_
   ·refine qj (qk (2) qD rfl sizeOf32 (by decide) rfl rfl ?_)
    exact ⟨rfl, rfl⟩
   refine gD (fun W Fs R lF z9 => ?_) ?_
   ·replace har := har.mono lF
    replace hls := hls.mono lF
    replace ht := ht.mono lF
    replace ha1 := ha1.mono lF
    replace ha2 := ha2.mono lF
    replace hrg1 := fun L9 j9 u9 h9 => Rd.mono (hrg1 L9 j9 u9 h9) lF
    rw [eS (l := [(2, _)]) ⟨z9 2 rfl, ⟨⟩⟩]
    refine qj (qi isAgg32 rfl (Rd.own [] rfl rfl) ?_)
    exact ⟨rfl, rfl⟩
   refine gD (fun W Fs R lF z9 => ?_) ?_
   ·refine qj (qm (ii ((k : Int))) rfl ?_)
    exact ⟨rfl, rfl⟩
   refine gD (fun W Fs R lF z9 => ?_) ?_
   ·replace har := har.mono lF
    replace hls := hls.mono lF
    replace ht := ht.mono lF
    replace ha1 := ha1.mono lF
    replace ha2 := ha2.mono lF
    replace hrg1 := fun L9 j9 u9 h9 => Rd.mono (hrg1 L9 j9 u9 h9) lF
    rw [eS (l := [(3, _), (4, _)]) ⟨z9 3 rfl, z9 4 rfl, ⟨⟩⟩]
    refine qj (qx k qV ji rfl rfl rfl hls.slv (by omega) rfl ?_)
    exact ⟨rfl, rfl⟩
   refine gD (fun W Fs R lF z9 => ?_) ?_
   ·replace har := har.mono lF
    replace ht := ht.mono lF
    replace ha1 := ha1.mono lF
    replace ha2 := ha2.mono lF
    replace hrg1 := fun L9 j9 u9 h9 => Rd.mono (hrg1 L9 j9 u9 h9) lF
    rw [eS (l := [(5, _)]) ⟨z9 5 rfl, ⟨⟩⟩]
    refine qj (qC [ii ((ls.getD k (0, [], [])).1), a1, a2] isAgg91 ji rfl rfl (Rd.all (hrg1 _)) ?_)
    exact ⟨rfl, rfl⟩
   refine gD (fun W Fs R lF z9 => ?_) ?_
   ·replace har := har.mono lF
    replace ht := ht.mono lF
    replace ha1 := ha1.mono lF
    replace ha2 := ha2.mono lF
    rw [eS (l := [(6, _)]) ⟨z9 6 rfl, ⟨⟩⟩]
    refine qj (jx <| ql (args := [.agg #[ii ((ls.getD k (0, [], [])).1), a1, a2]]) call47 rfl (l26Left_spec ha1 ha2 (hpn := (hek.2.1)) (hpb := (hek.2.2))) ?_)
    rintro v2 _ _ _ ⟨rfl, hs2, rfl⟩
    refine ⟨_, _, rfl, fun F1 le1 hz1 => ?_⟩
    replace har := har.mono le1
    replace ht := ht.mono le1
    have hf1 : IntsF F1 v2 ((leftL (((ls.getD k (0, [], [])).1), ((ls.getD k (0, [], [])).2.1), ((ls.getD k (0, [], [])).2.2)))) := intsH.fz (xs := (leftL (((ls.getD k (0, [], [])).1), ((ls.getD k (0, [], [])).2.1), ((ls.getD k (0, [], [])).2.2)))) hz1.fz
    exact ⟨⟨rfl, hf1⟩, rfl⟩
   refine gD (fun W Fs R lF z9 => ?_) ?_
   ·refine qj (qm (tv) rfl ?_)
    exact ⟨rfl, rfl⟩
   exact stepsG.nil
  intro W F2 le2 hphi
  obtain ⟨e7, f7_1ha⟩ := hphi 7 (by decide)
  generalize hu1 : ((W 7)) = u1 at e7 f7_1ha
  rw [eS (l := [(1, _), (7, u1), (8, _)]) ⟨(hphi 1 (by decide)), hu1, (hphi 8 (by decide)), ⟨⟩⟩]
  replace har := har.mono le2
  replace ht := ht.mono le2
  show XL _ _ _ _ _ _ _ (cellsH b1 [arv, fsv, lsv] 34 :: L)
  refine cX (ql (args := [.agg #[arv], u1, tv]) call105 rfl (sInstanceIn_spec har f7_1ha ht (ho := (ho)) (hpo := (hek.1)) (hla := (by first | assumption | rfl | omega | simp))) ?_)
  rintro _ _ _ _ ⟨rfl, rfl, rfl⟩
  refine qb ?_
  refine X.cond (t := (matchB ar ((leftL (((ls.getD k (0, [], [])).1), ((ls.getD k (0, [], [])).2.1), ((ls.getD k (0, [], [])).2.2)))) t).isSome) rfl (fun h2 => ?_) (fun h2 => ?_)
  ·have hlk := h2
   refine qc (qa (qd (ii ((k : Int))) rfl (qg (ii ((k : Int))) rfl (qb (qq (qu (qh (qh (qu (qh (qn (L' := L) [ii ((k : Int))] (ii ((k : Int))) (.tmp rfl .nil) rfl rF (qt leG1 le2) (sD sR) ?_)))))))))))
   exact ⟨(vI (badG_at ((0, [], []) : LineT) (by omega) (congrArg (fun b : Bool => !b) hlk) hall)), rfl, rfl⟩
  have hlk := h2
  refine qw (qa (qd (ii ((k : Int))) rfl (cX (qG (((k + 1 : Nat) : Int)) rfl rfl (by omega) (by omega) (qg (ii (((k + 1 : Nat) : Int))) rfl (qb ?_))))))
  exact ⟨(k + 1, F2), _, (qt leG1 le2), rF, ⟨rfl, rfl, rfl, ⟨⟩⟩, (sC sR), ⟨rfl, (qt leG1 le2), (by (try dsimp only) <;> omega), (fun i hi => (Nat.lt_or_ge i k).elim (fun h => hall i h) (fun h => by obtain rfl : i = k := (by omega); exact congrArg (fun b : Bool => !b) hlk))⟩, (by omega)⟩
 refine qX (qr (qr (qJ (qc (qa (qg (ii (-1)) rfl (qb (qq (qn (L' := L) [ii (-1)] (ii (-1)) (.tmp rfl .nil) rfl rF leG1 (sD sR) ?_)))))))))
 exact ⟨(vI (badG_none ((0, [], []) : LineT) (fun i hi => hall i (by omega)))), rfl, rfl⟩

/- spec.CallBy -/
set_option maxHeartbeats 2000000 in
set_option maxRecDepth 20000 in
theorem sCallBy_spec {F : FH} {L : List HP} {arv : Value} {ar : List Int} (har : IntsF F arv ar) {fsv : Value} {fs : List Int} (hfs : IntsF F fsv fs) {lsv : Value} {ls : List LineT} (hls : LinesF F lsv ls) {tv : Value} {t : List Int} (ht : IntsF F tv t) {n : Int} (hla : ar.length ≤ 4000000) (hlf : fs.length ≤ 4000000) (hll : ls.length ≤ 4000000) (hlb : ∀ i, i < ls.length → (ls.getD i (0, [], [])).2.1.length ≤ 4000000 ∧ (∀ j, j < (ls.getD i (0, [], [])).2.1.length → ((ls.getD i (0, [], [])).2.1.getD j []).length ≤ 4000000) ∧ (ls.getD i (0, [], [])).2.2.length ≤ 4000000) (hlt : t.length ≤ 4000000) :
    Does prog 8 [.agg #[arv, fsv, lsv], tv, ii (n)] F (L) (fun v F' L' => ∃ (a : Value), (.tuple #[a, ii ((callL ar fs ls t n).2)] : Value) = v ∧ (IntsF F' a (callL ar fs ls t n).1) ∧ L = L') := by
 refine qB func8 rfl rfl rfl (qc (qa (cX (qP [arv, fsv, lsv] rfl rfl ?_))))
 intro b1
 refine qg (sN) rfl (qg (ii (0)) rfl (qb (qc (qc (qa (cX (qC [arv, fsv, lsv] isAgg34 jB rfl rfl (Rd.ownN [] rfl rfl) (cX (ql (args := [.agg #[arv, fsv, lsv]]) call33 rfl (sFrontOk_spec har hfs hls (hla := (by first | assumption | rfl | omega | simp)) (hlf := (by first | assumption | rfl | omega | simp)) (hll := (by first | assumption | rfl | omega | simp)) (hlb := (by first | assumption | rfl | omega | simp))) ?_)))))))))
 rintro _ _ _ _ ⟨rfl, rfl, rfl⟩
 refine cX (jn rfl (qd (.bool (!(frontB ar fs ls))) rfl ?_))
 by_cases h1 : (!(frontB ar fs ls)) = true
 ·have hfr := Bool.not_inj (y := false) h1
  refine qp (t := 21) rfl (vB h1) (qp (t := 21) rfl (vB h1) (qp (t := 21) rfl (vB h1) (qp (t := 21) rfl (vB h1) (qp (t := 21) rfl (vB h1) (cX (qM (.bool (true)) (vB h1) rfl (qd (.bool (true)) rfl (qp (t := 28) rfl rfl (qp (t := 28) rfl rfl (qp (t := 28) rfl rfl ?_))))))))))
  refine cX (qM (.bool (true)) rfl rfl (qb (jr rfl (qc (qa (cX (qU (s := 1) [] [ii (0)] [] qf qE jl rfl (by decide) rfl CellsAre.nil rfl ?_)))))))
  intro v1 hv1
  refine qg (v1) rfl (qg (ii (-1)) rfl (qb ?_))
  show X _ _ _ _ _ _ (intsH 2 v1 ([] : List Int) :: cellsH b1 [arv, fsv, lsv] 34 :: L)
  refine jv [] _ _ rfl (fun F1 le1 hz1 => ?_)
  replace har := har.mono le1
  replace hfs := hfs.mono le1
  replace hls := hls.mono le1
  replace ht := ht.mono le1
  have hf1 : IntsF F1 v1 ([]) := intsH.fz (xs := []) hz1.fz
  refine qq (qh (qn (L' := L) [v1, ii (-1)] (.tuple #[v1, ii (-1)]) (.tmp rfl (.tmp rfl .nil)) rfl le1 rF (sD sR) ?_))
  have e : callL ar fs ls t n = ([], -1) := callL_no (fun h9 => by first | exact absurd (h9.1.symm.trans hfr) (by decide) | exact absurd (h9.2.1.symm.trans hgr) (by decide) | omega)
  exact ⟨_, by rw [e] <;> rfl, by rw [e]; exact hf1, rfl⟩
 rw [Bool.not_eq_true] at h1
 have hfr := Bool.not_inj (y := true) h1
 have hfi := front_iff.1 hfr
 have hsg := sigOk_spec hfi.1
 have hls8 := hfi.2.2.1
 have hln := fun (i : Nat) (hi : i < ls.length) => line_iff.1 ((all_getD_iff ((0, [], []) : LineT)).1 hfi.2.2.2 i hi)
 refine qo (t := 21) rfl (vB h1) (qk (0) qD rfl qH (by decide) rfl rfl (qo (t := 21) rfl (vB h1) (qC [arv] qW qH rfl rfl (Rd.ownN [] rfl rfl) (qo (t := 21) rfl (vB h1) (qm (tv) rfl (qo (t := 21) rfl (vB h1) (ql (args := [.agg #[arv], tv]) call40 rfl (sGroundIn_spec har ht (hla := (by first | assumption | rfl | omega | simp)) (hlt := (by first | assumption | rfl | omega | simp))) ?_)))))))
 rintro _ _ _ _ ⟨rfl, rfl, rfl⟩
 refine qo (t := 21) rfl (vB h1) (jn rfl (cX (qL (.bool (!(groundB ar t))) (vB h1) rfl (qd (.bool (!(groundB ar t))) rfl ?_))))
 by_cases h2 : (!(groundB ar t)) = true
 ·have hgr := Bool.not_inj (y := false) h2
  refine qp (t := 28) rfl (vB h2) (qp (t := 28) rfl (vB h2) (qp (t := 28) rfl (vB h2) (cX (qM (.bool (true)) (vB h2) rfl (qb (jr rfl (qc (qa (cX (qU (s := 1) [] [ii (0)] [] qf qE jl rfl (by decide) rfl CellsAre.nil rfl ?_))))))))))
  intro v2 hv2
  refine qg (v2) rfl (qg (ii (-1)) rfl (qb ?_))
  show X _ _ _ _ _ _ (intsH 2 v2 ([] : List Int) :: cellsH b1 [arv, fsv, lsv] 34 :: L)
  refine jv [] _ _ rfl (fun F2 le2 hz2 => ?_)
  replace har := har.mono le2
  replace hfs := hfs.mono le2
  replace hls := hls.mono le2
  replace ht := ht.mono le2
  have hf2 : IntsF F2 v2 ([]) := intsH.fz (xs := []) hz2.fz
  refine qq (qh (qn (L' := L) [v2, ii (-1)] (.tuple #[v2, ii (-1)]) (.tmp rfl (.tmp rfl .nil)) rfl le2 rF (sD sR) ?_))
  have e : callL ar fs ls t n = ([], -1) := callL_no (fun h9 => by first | exact absurd (h9.1.symm.trans hfr) (by decide) | exact absurd (h9.2.1.symm.trans hgr) (by decide) | omega)
  exact ⟨_, by rw [e] <;> rfl, by rw [e]; exact hf2, rfl⟩
 rw [Bool.not_eq_true] at h2
 have hgr := Bool.not_inj (y := true) h2
 have hot := (ground_iff.1 hgr).1
 have htl9 := termOk_len hot
 refine qo (t := 28) rfl (vB h2) (qm (ii (n)) rfl (qo (t := 28) rfl (vB h2) (ql (args := [ii (n), ii (0), ii (60)]) call41 rfl (l1In_spec (n := n) (a := 0) (b := 60)) ?_)))
 rintro _ _ _ _ ⟨rfl, rfl, rfl⟩
 refine qo (t := 28) rfl (vB h2) (jo rfl (cX (qL (.bool (decide (¬(0 ≤ n ∧ n ≤ 60)))) (vB h2) rfl (qb ?_))))
 refine qv (p := ¬(0 ≤ n ∧ n ≤ 60)) rfl (fun h3 => ?_) (fun h3 => ?_)
 ·refine qc (qa (cX (qU (s := 1) [] [ii (0)] [] qf qE jl rfl (by decide) rfl CellsAre.nil rfl ?_)))
  intro v3 hv3
  refine qg (v3) rfl (qg (ii (-1)) rfl (qb ?_))
  show X _ _ _ _ _ _ (intsH 2 v3 ([] : List Int) :: cellsH b1 [arv, fsv, lsv] 34 :: L)
  refine jv [] _ _ rfl (fun F3 le3 hz3 => ?_)
  replace har := har.mono le3
  replace hfs := hfs.mono le3
  replace hls := hls.mono le3
  replace ht := ht.mono le3
  have hf3 : IntsF F3 v3 ([]) := intsH.fz (xs := []) hz3.fz
  refine qq (qh (qn (L' := L) [v3, ii (-1)] (.tuple #[v3, ii (-1)]) (.tmp rfl (.tmp rfl .nil)) rfl le3 rF (sD sR) ?_))
  have e : callL ar fs ls t n = ([], -1) := callL_no (fun h9 => by first | exact absurd (h9.1.symm.trans hfr) (by decide) | exact absurd (h9.2.1.symm.trans hgr) (by decide) | omega)
  exact ⟨_, by rw [e] <;> rfl, by rw [e]; exact hf3, rfl⟩
 refine qw (qc (qa (qd (tv) rfl (cX (jx <| ql (args := [tv]) call42 rfl (l1Copy_spec ht (hlt := (by omega))) ?_)))))
 rintro v4 _ _ _ ⟨rfl, hs1, rfl⟩
 refine ⟨_, _, rfl, fun F4 le4 hz4 => ?_⟩
 replace har := har.mono le4
 replace hfs := hfs.mono le4
 replace hls := hls.mono le4
 have hf4 : IntsF F4 v4 ((t)) := intsH.fz (xs := (t)) hz4.fz
 refine qg (v4) rfl (qb (qF (ja (α := Nat × Value × List Int × FH) (fun xQ => [(2, ii (((xQ.1 : Nat) : Int))), (3, ptr b1 0), (8, xQ.2.1)]) (fun xQ => cellsH b1 [arv, fsv, lsv] 34 :: L) (fun xQ F' => xQ.2.2.2 = F' ∧ F4 ≤ xQ.2.2.2 ∧ (IntsF xQ.2.2.2 xQ.2.1 xQ.2.2.1) ∧ (termOk ar xQ.2.2.1 = true) ∧ (callL ar fs ls t n = callGo ar fs ls xQ.1 xQ.2.2.1) ∧ (xQ.1 ≤ 60)) (fun xQ => xQ.1) (n.toNat, v4, (t), F4) ⟨(vI (by (try dsimp only); omega)), rfl, rfl, ⟨⟩⟩ (sC sR) ⟨rfl, FLe.refl _, (hf4), (hot), (callL_yes hfr hgr (by omega)), (by (try dsimp only); omega)⟩ ?_)))
 rintro ⟨f, cv, cur, G1⟩ rE _ _ ⟨rfl, leG, hcv, hoc, hgo, hf60⟩
 show X _ _ _ _ (envs [(2, ii ((f : Int))), (3, ptr b1 0), (8, cv)] rE) _ (cellsH b1 [arv, fsv, lsv] 34 :: L)
 replace leG : F4 ≤ G1 := leG
 dsimp only at hcv hoc hgo hf60
 have hcl := termOk_len hoc
 have leG1 := leG
 replace har := har.mono leG1
 replace hfs := hfs.mono leG1
 replace hls := hls.mono leG1
 refine qF (qc (qa (qg (ii (0)) rfl (qb (qc (qF (ja (α := Nat × FH) (fun xQ => [(2, ii ((f : Int))), (3, ptr b1 0), (8, cv), (9, ii (((xQ.1 : Nat) : Int)))]) (fun xQ => cellsH b1 [arv, fsv, lsv] 34 :: L) (fun xQ F' => xQ.2 = F' ∧ G1 ≤ xQ.2 ∧ (xQ.1 ≤ cur.length) ∧ (∀ i, i < xQ.1 → callAt ar fs cur i = false)) (fun xQ => cur.length - xQ.1) (0, G1) ⟨rfl, rfl, rfl, rfl, ⟨⟩⟩ (sC sR) ⟨rfl, FLe.refl _, (by (try dsimp only) <;> omega), (fun i hi => absurd hi (by omega))⟩ ?_)))))))
 rintro ⟨p, G2⟩ rE _ _ ⟨rfl, leG, hp, hall⟩
 show X _ _ _ _ (envs [(2, ii ((f : Int))), (3, ptr b1 0), (8, cv), (9, ii ((p : Int)))] rE) _ (cellsH b1 [arv, fsv, lsv] 34 :: L)
 replace leG : G1 ≤ G2 := leG
 dsimp only at hp hall
 have leG2 := leG
 replace har := har.mono leG2
 replace hfs := hfs.mono leG2
 replace hls := hls.mono leG2
 replace hcv := hcv.mono leG2
 refine qc (qc (qa (qd (ii ((p : Int))) rfl (qd (cv) rfl (cX (qy qf rfl hcv.slv (cX (qI rfl rfl (qd (.bool (decide ((p : Int) < (cur.length : Int)))) rfl ?_)))))))))
 by_cases h4 : (p : Int) < (cur.length : Int)
 ·refine qo (t := 40) rfl (vT h4) (qC [arv, fsv, lsv] isAgg34 jB rfl rfl (Rd.ownN [] rfl rfl) (qo (t := 40) rfl (vT h4) (qm (cv) rfl (qo (t := 40) rfl (vT h4) (qm (ii ((p : Int))) rfl (qo (t := 40) rfl (vT h4) (ql (args := [.agg #[arv, fsv, lsv], cv, ii (p : Int)]) call43 rfl (l26Call_spec (p := p) har hfs hls hcv (ho := (hoc)) (hp := (by omega)) (hla := (by first | assumption | rfl | omega | simp)) (hlf := (by first | assumption | rfl | omega | simp))) ?_)))))))
  rintro _ _ _ _ ⟨rfl, rfl, rfl⟩
  refine qo (t := 40) rfl (vT h4) (jn rfl (cX (qM (.bool (!(callAt ar fs cur p))) (vT h4) rfl (qb ?_))))
  refine X.cond (t := !(callAt ar fs cur p)) rfl (fun h5 => ?_) (fun h5 => ?_)
  ·have hca : callAt ar fs cur p = false := by simpa using h5
   refine qw (qF (qa (qd (ii ((p : Int))) rfl (cX (qG (((p + 1 : Nat) : Int)) rfl rfl (by omega) (by omega) (qg (ii (((p + 1 : Nat) : Int))) rfl (qb ?_)))))))
   exact ⟨(p + 1, G2), _, leG2, rF, ⟨rfl, rfl, rfl, rfl, ⟨⟩⟩, (sC sR), ⟨rfl, leG2, (by (try dsimp only) <;> omega), (fun i hi => (Nat.lt_or_ge i p).elim (fun h => hall i h) (fun h => by obtain rfl : i = p := (by omega); exact hca))⟩, (by omega)⟩
  have hca : callAt ar fs cur p = true := by simpa using h5
  have hfc9 : firstC ar fs cur = p := firstC_at (by omega) hca hall
  have hpl9 : p < cur.length := by omega
  subst hfc9
  have hfc : firstC ar fs cur ≠ cur.length := by omega
  have hfp : firstC ar fs cur < cur.length := by omega
  have hoq := sub_ok hoc hfp
  have hql := termOk_len hoq
  skip
  refine qX (qr (qr (qJ (qc (qc (qa (qd (ii ((((firstC ar fs cur) : Nat) : Int))) rfl (qd (cv) rfl (cX (qy qf rfl hcv.slv (cX (XOp.eql rfl rfl (qb ?_)))))))))))))
  refine qv (p := ((((firstC ar fs cur) : Nat) : Int) : Int) = (cur.length : Int)) rfl (fun h6 => ?_) (fun h6 => ?_)
  ·exfalso
   omega
  refine qw (qc (qa (cX (qk (0) qD rfl qH (by decide) rfl rfl (cX (qC [arv] qW qH rfl rfl (Rd.ownN [] rfl rfl) (qd (cv) rfl (qd (ii ((((firstC ar fs cur) : Nat) : Int))) rfl (cX (jx <| ql (args := [.agg #[arv], cv, ii (((firstC ar fs cur) : Nat) : Int)]) call44 rfl (l1Sub_spec (p := (firstC ar fs cur)) har hcv (ho := (hoc)) (hp := (hfp))) ?_))))))))))
  rintro v5 _ _ _ ⟨rfl, hs2, rfl⟩
  refine ⟨_, _, rfl, fun F5 le5 hz5 => ?_⟩
  replace har := har.mono le5
  replace hfs := hfs.mono le5
  replace hls := hls.mono le5
  replace hcv := hcv.mono le5
  have hf5 : IntsF F5 v5 ((sub ar cur ((firstC ar fs cur)))) := intsH.fz (xs := (sub ar cur ((firstC ar fs cur)))) hz5.fz
  refine qg (v5) rfl (qb (qc (qa (cX (qC [arv, fsv, lsv] isAgg34 jB rfl rfl (Rd.ownN [] rfl rfl) (qd (v5) rfl (cX (ql (args := [.agg #[arv, fsv, lsv], v5]) call45 rfl (l26First_spec har hfs hls hf5 (hfr := (hfr)) (ho := (hoq)) (hla := (by first | assumption | rfl | omega | simp))) ?_))))))))
  rintro _ _ _ _ ⟨rfl, rfl, rfl⟩
  refine qg (ii (firstL ar ls ((sub ar cur ((firstC ar fs cur)))))) rfl (qb (qc (qc (qa (qd (ii (firstL ar ls ((sub ar cur ((firstC ar fs cur)))))) rfl (cX (qI rfl rfl (qb ?_))))))))
  refine qv (p := (firstL ar ls ((sub ar cur ((firstC ar fs cur)))) : Int) < 0) rfl (fun h7 => ?_) (fun h7 => ?_)
  ·have hlg := h7
   refine qc (qa (qd (cv) rfl (qg (cv) rfl (qg (ii (1)) rfl (qb (qq (qh (qu (qh (qu (qn (L' := L) [cv, ii (1)] (.tuple #[cv, ii (1)]) (.tmp rfl (.tmp rfl .nil)) rfl (qt (qt (qt le4 leG1) leG2) le5) rF (sD sR) ?_)))))))))))
   have e := hgo.trans (call_gap hfc hlg)
   exact ⟨_, by rw [e], by rw [e]; exact hcv, rfl⟩
  have hlg := h7
  obtain ⟨hqk, hqm⟩ := firstL_lt hlg
  have hRk := hln _ hqk
  have hRo := ruleOk_iff.1 hRk.2.2.2.1
  have hRl := hRo.left
  have hRr := hRo.right
  have hRrl := termOk_len hRr
  have hRg := fun k (hk : k < (ls.getD (firstL ar ls (sub ar cur (firstC ar fs cur))).toNat (0, [], [])).2.2.length) => termOk_ge hRr hk
  have hmp := matchP_len (ar := ar) (p := leftL (ls.getD (firstL ar ls (sub ar cur (firstC ar fs cur))).toNat (0, [], []))) (t := sub ar cur (firstC ar fs cur))
  have hmp2 := hmp.2
  have hmp3 := hmp.1
  have hel9 : ∀ i, i < ls.length → termOk ar (leftL (ls.getD i (0, [], []))) = true ∧ (ls.getD i (0, [], [])).2.1.length ≤ 10 ∧ ∀ j, j < (ls.getD i (0, [], [])).2.1.length → ((ls.getD i (0, [], [])).2.1.getD j []).length ≤ 4000000 := fun i hi => ⟨(ruleOk_iff.1 (hln i hi).2.2.2.1).left, by have h9 := (hln i hi).2.1; have h8 := set_mem hfi.2.1 (hln i hi).1; have h7 := (hsg.2.2 (ls.getD i (0, [], [])).1.toNat (by omega)).2; omega, fun j hj => by have h9 := termOk_len ((hln i hi).2.2.1 j hj).1; omega⟩
  refine qw (qc (qc (qa (qd (ii ((f : Int))) rfl (cX (XOp.eql rfl rfl (qb ?_)))))))
  refine qv (p := (f : Int) = 0) rfl (fun h8 => ?_) (fun h8 => ?_)
  ·refine qc (qa (qd (cv) rfl (qg (cv) rfl (qg (ii (2)) rfl (qb (qq (qh (qu (qh (qu (qn (L' := L) [cv, ii (2)] (.tuple #[cv, ii (2)]) (.tmp rfl (.tmp rfl .nil)) rfl (qt (qt (qt le4 leG1) leG2) le5) rF (sD sR) ?_)))))))))))
   have e := hgo.trans (call_fuel hfc hlg (by omega))
   exact ⟨_, by rw [e], by rw [e]; exact hcv, rfl⟩
  refine qw (qc ?_)
  obtain ⟨a1, a2, ha1, ha2, hrg1, hq1⟩ := hls.rd (i := (firstL ar ls ((sub ar cur ((firstC ar fs cur))))).toNat) (by omega)
  refine X.drawG [cellsH b1 [arv, fsv, lsv] 34] L 15 [[], [], [], [], [], [], [], [], [], [], [9], [9], [], [], [9, 13]] [[], [0], [], [2], [], [3, 4], [5], [6], [], [1, 7, 8], [9], [9, 10], [9, 10], [], [9, 11, 13]] [[], [], [], [], [], [], [], [], [], [], [], [], [], [], [13]] (phiG [pe (ptr b1 0), pe (.agg #[arv]), pe (ptr b1 2), pe lsv, pe (ii (firstL ar ls ((sub ar cur ((firstC ar fs cur)))))), pe (.pointer (some (elemA lsv (((firstL ar ls ((sub ar cur ((firstC ar fs cur))))).toNat) * 3)))), pe (.agg #[ii ((ls.getD ((firstL ar ls ((sub ar cur ((firstC ar fs cur))))).toNat) (0, [], [])).1), a1, a2]), fun FF us v => ((v) : Value) = v ∧ (IntsF FF (v) (leftL (((ls.getD ((firstL ar ls ((sub ar cur ((firstC ar fs cur))))).toNat) (0, [], [])).1), ((ls.getD ((firstL ar ls ((sub ar cur ((firstC ar fs cur))))).toNat) (0, [], [])).2.1), ((ls.getD ((firstL ar ls ((sub ar cur ((firstC ar fs cur))))).toNat) (0, [], [])).2.2)))), pe v5, fun FF us v => (.tuple #[.agg #[((aggAt (tupAt v 0) 0))], .bool ((matchB ar ((leftL (((ls.getD ((firstL ar ls ((sub ar cur ((firstC ar fs cur))))).toNat) (0, [], [])).1), ((ls.getD ((firstL ar ls ((sub ar cur ((firstC ar fs cur))))).toNat) (0, [], [])).2.1), ((ls.getD ((firstL ar ls ((sub ar cur ((firstC ar fs cur))))).toNat) (0, [], [])).2.2)))) ((sub ar cur ((firstC ar fs cur))))).isSome)] : Value) = v ∧ (RowsF FF ((aggAt (tupAt v 0) 0)) (matchP ar ((leftL (((ls.getD ((firstL ar ls ((sub ar cur ((firstC ar fs cur))))).toNat) (0, [], [])).1), ((ls.getD ((firstL ar ls ((sub ar cur ((firstC ar fs cur))))).toNat) (0, [], [])).2.1), ((ls.getD ((firstL ar ls ((sub ar cur ((firstC ar fs cur))))).toNat) (0, [], [])).2.2)))) ((sub ar cur ((firstC ar fs cur)))))), fun FF us v => v = (.tuple #[.agg #[((aggAt (tupAt (us.getD 0 undef) 0) 0))], .bool ((matchB ar ((leftL (((ls.getD ((firstL ar ls ((sub ar cur ((firstC ar fs cur))))).toNat) (0, [], [])).1), ((ls.getD ((firstL ar ls ((sub ar cur ((firstC ar fs cur))))).toNat) (0, [], [])).2.1), ((ls.getD ((firstL ar ls ((sub ar cur ((firstC ar fs cur))))).toNat) (0, [], [])).2.2)))) ((sub ar cur ((firstC ar fs cur))))).isSome)] : Value), fun FF us v => v = (.agg #[((aggAt (tupAt (us.getD 0 undef) 0) 0))] : Value), pe (.bool ((matchB ar ((leftL (((ls.getD ((firstL ar ls ((sub ar cur ((firstC ar fs cur))))).toNat) (0, [], [])).1), ((ls.getD ((firstL ar ls ((sub ar cur ((firstC ar fs cur))))).toNat) (0, [], [])).2.1), ((ls.getD ((firstL ar ls ((sub ar cur ((firstC ar fs cur))))).toNat) (0, [], [])).2.2)))) ((sub ar cur ((firstC ar fs cur))))).isSome)), fun FF us v => v = ptr (blk v) 0, fun FF us v => True]) (ownL [o0, o0, o0, o0, o0, o0, o0, o0, o0, o0, o0, o0, o0, fun us v => [cellsH (blk v) [sN] 86], fun us v => [cellsH (blk (us.getD 1 undef)) [((aggAt (tupAt (us.getD 0 undef) 0) 0))] 86]]) mixed rfl rfl (by kernel_rfl) (by kernel_rfl) (MonoG.get (m1 (m1 (m1 (m1 (m1 (m1 (m1 (mC (fun le h => ⟨h.1, h.2.mono le⟩) (m1 (mC (fun le h => ⟨h.1, h.2.mono le⟩) (mC (fun le h => h) (mC (fun le h => h) (m1 (mC (fun le h => h) (mC (fun le h => h) MonoG.nil)))))))))))))))) ?_ ?_
  ·refine gD (fun W Fs R lF z9 => ?_) ?_
   ·refine qj (qk (0) qD rfl qH (by decide) rfl rfl ?_)
    exact ⟨rfl, rfl⟩
   refine gD (fun W Fs R lF z9 => ?_) ?_
   ·replace har := har.mono lF
    replace hls := hls.mono lF
    replace hcv := hcv.mono lF
    replace hf5 := hf5.mono lF
    replace ha1 := ha1.mono lF
    replace ha2 := ha2.mono lF
    replace hrg1 := fun L9 j9 u9 h9 => Rd.mono (hrg1 L9 j9 u9 h9) lF
    rw [eS (l := [(0, _)]) ⟨z9 0 rfl, ⟨⟩⟩]
    refine qj (qC [arv] qW qH rfl rfl (Rd.ownN [] rfl rfl) ?_)
    exact ⟨rfl, rfl⟩
   refine gD (fun W Fs R lF z9 => ?_) ?_
   ·refine qj (qk (2) qD rfl sizeOf32 (by decide) rfl rfl ?_)
    exact ⟨rfl, rfl⟩
   refine gD (fun W Fs R lF z9 => ?_) ?_
   ·replace har := har.mono lF
    replace hls := hls.mono lF
    replace hcv := hcv.mono lF
    replace hf5 := hf5.mono lF
    replace ha1 := ha1.mono lF
    replace ha2 := ha2.mono lF
    replace hrg1 := fun L9 j9 u9 h9 => Rd.mono (hrg1 L9 j9 u9 h9) lF
    rw [eS (l := [(2, _)]) ⟨z9 2 rfl, ⟨⟩⟩]
    refine qj (qi isAgg32 rfl (Rd.own [] rfl rfl) ?_)
    exact ⟨rfl, rfl⟩
   refine gD (fun W Fs R lF z9 => ?_) ?_
   ·refine qj (qm (ii (firstL ar ls ((sub ar cur ((firstC ar fs cur)))))) rfl ?_)
    exact ⟨rfl, rfl⟩
   refine gD (fun W Fs R lF z9 => ?_) ?_
   ·replace har := har.mono lF
    replace hls := hls.mono lF
    replace hcv := hcv.mono lF
    replace hf5 := hf5.mono lF
    replace ha1 := ha1.mono lF
    replace ha2 := ha2.mono lF
    replace hrg1 := fun L9 j9 u9 h9 => Rd.mono (hrg1 L9 j9 u9 h9) lF
    rw [eS (l := [(3, _), (4, _)]) ⟨z9 3 rfl, z9 4 rfl, ⟨⟩⟩]
    refine qj (qx ((firstL ar ls ((sub ar cur ((firstC ar fs cur))))).toNat) qV ji rfl rfl (by omega) hls.slv (by omega) rfl ?_)
    exact ⟨rfl, rfl⟩
   refine gD (fun W Fs R lF z9 => ?_) ?_
   ·replace har := har.mono lF
    replace hls := hls.mono lF
    replace hcv := hcv.mono lF
    replace hf5 := hf5.mono lF
    replace ha1 := ha1.mono lF
    replace ha2 := ha2.mono lF
    replace hrg1 := fun L9 j9 u9 h9 => Rd.mono (hrg1 L9 j9 u9 h9) lF
    rw [eS (l := [(5, _)]) ⟨z9 5 rfl, ⟨⟩⟩]
    refine qj (qC [ii ((ls.getD ((firstL ar ls ((sub ar cur ((firstC ar fs cur))))).toNat) (0, [], [])).1), a1, a2] isAgg91 ji rfl rfl (Rd.all (hrg1 _)) ?_)
    exact ⟨rfl, rfl⟩
   refine gD (fun W Fs R lF z9 => ?_) ?_
   ·replace har := har.mono lF
    replace hls := hls.mono lF
    replace hcv := hcv.mono lF
    replace hf5 := hf5.mono lF
    replace ha1 := ha1.mono lF
    replace ha2 := ha2.mono lF
    replace hrg1 := fun L9 j9 u9 h9 => Rd.mono (hrg1 L9 j9 u9 h9) lF
    rw [eS (l := [(6, _)]) ⟨z9 6 rfl, ⟨⟩⟩]
    refine qj (jx <| ql (args := [.agg #[ii ((ls.getD ((firstL ar ls ((sub ar cur ((firstC ar fs cur))))).toNat) (0, [], [])).1), a1, a2]]) call47 rfl (l26Left_spec ha1 ha2 (hpn := ((hel9 _ hqk).2.1)) (hpb := ((hel9 _ hqk).2.2))) ?_)
    rintro v7 _ _ _ ⟨rfl, hs4, rfl⟩
    refine ⟨_, _, rfl, fun F7 le7 hz6 => ?_⟩
    replace har := har.mono le7
    replace hls := hls.mono le7
    replace hcv := hcv.mono le7
    replace hf5 := hf5.mono le7
    replace ha2 := ha2.mono le7
    replace hrg1 := fun L9 j9 u9 h9 => Rd.mono (hrg1 L9 j9 u9 h9) le7
    have hf6 : IntsF F7 v7 ((leftL (((ls.getD ((firstL ar ls ((sub ar cur ((firstC ar fs cur))))).toNat) (0, [], [])).1), ((ls.getD ((firstL ar ls ((sub ar cur ((firstC ar fs cur))))).toNat) (0, [], [])).2.1), ((ls.getD ((firstL ar ls ((sub ar cur ((firstC ar fs cur))))).toNat) (0, [], [])).2.2)))) := intsH.fz (xs := (leftL (((ls.getD ((firstL ar ls ((sub ar cur ((firstC ar fs cur))))).toNat) (0, [], [])).1), ((ls.getD ((firstL ar ls ((sub ar cur ((firstC ar fs cur))))).toNat) (0, [], [])).2.1), ((ls.getD ((firstL ar ls ((sub ar cur ((firstC ar fs cur))))).toNat) (0, [], [])).2.2)))) hz6.fz
    exact ⟨⟨rfl, hf6⟩, rfl⟩
   refine gD (fun W Fs R lF z9 => ?_) ?_
   ·refine qj (qm (v5) rfl ?_)
    exact ⟨rfl, rfl⟩
   refine gD (fun W Fs R lF z9 => ?_) ?_
   ·obtain ⟨e7, f7_1ha⟩ := z9 7 rfl
    replace har := har.mono lF
    replace hls := hls.mono lF
    replace hcv := hcv.mono lF
    replace hf5 := hf5.mono lF
    replace ha2 := ha2.mono lF
    replace hrg1 := fun L9 j9 u9 h9 => Rd.mono (hrg1 L9 j9 u9 h9) lF
    rw [eS (l := [(1, _), (7, ((W 7))), (8, _)]) ⟨z9 1 rfl, (e7).symm, z9 8 rfl, ⟨⟩⟩]
    refine qj (ql (args := [.agg #[arv], ((W 7)), v5]) call46 rfl (sMatchedG_spec har f7_1ha hf5 (ho := (hoq)) (hpo := (hRl)) (hla := (by first | assumption | rfl | omega | simp))) ?_)
    rintro _ F8 _ le8 ⟨x2, rfl, hr2, rfl⟩
    replace har := har.mono le8
    replace hls := hls.mono le8
    replace hcv := hcv.mono le8
    replace ha2 := ha2.mono le8
    replace f7_1ha := f7_1ha.mono le8
    replace hrg1 := fun L9 j9 u9 h9 => Rd.mono (hrg1 L9 j9 u9 h9) le8
    exact ⟨⟨rfl, hr2⟩, rfl⟩
   refine gD (fun W Fs R lF z9 => ?_) ?_
   ·obtain ⟨e9, f9_1hr⟩ := z9 9 rfl
    rw [eS (l := [(9, (.tuple #[.agg #[((aggAt (tupAt (W 9) 0) 0))], .bool ((matchB ar ((leftL (((ls.getD ((firstL ar ls ((sub ar cur ((firstC ar fs cur))))).toNat) (0, [], [])).1), ((ls.getD ((firstL ar ls ((sub ar cur ((firstC ar fs cur))))).toNat) (0, [], [])).2.1), ((ls.getD ((firstL ar ls ((sub ar cur ((firstC ar fs cur))))).toNat) (0, [], [])).2.2)))) ((sub ar cur ((firstC ar fs cur))))).isSome)]))]) ⟨(e9).symm, ⟨⟩⟩]
    refine qj (qm (.tuple #[.agg #[((aggAt (tupAt (W 9) 0) 0))], .bool ((matchB ar ((leftL (((ls.getD ((firstL ar ls ((sub ar cur ((firstC ar fs cur))))).toNat) (0, [], [])).1), ((ls.getD ((firstL ar ls ((sub ar cur ((firstC ar fs cur))))).toNat) (0, [], [])).2.1), ((ls.getD ((firstL ar ls ((sub ar cur ((firstC ar fs cur))))).toNat) (0, [], [])).2.2)))) ((sub ar cur ((firstC ar fs cur))))).isSome)]) rfl ?_)
    exact ⟨rfl, rfl⟩
   refine gD (fun W Fs R lF z9 => ?_) ?_
   ·obtain ⟨e9, f9_1hr⟩ := z9 9 rfl
    have e10 : W 10 = (.tuple #[.agg #[((aggAt (tupAt (W 9) 0) 0))], .bool ((matchB ar ((leftL (((ls.getD ((firstL ar ls ((sub ar cur ((firstC ar fs cur))))).toNat) (0, [], [])).1), ((ls.getD ((firstL ar ls ((sub ar cur ((firstC ar fs cur))))).toNat) (0, [], [])).2.1), ((ls.getD ((firstL ar ls ((sub ar cur ((firstC ar fs cur))))).toNat) (0, [], [])).2.2)))) ((sub ar cur ((firstC ar fs cur))))).isSome)] : Value) := z9 10 rfl
    rw [eS (l := [(9, (.tuple #[.agg #[((aggAt (tupAt (W 9) 0) 0))], .bool ((matchB ar ((leftL (((ls.getD ((firstL ar ls ((sub ar cur ((firstC ar fs cur))))).toNat) (0, [], [])).1), ((ls.getD ((firstL ar ls ((sub ar cur ((firstC ar fs cur))))).toNat) (0, [], [])).2.1), ((ls.getD ((firstL ar ls ((sub ar cur ((firstC ar fs cur))))).toNat) (0, [], [])).2.2)))) ((sub ar cur ((firstC ar fs cur))))).isSome)])), (10, (.tuple #[.agg #[((aggAt (tupAt (W 9) 0) 0))], .bool ((matchB ar ((leftL (((ls.getD ((firstL ar ls ((sub ar cur ((firstC ar fs cur))))).toNat) (0, [], [])).1), ((ls.getD ((firstL ar ls ((sub ar cur ((firstC ar fs cur))))).toNat) (0, [], [])).2.1), ((ls.getD ((firstL ar ls ((sub ar cur ((firstC ar fs cur))))).toNat) (0, [], [])).2.2)))) ((sub ar cur ((firstC ar fs cur))))).isSome)]))]) ⟨(e9).symm, e10, ⟨⟩⟩]
    refine qj (jb (.agg #[((aggAt (tupAt (W 9) 0) 0))]) rfl rfl ?_)
    exact ⟨rfl, rfl⟩
   refine gD (fun W Fs R lF z9 => ?_) ?_
   ·obtain ⟨e9, f9_1hr⟩ := z9 9 rfl
    have e10 : W 10 = (.tuple #[.agg #[((aggAt (tupAt (W 9) 0) 0))], .bool ((matchB ar ((leftL (((ls.getD ((firstL ar ls ((sub ar cur ((firstC ar fs cur))))).toNat) (0, [], [])).1), ((ls.getD ((firstL ar ls ((sub ar cur ((firstC ar fs cur))))).toNat) (0, [], [])).2.1), ((ls.getD ((firstL ar ls ((sub ar cur ((firstC ar fs cur))))).toNat) (0, [], [])).2.2)))) ((sub ar cur ((firstC ar fs cur))))).isSome)] : Value) := z9 10 rfl
    rw [eS (l := [(9, (.tuple #[.agg #[((aggAt (tupAt (W 9) 0) 0))], .bool ((matchB ar ((leftL (((ls.getD ((firstL ar ls ((sub ar cur ((firstC ar fs cur))))).toNat) (0, [], [])).1), ((ls.getD ((firstL ar ls ((sub ar cur ((firstC ar fs cur))))).toNat) (0, [], [])).2.1), ((ls.getD ((firstL ar ls ((sub ar cur ((firstC ar fs cur))))).toNat) (0, [], [])).2.2)))) ((sub ar cur ((firstC ar fs cur))))).isSome)])), (10, (.tuple #[.agg #[((aggAt (tupAt (W 9) 0) 0))], .bool ((matchB ar ((leftL (((ls.getD ((firstL ar ls ((sub ar cur ((firstC ar fs cur))))).toNat) (0, [], [])).1), ((ls.getD ((firstL ar ls ((sub ar cur ((firstC ar fs cur))))).toNat) (0, [], [])).2.1), ((ls.getD ((firstL ar ls ((sub ar cur ((firstC ar fs cur))))).toNat) (0, [], [])).2.2)))) ((sub ar cur ((firstC ar fs cur))))).isSome)]))]) ⟨(e9).symm, e10, ⟨⟩⟩]
    refine qj (jb (.bool ((matchB ar ((leftL (((ls.getD ((firstL ar ls ((sub ar cur ((firstC ar fs cur))))).toNat) (0, [], [])).1), ((ls.getD ((firstL ar ls ((sub ar cur ((firstC ar fs cur))))).toNat) (0, [], [])).2.1), ((ls.getD ((firstL ar ls ((sub ar cur ((firstC ar fs cur))))).toNat) (0, [], [])).2.2)))) ((sub ar cur ((firstC ar fs cur))))).isSome)) rfl rfl ?_)
    exact ⟨rfl, rfl⟩
   refine gD (fun W Fs R lF z9 => ?_) ?_
   ·replace har := har.mono lF
    replace hls := hls.mono lF
    replace hcv := hcv.mono lF
    replace ha2 := ha2.mono lF
    replace hrg1 := fun L9 j9 u9 h9 => Rd.mono (hrg1 L9 j9 u9 h9) lF
    refine qj (jq [sN] jp rfl ?_)
    intro b3
    exact ⟨rfl, rfl⟩
   refine gD (fun W Fs R lF z9 => ?_) ?_
   ·obtain ⟨e9, f9_1hr⟩ := z9 9 rfl
    have e11 : W 11 = (.agg #[((aggAt (tupAt (W 9) 0) 0))] : Value) := z9 11 rfl
    have e13 : W 13 = ptr (blk (W 13)) 0 := z9 13 rfl
    replace har := har.mono lF
    replace hls := hls.mono lF
    replace hcv := hcv.mono lF
    replace ha2 := ha2.mono lF
    replace hrg1 := fun L9 j9 u9 h9 => Rd.mono (hrg1 L9 j9 u9 h9) lF
    rw [eS (l := [(9, (.tuple #[.agg #[((aggAt (tupAt (W 9) 0) 0))], .bool ((matchB ar ((leftL (((ls.getD ((firstL ar ls ((sub ar cur ((firstC ar fs cur))))).toNat) (0, [], [])).1), ((ls.getD ((firstL ar ls ((sub ar cur ((firstC ar fs cur))))).toNat) (0, [], [])).2.1), ((ls.getD ((firstL ar ls ((sub ar cur ((firstC ar fs cur))))).toNat) (0, [], [])).2.2)))) ((sub ar cur ((firstC ar fs cur))))).isSome)])), (11, (.agg #[((aggAt (tupAt (W 9) 0) 0))])), (13, ptr (blk (W 13)) 0)]) ⟨(e9).symm, e11, e13, ⟨⟩⟩]
    show XG _ _ _ _ _ (cellsH (blk (W 13)) [sN] 86 :: ([cellsH b1 [arv, fsv, lsv] 34] ++ R)) _
    refine qj (jd [] _ [((aggAt (tupAt (W 9) 0) 0))] jc rfl rfl rfl (qZ (jf (RowsF.isSl f9_1hr)) jj) rfl rfl rfl ?_)
    exact ⟨trivial, rfl⟩
   exact stepsG.nil
  intro W F9 le9 hphi
  obtain ⟨e7, f7_1ha⟩ := hphi 7 (by decide)
  obtain ⟨e9, f9_1hr⟩ := hphi 9 (by decide)
  have e10 : W 10 = (.tuple #[.agg #[((aggAt (tupAt (W 9) 0) 0))], .bool ((matchB ar ((leftL (((ls.getD ((firstL ar ls ((sub ar cur ((firstC ar fs cur))))).toNat) (0, [], [])).1), ((ls.getD ((firstL ar ls ((sub ar cur ((firstC ar fs cur))))).toNat) (0, [], [])).2.1), ((ls.getD ((firstL ar ls ((sub ar cur ((firstC ar fs cur))))).toNat) (0, [], [])).2.2)))) ((sub ar cur ((firstC ar fs cur))))).isSome)] : Value) := hphi 10 (by decide)
  have e11 : W 11 = (.agg #[((aggAt (tupAt (W 9) 0) 0))] : Value) := hphi 11 (by decide)
  have e13 : W 13 = ptr (blk (W 13)) 0 := hphi 13 (by decide)
  generalize hu1 : ((W 7)) = u1 at e7 f7_1ha e9 f9_1hr e10 e11 e13
  generalize hu2 : ((aggAt (tupAt (W 9) 0) 0)) = u2 at e7 f7_1ha e9 f9_1hr e10 e11 e13
  generalize hu3 : blk (W 13) = b4 at e7 f7_1ha e9 f9_1hr e10 e11 e13
  rw [eS (l := [(9, (.tuple #[.agg #[u2], .bool ((matchB ar ((leftL (((ls.getD ((firstL ar ls ((sub ar cur ((firstC ar fs cur))))).toNat) (0, [], [])).1), ((ls.getD ((firstL ar ls ((sub ar cur ((firstC ar fs cur))))).toNat) (0, [], [])).2.1), ((ls.getD ((firstL ar ls ((sub ar cur ((firstC ar fs cur))))).toNat) (0, [], [])).2.2)))) ((sub ar cur ((firstC ar fs cur))))).isSome)])), (12, _), (13, ptr b4 0)]) ⟨(e9).symm, (hphi 12 (by decide)), e13, ⟨⟩⟩]
  replace har := har.mono le9
  replace hls := hls.mono le9
  replace hcv := hcv.mono le9
  replace ha2 := ha2.mono le9
  replace hrg1 := fun L9 j9 u9 h9 => Rd.mono (hrg1 L9 j9 u9 h9) le9
  show XL _ _ _ _ _ _ _ (cellsH b4 [u2] 86 :: cellsH b1 [arv, fsv, lsv] 34 :: L)
  refine qg (.bool ((matchB ar ((leftL (((ls.getD ((firstL ar ls ((sub ar cur ((firstC ar fs cur))))).toNat) (0, [], [])).1), ((ls.getD ((firstL ar ls ((sub ar cur ((firstC ar fs cur))))).toNat) (0, [], [])).2.1), ((ls.getD ((firstL ar ls ((sub ar cur ((firstC ar fs cur))))).toNat) (0, [], [])).2.2)))) ((sub ar cur ((firstC ar fs cur))))).isSome)) rfl (qb (qc ?_))
  refine X.drawG [cellsH b4 [u2] 86, cellsH b1 [arv, fsv, lsv] 34] L 12 [[], [], [], [], [], [], [], [], [7], [7], [], [7]] [[], [], [1], [], [2, 3], [4], [5], [0, 6], [7], [7, 8], [7, 8], [7, 9]] [] (phiG [pe (.agg #[u2]), pe (ptr b1 2), pe lsv, pe (ii (firstL ar ls ((sub ar cur ((firstC ar fs cur)))))), pe (.pointer (some (elemA lsv (((firstL ar ls ((sub ar cur ((firstC ar fs cur))))).toNat) * 3)))), pe (.pointer (some (elemA lsv (((firstL ar ls ((sub ar cur ((firstC ar fs cur))))).toNat) * 3 + 2)))), pe a2, fun FF us v => (.tuple #[((tupAt v 0)), .bool ((fillL (matchP ar ((leftL (((ls.getD ((firstL ar ls ((sub ar cur ((firstC ar fs cur))))).toNat) (0, [], [])).1), ((ls.getD ((firstL ar ls ((sub ar cur ((firstC ar fs cur))))).toNat) (0, [], [])).2.1), ((ls.getD ((firstL ar ls ((sub ar cur ((firstC ar fs cur))))).toNat) (0, [], [])).2.2)))) ((sub ar cur ((firstC ar fs cur))))) ((ls.getD ((firstL ar ls ((sub ar cur ((firstC ar fs cur))))).toNat) (0, [], [])).2.2)).isSome)] : Value) = v ∧ (IntsF FF ((tupAt v 0)) ((fillL (matchP ar ((leftL (((ls.getD ((firstL ar ls ((sub ar cur ((firstC ar fs cur))))).toNat) (0, [], [])).1), ((ls.getD ((firstL ar ls ((sub ar cur ((firstC ar fs cur))))).toNat) (0, [], [])).2.1), ((ls.getD ((firstL ar ls ((sub ar cur ((firstC ar fs cur))))).toNat) (0, [], [])).2.2)))) ((sub ar cur ((firstC ar fs cur))))) ((ls.getD ((firstL ar ls ((sub ar cur ((firstC ar fs cur))))).toNat) (0, [], [])).2.2)).getD [])), fun FF us v => v = (.tuple #[((tupAt (us.getD 0 undef) 0)), .bool ((fillL (matchP ar ((leftL (((ls.getD ((firstL ar ls ((sub ar cur ((firstC ar fs cur))))).toNat) (0, [], [])).1), ((ls.getD ((firstL ar ls ((sub ar cur ((firstC ar fs cur))))).toNat) (0, [], [])).2.1), ((ls.getD ((firstL ar ls ((sub ar cur ((firstC ar fs cur))))).toNat) (0, [], [])).2.2)))) ((sub ar cur ((firstC ar fs cur))))) ((ls.getD ((firstL ar ls ((sub ar cur ((firstC ar fs cur))))).toNat) (0, [], [])).2.2)).isSome)] : Value), fun FF us v => v = ((tupAt (us.getD 0 undef) 0)), pe (.bool ((fillL (matchP ar ((leftL (((ls.getD ((firstL ar ls ((sub ar cur ((firstC ar fs cur))))).toNat) (0, [], [])).1), ((ls.getD ((firstL ar ls ((sub ar cur ((firstC ar fs cur))))).toNat) (0, [], [])).2.1), ((ls.getD ((firstL ar ls ((sub ar cur ((firstC ar fs cur))))).toNat) (0, [], [])).2.2)))) ((sub ar cur ((firstC ar fs cur))))) ((ls.getD ((firstL ar ls ((sub ar cur ((firstC ar fs cur))))).toNat) (0, [], [])).2.2)).isSome)), fun FF us v => v = ((tupAt (us.getD 0 undef) 0))]) (ownL []) mixed rfl rfl (by kernel_rfl) (by kernel_rfl) (MonoG.get (m1 (m1 (m1 (m1 (m1 (m1 (m1 (mC (fun le h => ⟨h.1, h.2.mono le⟩) (mC (fun le h => h) (mC (fun le h => h) (m1 (mC (fun le h => h) MonoG.nil))))))))))))) ?_ ?_
  ·refine gD (fun W Fs R lF z9 => ?_) ?_
   ·replace har := har.mono lF
    replace hls := hls.mono lF
    replace hcv := hcv.mono lF
    replace ha2 := ha2.mono lF
    replace f9_1hr := f9_1hr.mono lF
    replace hrg1 := fun L9 j9 u9 h9 => Rd.mono (hrg1 L9 j9 u9 h9) lF
    refine qj (qC [u2] jz jc rfl rfl (Rd.ownN [] rfl rfl) ?_)
    exact ⟨rfl, rfl⟩
   refine gD (fun W Fs R lF z9 => ?_) ?_
   ·refine qj (qk (2) qD rfl sizeOf32 (by decide) rfl rfl ?_)
    exact ⟨rfl, rfl⟩
   refine gD (fun W Fs R lF z9 => ?_) ?_
   ·replace har := har.mono lF
    replace hls := hls.mono lF
    replace hcv := hcv.mono lF
    replace ha2 := ha2.mono lF
    replace f9_1hr := f9_1hr.mono lF
    replace hrg1 := fun L9 j9 u9 h9 => Rd.mono (hrg1 L9 j9 u9 h9) lF
    rw [eS (l := [(1, _)]) ⟨z9 1 rfl, ⟨⟩⟩]
    refine qj (qi isAgg32 rfl (Rd.own [_] rfl rfl) ?_)
    exact ⟨rfl, rfl⟩
   refine gD (fun W Fs R lF z9 => ?_) ?_
   ·refine qj (qm (ii (firstL ar ls ((sub ar cur ((firstC ar fs cur)))))) rfl ?_)
    exact ⟨rfl, rfl⟩
   refine gD (fun W Fs R lF z9 => ?_) ?_
   ·replace har := har.mono lF
    replace hls := hls.mono lF
    replace hcv := hcv.mono lF
    replace ha2 := ha2.mono lF
    replace f9_1hr := f9_1hr.mono lF
    replace hrg1 := fun L9 j9 u9 h9 => Rd.mono (hrg1 L9 j9 u9 h9) lF
    rw [eS (l := [(2, _), (3, _)]) ⟨z9 2 rfl, z9 3 rfl, ⟨⟩⟩]
    refine qj (qx ((firstL ar ls ((sub ar cur ((firstC ar fs cur))))).toNat) qV ji rfl rfl (by omega) hls.slv (by omega) rfl ?_)
    exact ⟨rfl, rfl⟩
   refine gD (fun W Fs R lF z9 => ?_) ?_
   ·rw [eS (l := [(4, _)]) ⟨z9 4 rfl, ⟨⟩⟩]
    refine qj (XOp.fieldE (((firstL ar ls ((sub ar cur ((firstC ar fs cur))))).toNat) * 3 + 2) qO rfl qA (by decide) rfl rfl ?_)
    exact ⟨rfl, rfl⟩
   refine gD (fun W Fs R lF z9 => ?_) ?_
   ·replace har := har.mono lF
    replace hcv := hcv.mono lF
    replace ha2 := ha2.mono lF
    replace f9_1hr := f9_1hr.mono lF
    replace hrg1 := fun L9 j9 u9 h9 => Rd.mono (hrg1 L9 j9 u9 h9) lF
    rw [eS (l := [(5, _)]) ⟨z9 5 rfl, ⟨⟩⟩]
    refine qj (qi qK rfl (hrg1 _ 2 _ rfl) ?_)
    exact ⟨rfl, rfl⟩
   refine gD (fun W Fs R lF z9 => ?_) ?_
   ·replace har := har.mono lF
    replace hcv := hcv.mono lF
    replace ha2 := ha2.mono lF
    replace f9_1hr := f9_1hr.mono lF
    rw [eS (l := [(0, _), (6, _)]) ⟨z9 0 rfl, z9 6 rfl, ⟨⟩⟩]
    refine qj (ql (args := [.agg #[u2], a2]) call48 rfl (l2Filled_spec f9_1hr ha2 (hsl := (Nat.le_trans hmp3 (by decide))) (hsb := (fun i => Nat.le_trans (hmp2 i) (by omega))) (htl := (by omega)) (htg := (fun k hk => by have := hRg k hk; omega))) ?_)
    rintro _ F11 _ le11 ⟨x4, rfl, hr4, rfl⟩
    replace har := har.mono le11
    replace hcv := hcv.mono le11
    exact ⟨⟨rfl, hr4⟩, rfl⟩
   refine gD (fun W Fs R lF z9 => ?_) ?_
   ·obtain ⟨e7, f7_2hr⟩ := z9 7 rfl
    rw [eS (l := [(7, (.tuple #[((tupAt (W 7) 0)), .bool ((fillL (matchP ar ((leftL (((ls.getD ((firstL ar ls ((sub ar cur ((firstC ar fs cur))))).toNat) (0, [], [])).1), ((ls.getD ((firstL ar ls ((sub ar cur ((firstC ar fs cur))))).toNat) (0, [], [])).2.1), ((ls.getD ((firstL ar ls ((sub ar cur ((firstC ar fs cur))))).toNat) (0, [], [])).2.2)))) ((sub ar cur ((firstC ar fs cur))))) ((ls.getD ((firstL ar ls ((sub ar cur ((firstC ar fs cur))))).toNat) (0, [], [])).2.2)).isSome)]))]) ⟨(e7).symm, ⟨⟩⟩]
    refine qj (qm (.tuple #[((tupAt (W 7) 0)), .bool ((fillL (matchP ar ((leftL (((ls.getD ((firstL ar ls ((sub ar cur ((firstC ar fs cur))))).toNat) (0, [], [])).1), ((ls.getD ((firstL ar ls ((sub ar cur ((firstC ar fs cur))))).toNat) (0, [], [])).2.1), ((ls.getD ((firstL ar ls ((sub ar cur ((firstC ar fs cur))))).toNat) (0, [], [])).2.2)))) ((sub ar cur ((firstC ar fs cur))))) ((ls.getD ((firstL ar ls ((sub ar cur ((firstC ar fs cur))))).toNat) (0, [], [])).2.2)).isSome)]) rfl ?_)
    exact ⟨rfl, rfl⟩
   refine gD (fun W Fs R lF z9 => ?_) ?_
   ·obtain ⟨e7, f7_2hr⟩ := z9 7 rfl
    have e8 : W 8 = (.tuple #[((tupAt (W 7) 0)), .bool ((fillL (matchP ar ((leftL (((ls.getD ((firstL ar ls ((sub ar cur ((firstC ar fs cur))))).toNat) (0, [], [])).1), ((ls.getD ((firstL ar ls ((sub ar cur ((firstC ar fs cur))))).toNat) (0, [], [])).2.1), ((ls.getD ((firstL ar ls ((sub ar cur ((firstC ar fs cur))))).toNat) (0, [], [])).2.2)))) ((sub ar cur ((firstC ar fs cur))))) ((ls.getD ((firstL ar ls ((sub ar cur ((firstC ar fs cur))))).toNat) (0, [], [])).2.2)).isSome)] : Value) := z9 8 rfl
    rw [eS (l := [(7, (.tuple #[((tupAt (W 7) 0)), .bool ((fillL (matchP ar ((leftL (((ls.getD ((firstL ar ls ((sub ar cur ((firstC ar fs cur))))).toNat) (0, [], [])).1), ((ls.getD ((firstL ar ls ((sub ar cur ((firstC ar fs cur))))).toNat) (0, [], [])).2.1), ((ls.getD ((firstL ar ls ((sub ar cur ((firstC ar fs cur))))).toNat) (0, [], [])).2.2)))) ((sub ar cur ((firstC ar fs cur))))) ((ls.getD ((firstL ar ls ((sub ar cur ((firstC ar fs cur))))).toNat) (0, [], [])).2.2)).isSome)])), (8, (.tuple #[((tupAt (W 7) 0)), .bool ((fillL (matchP ar ((leftL (((ls.getD ((firstL ar ls ((sub ar cur ((firstC ar fs cur))))).toNat) (0, [], [])).1), ((ls.getD ((firstL ar ls ((sub ar cur ((firstC ar fs cur))))).toNat) (0, [], [])).2.1), ((ls.getD ((firstL ar ls ((sub ar cur ((firstC ar fs cur))))).toNat) (0, [], [])).2.2)))) ((sub ar cur ((firstC ar fs cur))))) ((ls.getD ((firstL ar ls ((sub ar cur ((firstC ar fs cur))))).toNat) (0, [], [])).2.2)).isSome)]))]) ⟨(e7).symm, e8, ⟨⟩⟩]
    refine qj (jb (((tupAt (W 7) 0))) rfl rfl ?_)
    exact ⟨rfl, rfl⟩
   refine gD (fun W Fs R lF z9 => ?_) ?_
   ·obtain ⟨e7, f7_2hr⟩ := z9 7 rfl
    have e8 : W 8 = (.tuple #[((tupAt (W 7) 0)), .bool ((fillL (matchP ar ((leftL (((ls.getD ((firstL ar ls ((sub ar cur ((firstC ar fs cur))))).toNat) (0, [], [])).1), ((ls.getD ((firstL ar ls ((sub ar cur ((firstC ar fs cur))))).toNat) (0, [], [])).2.1), ((ls.getD ((firstL ar ls ((sub ar cur ((firstC ar fs cur))))).toNat) (0, [], [])).2.2)))) ((sub ar cur ((firstC ar fs cur))))) ((ls.getD ((firstL ar ls ((sub ar cur ((firstC ar fs cur))))).toNat) (0, [], [])).2.2)).isSome)] : Value) := z9 8 rfl
    rw [eS (l := [(7, (.tuple #[((tupAt (W 7) 0)), .bool ((fillL (matchP ar ((leftL (((ls.getD ((firstL ar ls ((sub ar cur ((firstC ar fs cur))))).toNat) (0, [], [])).1), ((ls.getD ((firstL ar ls ((sub ar cur ((firstC ar fs cur))))).toNat) (0, [], [])).2.1), ((ls.getD ((firstL ar ls ((sub ar cur ((firstC ar fs cur))))).toNat) (0, [], [])).2.2)))) ((sub ar cur ((firstC ar fs cur))))) ((ls.getD ((firstL ar ls ((sub ar cur ((firstC ar fs cur))))).toNat) (0, [], [])).2.2)).isSome)])), (8, (.tuple #[((tupAt (W 7) 0)), .bool ((fillL (matchP ar ((leftL (((ls.getD ((firstL ar ls ((sub ar cur ((firstC ar fs cur))))).toNat) (0, [], [])).1), ((ls.getD ((firstL ar ls ((sub ar cur ((firstC ar fs cur))))).toNat) (0, [], [])).2.1), ((ls.getD ((firstL ar ls ((sub ar cur ((firstC ar fs cur))))).toNat) (0, [], [])).2.2)))) ((sub ar cur ((firstC ar fs cur))))) ((ls.getD ((firstL ar ls ((sub ar cur ((firstC ar fs cur))))).toNat) (0, [], [])).2.2)).isSome)]))]) ⟨(e7).symm, e8, ⟨⟩⟩]
    refine qj (jb (.bool ((fillL (matchP ar ((leftL (((ls.getD ((firstL ar ls ((sub ar cur ((firstC ar fs cur))))).toNat) (0, [], [])).1), ((ls.getD ((firstL ar ls ((sub ar cur ((firstC ar fs cur))))).toNat) (0, [], [])).2.1), ((ls.getD ((firstL ar ls ((sub ar cur ((firstC ar fs cur))))).toNat) (0, [], [])).2.2)))) ((sub ar cur ((firstC ar fs cur))))) ((ls.getD ((firstL ar ls ((sub ar cur ((firstC ar fs cur))))).toNat) (0, [], [])).2.2)).isSome)) rfl rfl ?_)
    exact ⟨rfl, rfl⟩
   refine gD (fun W Fs R lF z9 => ?_) ?_
   ·obtain ⟨e7, f7_2hr⟩ := z9 7 rfl
    have e9 : W 9 = ((tupAt (W 7) 0)) := z9 9 rfl
    rw [eS (l := [(7, (.tuple #[((tupAt (W 7) 0)), .bool ((fillL (matchP ar ((leftL (((ls.getD ((firstL ar ls ((sub ar cur ((firstC ar fs cur))))).toNat) (0, [], [])).1), ((ls.getD ((firstL ar ls ((sub ar cur ((firstC ar fs cur))))).toNat) (0, [], [])).2.1), ((ls.getD ((firstL ar ls ((sub ar cur ((firstC ar fs cur))))).toNat) (0, [], [])).2.2)))) ((sub ar cur ((firstC ar fs cur))))) ((ls.getD ((firstL ar ls ((sub ar cur ((firstC ar fs cur))))).toNat) (0, [], [])).2.2)).isSome)])), (9, ((tupAt (W 7) 0)))]) ⟨(e7).symm, e9, ⟨⟩⟩]
    refine qj (XOp.assign (((tupAt (W 7) 0))) rfl ?_)
    exact ⟨rfl, rfl⟩
   exact stepsG.nil
  intro W F12 le12 hphi
  obtain ⟨e7, f7_2hr⟩ := hphi 7 (by decide)
  have e8 : W 8 = (.tuple #[((tupAt (W 7) 0)), .bool ((fillL (matchP ar ((leftL (((ls.getD ((firstL ar ls ((sub ar cur ((firstC ar fs cur))))).toNat) (0, [], [])).1), ((ls.getD ((firstL ar ls ((sub ar cur ((firstC ar fs cur))))).toNat) (0, [], [])).2.1), ((ls.getD ((firstL ar ls ((sub ar cur ((firstC ar fs cur))))).toNat) (0, [], [])).2.2)))) ((sub ar cur ((firstC ar fs cur))))) ((ls.getD ((firstL ar ls ((sub ar cur ((firstC ar fs cur))))).toNat) (0, [], [])).2.2)).isSome)] : Value) := hphi 8 (by decide)
  have e9 : W 9 = ((tupAt (W 7) 0)) := hphi 9 (by decide)
  have e11 : W 11 = ((tupAt (W 7) 0)) := hphi 11 (by decide)
  generalize hu4 : ((tupAt (W 7) 0)) = u3 at e7 f7_2hr e8 e9 e11
  rw [eS (l := [(7, (.tuple #[u3, .bool ((fillL (matchP ar ((leftL (((ls.getD ((firstL ar ls ((sub ar cur ((firstC ar fs cur))))).toNat) (0, [], [])).1), ((ls.getD ((firstL ar ls ((sub ar cur ((firstC ar fs cur))))).toNat) (0, [], [])).2.1), ((ls.getD ((firstL ar ls ((sub ar cur ((firstC ar fs cur))))).toNat) (0, [], [])).2.2)))) ((sub ar cur ((firstC ar fs cur))))) ((ls.getD ((firstL ar ls ((sub ar cur ((firstC ar fs cur))))).toNat) (0, [], [])).2.2)).isSome)])), (10, _), (11, u3)]) ⟨(e7).symm, (hphi 10 (by decide)), e11, ⟨⟩⟩]
  replace har := har.mono le12
  replace hcv := hcv.mono le12
  show XL _ _ _ _ _ _ _ (cellsH b4 [u2] 86 :: cellsH b1 [arv, fsv, lsv] 34 :: L)
  refine qg (.bool ((fillL (matchP ar ((leftL (((ls.getD ((firstL ar ls ((sub ar cur ((firstC ar fs cur))))).toNat) (0, [], [])).1), ((ls.getD ((firstL ar ls ((sub ar cur ((firstC ar fs cur))))).toNat) (0, [], [])).2.1), ((ls.getD ((firstL ar ls ((sub ar cur ((firstC ar fs cur))))).toNat) (0, [], [])).2.2)))) ((sub ar cur ((firstC ar fs cur))))) ((ls.getD ((firstL ar ls ((sub ar cur ((firstC ar fs cur))))).toNat) (0, [], [])).2.2)).isSome)) rfl (qb (qc (qa (cX (qk (0) qD rfl qH (by decide) rfl rfl (cX (qC [arv] qW qH rfl rfl (Rd.ownN [_] rfl rfl) (qd (cv) rfl (qd (ii ((((firstC ar fs cur) : Nat) : Int))) rfl (qd (u3) rfl (cX (ql (args := [.agg #[arv], cv, ii (((firstC ar fs cur) : Nat) : Int), u3]) call49 rfl (l3Put_spec (p := (firstC ar fs cur)) har hcv f7_2hr (ho := (hoc)) (hp := (hfp)) (hul := (Nat.le_trans fill_le60L (by decide)))) ?_))))))))))))
  rintro _ F13 _ le13 ⟨x5, rfl, hr5, rfl⟩
  replace hcv := hcv.mono le13
  refine qd (.tuple #[x5, .bool ((putL ar cur ((firstC ar fs cur)) ((fillL (matchP ar ((leftL (((ls.getD ((firstL ar ls ((sub ar cur ((firstC ar fs cur))))).toNat) (0, [], [])).1), ((ls.getD ((firstL ar ls ((sub ar cur ((firstC ar fs cur))))).toNat) (0, [], [])).2.1), ((ls.getD ((firstL ar ls ((sub ar cur ((firstC ar fs cur))))).toNat) (0, [], [])).2.2)))) ((sub ar cur ((firstC ar fs cur))))) ((ls.getD ((firstL ar ls ((sub ar cur ((firstC ar fs cur))))).toNat) (0, [], [])).2.2)).getD [])).isSome)]) rfl (cX (jb (x5) rfl rfl (cX (jb (.bool ((putL ar cur ((firstC ar fs cur)) ((fillL (matchP ar ((leftL (((ls.getD ((firstL ar ls ((sub ar cur ((firstC ar fs cur))))).toNat) (0, [], [])).1), ((ls.getD ((firstL ar ls ((sub ar cur ((firstC ar fs cur))))).toNat) (0, [], [])).2.1), ((ls.getD ((firstL ar ls ((sub ar cur ((firstC ar fs cur))))).toNat) (0, [], [])).2.2)))) ((sub ar cur ((firstC ar fs cur))))) ((ls.getD ((firstL ar ls ((sub ar cur ((firstC ar fs cur))))).toNat) (0, [], [])).2.2)).getD [])).isSome)) rfl rfl (qg (x5) rfl (qg (.bool ((putL ar cur ((firstC ar fs cur)) ((fillL (matchP ar ((leftL (((ls.getD ((firstL ar ls ((sub ar cur ((firstC ar fs cur))))).toNat) (0, [], [])).1), ((ls.getD ((firstL ar ls ((sub ar cur ((firstC ar fs cur))))).toNat) (0, [], [])).2.1), ((ls.getD ((firstL ar ls ((sub ar cur ((firstC ar fs cur))))).toNat) (0, [], [])).2.2)))) ((sub ar cur ((firstC ar fs cur))))) ((ls.getD ((firstL ar ls ((sub ar cur ((firstC ar fs cur))))).toNat) (0, [], [])).2.2)).getD [])).isSome)) rfl ?_))))))
  refine qb (qc (qc (qa (qd (.bool ((fillL (matchP ar ((leftL (((ls.getD ((firstL ar ls ((sub ar cur ((firstC ar fs cur))))).toNat) (0, [], [])).1), ((ls.getD ((firstL ar ls ((sub ar cur ((firstC ar fs cur))))).toNat) (0, [], [])).2.1), ((ls.getD ((firstL ar ls ((sub ar cur ((firstC ar fs cur))))).toNat) (0, [], [])).2.2)))) ((sub ar cur ((firstC ar fs cur))))) ((ls.getD ((firstL ar ls ((sub ar cur ((firstC ar fs cur))))).toNat) (0, [], [])).2.2)).isSome)) rfl (cX (jn rfl (qd (.bool (!((fillL (matchP ar ((leftL (((ls.getD ((firstL ar ls ((sub ar cur ((firstC ar fs cur))))).toNat) (0, [], [])).1), ((ls.getD ((firstL ar ls ((sub ar cur ((firstC ar fs cur))))).toNat) (0, [], [])).2.1), ((ls.getD ((firstL ar ls ((sub ar cur ((firstC ar fs cur))))).toNat) (0, [], [])).2.2)))) ((sub ar cur ((firstC ar fs cur))))) ((ls.getD ((firstL ar ls ((sub ar cur ((firstC ar fs cur))))).toNat) (0, [], [])).2.2)).isSome))) rfl ?_)))))))
  by_cases h9 : (!((fillL (matchP ar ((leftL (((ls.getD ((firstL ar ls ((sub ar cur ((firstC ar fs cur))))).toNat) (0, [], [])).1), ((ls.getD ((firstL ar ls ((sub ar cur ((firstC ar fs cur))))).toNat) (0, [], [])).2.1), ((ls.getD ((firstL ar ls ((sub ar cur ((firstC ar fs cur))))).toNat) (0, [], [])).2.2)))) ((sub ar cur ((firstC ar fs cur))))) ((ls.getD ((firstL ar ls ((sub ar cur ((firstC ar fs cur))))).toNat) (0, [], [])).2.2)).isSome)) = true
  ·have hfs9 := Bool.not_inj (y := false) h9
   refine qp (t := 103) rfl (vB h9) (qp (t := 103) rfl (vB h9) (cX (qM (.bool (true)) (vB h9) rfl (qb (jr rfl (qc (qa (qd (cv) rfl (qg (cv) rfl (qg (ii (3)) rfl (qb ?_)))))))))))
   refine qq (qh (qu (qh (qu (qn (L' := L) [cv, ii (3)] (.tuple #[cv, ii (3)]) (.tmp rfl (.tmp rfl .nil)) rfl (qt (qt (qt (qt (qt (qt le4 leG1) leG2) le5) le9) le12) le13) rF (sD (sD sR)) ?_)))))
   have e := hgo.trans (call_long hfc hlg (by omega) (by first | exact step_nofillL hqk hqm hfs9 | (rw [hst9]; exact opt_none hps9)))
   exact ⟨_, by rw [e], by rw [e]; exact hcv, rfl⟩
  rw [Bool.not_eq_true] at h9
  have hfs9 := Bool.not_inj (y := true) h9
  have hfl9 := fill_getD_len hfs9 (by omega)
  refine qo (t := 103) rfl (vB h9) (qm (.bool ((putL ar cur ((firstC ar fs cur)) ((fillL (matchP ar ((leftL (((ls.getD ((firstL ar ls ((sub ar cur ((firstC ar fs cur))))).toNat) (0, [], [])).1), ((ls.getD ((firstL ar ls ((sub ar cur ((firstC ar fs cur))))).toNat) (0, [], [])).2.1), ((ls.getD ((firstL ar ls ((sub ar cur ((firstC ar fs cur))))).toNat) (0, [], [])).2.2)))) ((sub ar cur ((firstC ar fs cur))))) ((ls.getD ((firstL ar ls ((sub ar cur ((firstC ar fs cur))))).toNat) (0, [], [])).2.2)).getD [])).isSome)) rfl (qo (t := 103) rfl (vB h9) (jn rfl (cX (qL (.bool (!((putL ar cur ((firstC ar fs cur)) ((fillL (matchP ar ((leftL (((ls.getD ((firstL ar ls ((sub ar cur ((firstC ar fs cur))))).toNat) (0, [], [])).1), ((ls.getD ((firstL ar ls ((sub ar cur ((firstC ar fs cur))))).toNat) (0, [], [])).2.1), ((ls.getD ((firstL ar ls ((sub ar cur ((firstC ar fs cur))))).toNat) (0, [], [])).2.2)))) ((sub ar cur ((firstC ar fs cur))))) ((ls.getD ((firstL ar ls ((sub ar cur ((firstC ar fs cur))))).toNat) (0, [], [])).2.2)).getD [])).isSome))) (vB h9) rfl (qb ?_))))))
  refine X.cond (t := !((putL ar cur ((firstC ar fs cur)) ((fillL (matchP ar ((leftL (((ls.getD ((firstL ar ls ((sub ar cur ((firstC ar fs cur))))).toNat) (0, [], [])).1), ((ls.getD ((firstL ar ls ((sub ar cur ((firstC ar fs cur))))).toNat) (0, [], [])).2.1), ((ls.getD ((firstL ar ls ((sub ar cur ((firstC ar fs cur))))).toNat) (0, [], [])).2.2)))) ((sub ar cur ((firstC ar fs cur))))) ((ls.getD ((firstL ar ls ((sub ar cur ((firstC ar fs cur))))).toNat) (0, [], [])).2.2)).getD [])).isSome)) rfl (fun h10 => ?_) (fun h10 => ?_)
  ·have hps9 := Bool.not_inj (y := false) h10
   have hst9 := step_putL hqk hqm hfs9
   refine qc (qa (qd (cv) rfl (qg (cv) rfl (qg (ii (3)) rfl (qb (qq (qh (qu (qh (qu (qn (L' := L) [cv, ii (3)] (.tuple #[cv, ii (3)]) (.tmp rfl (.tmp rfl .nil)) rfl (qt (qt (qt (qt (qt (qt le4 leG1) leG2) le5) le9) le12) le13) rF (sD (sD sR)) ?_)))))))))))
   have e := hgo.trans (call_long hfc hlg (by omega) (by first | exact step_nofillL hqk hqm hfs9 | (rw [hst9]; exact opt_none hps9)))
   exact ⟨_, by rw [e], by rw [e]; exact hcv, rfl⟩
  have hps9 := Bool.not_inj (y := true) h10
  have hst9 := step_putL hqk hqm hfs9
  refine qw (qc (qa (qd (x5) rfl (qg (x5) rfl (qb (qa (qd (ii ((f : Int))) rfl (cX (jg (((f : Int)) - 1) rfl rfl (by omega) (by omega) (qg (ii (((f : Int)) - 1)) rfl (qb ?_)))))))))))
  exact ⟨(f - 1, x5, (putL ar cur ((firstC ar fs cur)) ((fillL (matchP ar ((leftL (((ls.getD ((firstL ar ls ((sub ar cur ((firstC ar fs cur))))).toNat) (0, [], [])).1), ((ls.getD ((firstL ar ls ((sub ar cur ((firstC ar fs cur))))).toNat) (0, [], [])).2.1), ((ls.getD ((firstL ar ls ((sub ar cur ((firstC ar fs cur))))).toNat) (0, [], [])).2.2)))) ((sub ar cur ((firstC ar fs cur))))) ((ls.getD ((firstL ar ls ((sub ar cur ((firstC ar fs cur))))).toNat) (0, [], [])).2.2)).getD [])).getD [], F13), _, (qt (qt (qt (qt (qt leG1 leG2) le5) le9) le12) le13), rF, ⟨(vI (by (try dsimp only); omega)), rfl, rfl, ⟨⟩⟩, (sD (sC sR)), ⟨rfl, (qt (qt (qt (qt (qt leG1 leG2) le5) le9) le12) le13), (hr5), ((step_okL hfr hoc hfp hqk (by rw [hst9]; exact opt_get hps9))), ((hgo.trans (call_next hfc hlg (by omega) (by rw [hst9]; exact opt_get hps9)))), (by (try dsimp only); omega)⟩, (by (try dsimp only); omega)⟩
 have hfc : firstC ar fs cur = cur.length := firstC_none (fun i hi => hall i (by omega))
 refine qp (t := 40) rfl (vF h4) (qp (t := 40) rfl (vF h4) (qp (t := 40) rfl (vF h4) (qp (t := 40) rfl (vF h4) (qp (t := 40) rfl (vF h4) (cX (qL (.bool (false)) (vF h4) rfl (qb (X.condF rfl (qX (qr (qr (qJ (qc (qc (qa ?_)))))))))))))))
 refine qd (ii ((p : Int))) rfl (qd (cv) rfl (cX (qy qf rfl hcv.slv (cX (XOp.eql rfl rfl (qb ?_))))))
 refine qv (p := (p : Int) = (cur.length : Int)) rfl (fun h11 => ?_) (fun h11 => ?_)
 ·refine qc (qa (qd (cv) rfl (qg (cv) rfl (qg (ii (0)) rfl (qb (qq (qh (qu (qh (qu (qn (L' := L) [cv, ii (0)] (.tuple #[cv, ii (0)]) (.tmp rfl (.tmp rfl .nil)) rfl (qt (qt le4 leG1) leG2) rF (sD sR) ?_)))))))))))
  have e := hgo.trans (call_done hfc)
  exact ⟨_, by rw [e], by rw [e]; exact hcv, rfl⟩
 exfalso
 omega

/- laws.szLine -/
theorem szLine_spec {F : FH} {L : List HP} {fn : Int} {psv : Value} {ps : List (List Int)} (hps : RowsF F psv ps) {bdv : Value} {bd : List Int} (hbd : IntsF F bdv bd) {z : Int} (hz : 0 ≤ z ∧ z ≤ 4000000) (hla : ps.length ≤ 9223372036854775807) (hlb : ∀ q, q < ps.length → (ps.getD q []).length ≤ 9223372036854775807) (hlc : bd.length ≤ 9223372036854775807) :
    Does prog 99 [.agg #[ii (fn), psv, bdv], ii (z)] F (L) (fun v F' L' => (ii (dec z (szG lenR ps + bd.length)) : Value) = v ∧ F = F' ∧ L = L') := by
 refine qB func99 rfl rfl rfl ?_
 have hdr := dec_range z (szG lenR ps)
 refine qc (qa (cX (qP [ii (fn), psv, bdv] rfl rfl ?_)))
 intro b1
 refine qg (ii (0)) rfl (qb (qc (qa (cX (qk (1) runUnderlying152 rfl qQ (by decide) rfl rfl (cX (qi jh rfl (Rd.own [] rfl rfl) (qd (ii (z)) rfl (cX (ql (args := [psv, ii (z)]) call173 rfl (szInt64SS_spec (z := z) hps (hz := (by first | assumption | rfl | omega | simp)) (hrl := (hla)) (hrb := (hlb))) ?_))))))))))
 rintro _ _ _ _ ⟨rfl, rfl, rfl⟩
 refine qg (ii (dec z (szG lenR ps))) rfl (qb (qc (qc (qa (qd (ii (dec z (szG lenR ps))) rfl (cX (qI rfl rfl (qb ?_))))))))
 refine qv (p := (dec z (szG lenR ps) : Int) < 0) rfl (fun h1 => ?_) (fun h1 => ?_)
 ·refine qc (qa (qg (ii (-1)) rfl (qb (qq (qh (qn (L' := L) [ii (-1)] (ii (-1)) (.tmp rfl .nil) rfl rF rF (sD sR) ?_))))))
  exact ⟨(vI (dec_out (by omega))), rfl, rfl⟩
 refine qw (qc (qa (cX (qk (2) runUnderlying152 rfl qA (by decide) rfl rfl (cX (qi qK rfl (Rd.own [] rfl rfl) (qd (ii (dec z (szG lenR ps))) rfl (cX (ql (args := [bdv, ii (dec z (szG lenR ps))]) call38 rfl (szInt64S_spec (z := dec z (szG lenR ps)) hbd (hz := (by first | assumption | rfl | omega | simp)) (hlx := (by first | assumption | rfl | omega | simp))) ?_)))))))))
 rintro _ _ _ _ ⟨rfl, rfl, rfl⟩
 refine qg (ii (dec (dec z (szG lenR ps)) bd.length)) rfl (qb (qc (qc (qa (qd (ii (dec (dec z (szG lenR ps)) bd.length)) rfl (cX (qI rfl rfl (qb ?_))))))))
 refine qv (p := (dec (dec z (szG lenR ps)) bd.length : Int) < 0) rfl (fun h2 => ?_) (fun h2 => ?_)
 ·refine qc (qa (qg (ii (-1)) rfl (qb (qq (qh (qn (L' := L) [ii (-1)] (ii (-1)) (.tmp rfl .nil) rfl rF rF (sD sR) ?_))))))
  exact ⟨(vI (by rw [← dec_dec (by omega)]; have := (dec_range (dec z (szG lenR ps)) bd.length).1; omega)), rfl, rfl⟩
 refine qw (qc (qa (qd (ii (dec (dec z (szG lenR ps)) bd.length)) rfl (qg (ii (dec (dec z (szG lenR ps)) bd.length)) rfl (qb (qq (qn (L' := L) [ii (dec (dec z (szG lenR ps)) bd.length)] (ii (dec (dec z (szG lenR ps)) bd.length)) (.tmp rfl .nil) rfl rF rF (sD sR) ?_)))))))
 exact ⟨(vI ((dec_dec (by omega)).symm)), rfl, rfl⟩

/- laws.szLineS -/
theorem szLineS_spec {F : FH} {L : List HP} {rsv : Value} {rs : List LineT} (hrs : LinesF F rsv rs) {z : Int} (hz : 0 ≤ z ∧ z ≤ 4000000) (hrl : rs.length ≤ 9223372036854775807) (hrb : ∀ i, i < rs.length → (rs.getD i (0, [], [])).2.1.length ≤ 9223372036854775807 ∧ (∀ q, q < (rs.getD i (0, [], [])).2.1.length → ((rs.getD i (0, [], [])).2.1.getD q []).length ≤ 9223372036854775807) ∧ (rs.getD i (0, [], [])).2.2.length ≤ 9223372036854775807) :
    Does prog 39 [rsv, ii (z)] F (L) (fun v F' L' => (ii (dec z (szG lenLn rs)) : Value) = v ∧ F = F' ∧ L = L') := by
 refine qB func39 rfl rfl rfl (qc (qa (qg (ii (0)) rfl (qb (qc (qa (qd (ii (z)) rfl (qd (rsv) rfl (cX (qy runUnderlying25 rfl hrs.slv (cX (jg (z - ((rs.length : Int))) rfl rfl (by omega) (by omega) (qg (ii (z - ((rs.length : Int)))) rfl (qb (qc (qc (qa ?_)))))))))))))))))
 refine qd (ii (z - ((rs.length : Int)))) rfl (cX (qI rfl rfl (qb ?_)))
 refine qv (p := (z - ((rs.length : Int)) : Int) < 0) rfl (fun h1 => ?_) (fun h1 => ?_)
 ·refine qc (qa (qg (ii (-1)) rfl (qb (qq (qh (qn (L' := L) [ii (-1)] (ii (-1)) (.tmp rfl .nil) rfl rF rF sR ?_))))))
  exact ⟨(vI (dec_mono (n := rs.length) (by rw [dec_neg (by omega)]; omega) (by unfold szG; omega))), rfl, rfl⟩
 refine qw (qc (qc (qa (qg (ii (0)) rfl (qb (qF (ja (α := Nat) (fun k => [(0, rsv), (1, ii (dec z (rs.length + gTo lenLn rs k))), (5, ii ((k : Int)))]) (fun k => L) (fun k F' => F = F' ∧ (k ≤ rs.length) ∧ (0 ≤ dec z (rs.length + gTo lenLn rs k))) (fun k => rs.length - k) 0 ⟨rfl, (vI (by show z - rs.length = dec z (rs.length + 0); rw [Nat.add_zero, dec_pos (by omega)])), rfl, ⟨⟩⟩ sR ⟨rfl, (by (try dsimp only) <;> omega), (by show 0 ≤ dec z (rs.length + 0); rw [Nat.add_zero, dec_pos (by omega)]; omega)⟩ ?_)))))))
 rintro k rE _ _ ⟨rfl, hk, hnn⟩
 show X _ _ _ _ (envs [(0, rsv), (1, ii (dec z (rs.length + gTo lenLn rs k))), (5, ii ((k : Int)))] rE) _ (L)
 have hdr := dec_range z (rs.length + gTo lenLn rs k)
 have hrk := hrb k
 have hgk : lenLn (rs.getD k (0, [], [])) = szG lenR (rs.getD k (0, [], [])).2.1 + (rs.getD k (0, [], [])).2.2.length := rfl
 refine qc (qc (qa (qd (ii ((k : Int))) rfl (qd (rsv) rfl (cX (qy runUnderlying25 rfl hrs.slv (cX (qI rfl rfl (qb ?_)))))))))
 refine qv (p := (k : Int) < (rs.length : Int)) rfl (fun h2 => ?_) (fun h2 => ?_)
 ·refine qw (qc (qF (qc (qa (qd (rsv) rfl (qd (ii ((k : Int))) rfl (cX (qx k runUnderlying25 sizeOf152 rfl rfl rfl hrs.slv (by omega) rfl ?_))))))))
  obtain ⟨a1, a2, ha1, ha2, hrg1, hq1⟩ := hrs.rd (i := k) (by omega)
  refine cX (qC [ii ((rs.getD k (0, [], [])).1), a1, a2] isAgg152 sizeOf152 rfl rfl (Rd.all (hrg1 _)) (qd (ii (dec z (rs.length + gTo lenLn rs k))) rfl (cX (ql (args := [.agg #[ii ((rs.getD k (0, [], [])).1), a1, a2], ii (dec z (rs.length + gTo lenLn rs k))]) call99 rfl (szLine_spec (z := dec z (rs.length + gTo lenLn rs k)) ha1 ha2 (hz := (by first | assumption | rfl | omega | simp)) (hla := ((hrk (by omega)).1)) (hlb := ((hrk (by omega)).2.1)) (hlc := ((hrk (by omega)).2.2))) ?_))))
  rintro _ _ _ _ ⟨rfl, rfl, rfl⟩
  refine qg (ii (dec (dec z (rs.length + gTo lenLn rs k)) (szG lenR ((rs.getD k (0, [], [])).2.1) + ((rs.getD k (0, [], [])).2.2).length))) rfl (qb (qc (qa (qd (ii (dec (dec z (rs.length + gTo lenLn rs k)) (szG lenR ((rs.getD k (0, [], [])).2.1) + ((rs.getD k (0, [], [])).2.2).length))) rfl (cX (qI rfl rfl (qb ?_)))))))
  refine qv (p := (dec (dec z (rs.length + gTo lenLn rs k)) (szG lenR ((rs.getD k (0, [], [])).2.1) + ((rs.getD k (0, [], [])).2.2).length) : Int) < 0) rfl (fun h3 => ?_) (fun h3 => ?_)
  ·refine qc (qa (qg (ii (-1)) rfl (qb (qq (qu (qh (qh (qu (qh (qn (L' := L) [ii (-1)] (ii (-1)) (.tmp rfl .nil) rfl rF rF sR ?_))))))))))
   exact ⟨(vI (by have h9 := gTo_le (f := lenLn) (l := rs) ((0, [], []) : LineT) (k + 1) rs.length (by omega) (Nat.le_refl _); refine dec_mono (n := rs.length + gTo lenLn rs (k + 1)) ?_ (by unfold szG; omega); rw [← gTo_succ ((0, [], []) : LineT) (by omega), ← Nat.add_assoc, ← dec_dec (by omega)]; assumption)), rfl, rfl⟩
  refine qw (qa (qd (ii ((k : Int))) rfl (cX (qG (((k + 1 : Nat) : Int)) rfl rfl (by omega) (by omega) (qg (ii (((k + 1 : Nat) : Int))) rfl (qb ?_))))))
  exact ⟨k + 1, _, FLe.refl _, rF, ⟨rfl, (vI (by rw [dec_dec (by omega), Nat.add_assoc, ← gTo_succ ((0, [], []) : LineT) (by omega)]; rfl)), rfl, ⟨⟩⟩, sR, ⟨rfl, (by (try dsimp only) <;> omega), (by (try dsimp only); rw [← gTo_succ ((0, [], []) : LineT) (by omega), ← Nat.add_assoc, ← dec_dec (by omega)]; exact Int.not_lt.1 (by assumption))⟩, (by omega)⟩
 refine qX (qr (qr (qJ (qc (qa (qd (ii (dec z (rs.length + gTo lenLn rs k))) rfl (qg (ii (dec z (rs.length + gTo lenLn rs k))) rfl (qb (qq (qn (L' := L) [ii (dec z (rs.length + gTo lenLn rs k))] (ii (dec z (rs.length + gTo lenLn rs k))) (.tmp rfl .nil) rfl rF rF sR ?_))))))))))
 exact ⟨(vI (by rw [szG, show k = rs.length from by omega])), rfl, rfl⟩

/- laws.szFront -/
theorem szFront_spec {F : FH} {L : List HP} {arv : Value} {ar : List Int} (har : IntsF F arv ar) {fsv : Value} {fs : List Int} (hfs : IntsF F fsv fs) {lsv : Value} {ls : List LineT} (hls : LinesF F lsv ls) {z : Int} (hz : 0 ≤ z ∧ z ≤ 4000000) (hal : ar.length ≤ 9223372036854775807) (hfl : fs.length ≤ 9223372036854775807) (hrl : ls.length ≤ 9223372036854775807) (hrb : ∀ i, i < ls.length → (ls.getD i (0, [], [])).2.1.length ≤ 9223372036854775807 ∧ (∀ q, q < (ls.getD i (0, [], [])).2.1.length → ((ls.getD i (0, [], [])).2.1.getD q []).length ≤ 9223372036854775807) ∧ (ls.getD i (0, [], [])).2.2.length ≤ 9223372036854775807) :
    Does prog 7 [.agg #[arv, fsv, lsv], ii (z)] F (L) (fun v F' L' => (ii (dec z ((ar.length + fs.length) + szG lenLn ls)) : Value) = v ∧ F = F' ∧ L = L') := by
 refine qB func7 rfl rfl rfl ?_
 have hdr := dec_range z ar.length
 have hdr2 := dec_range (dec z ar.length) fs.length
 refine qc (qa (cX (qP [arv, fsv, lsv] rfl rfl ?_)))
 intro b1
 refine qg (ii (0)) rfl (qb (qc (qa (cX (qk (0) runUnderlying27 rfl sizeOf24 (by decide) rfl rfl (cX (qC [arv] isAgg24 sizeOf24 rfl rfl (Rd.ownN [] rfl rfl) (qd (ii (z)) rfl (cX (ql (args := [.agg #[arv], ii (z)]) call37 rfl (szSig_spec (z := z) har (hz := (by first | assumption | rfl | omega | simp)) (hlx := (by first | assumption | rfl | omega | simp))) ?_))))))))))
 rintro _ _ _ _ ⟨rfl, rfl, rfl⟩
 refine qg (ii (dec z ar.length)) rfl (qb (qc (qc (qa (qd (ii (dec z ar.length)) rfl (cX (qI rfl rfl (qb ?_))))))))
 refine qv (p := (dec z ar.length : Int) < 0) rfl (fun h1 => ?_) (fun h1 => ?_)
 ·refine qc (qa (qg (ii (-1)) rfl (qb (qq (qh (qn (L' := L) [ii (-1)] (ii (-1)) (.tmp rfl .nil) rfl rF rF (sD sR) ?_))))))
  exact ⟨(vI (by rw [Nat.add_assoc]; exact dec_out (by omega))), rfl, rfl⟩
 refine qw (qc (qa (cX (qk (1) runUnderlying27 rfl qA (by decide) rfl rfl (cX (qi qK rfl (Rd.own [] rfl rfl) (qd (ii (dec z ar.length)) rfl (cX (ql (args := [fsv, ii (dec z ar.length)]) call38 rfl (szInt64S_spec (z := dec z ar.length) hfs (hz := (by first | assumption | rfl | omega | simp)) (hlx := (by first | assumption | rfl | omega | simp))) ?_)))))))))
 rintro _ _ _ _ ⟨rfl, rfl, rfl⟩
 refine qg (ii (dec (dec z ar.length) fs.length)) rfl (qb (qc (qc (qa (qd (ii (dec (dec z ar.length) fs.length)) rfl (cX (qI rfl rfl (qb ?_))))))))
 refine qv (p := (dec (dec z ar.length) fs.length : Int) < 0) rfl (fun h2 => ?_) (fun h2 => ?_)
 ·refine qc (qa (qg (ii (-1)) rfl (qb (qq (qh (qn (L' := L) [ii (-1)] (ii (-1)) (.tmp rfl .nil) rfl rF rF (sD sR) ?_))))))
  exact ⟨(vI (dec_out (by rw [← dec_dec (by omega)]; omega))), rfl, rfl⟩
 refine qw (qc (qa (cX (qk (2) runUnderlying27 rfl sizeOf25 (by decide) rfl rfl (cX (qi isAgg25 rfl (Rd.own [] rfl rfl) (qd (ii (dec (dec z ar.length) fs.length)) rfl (cX (ql (args := [lsv, ii (dec (dec z ar.length) fs.length)]) call39 rfl (szLineS_spec (z := dec (dec z ar.length) fs.length) hls (hz := (by first | assumption | rfl | omega | simp)) (hrl := (by first | assumption | rfl | omega | simp)) (hrb := (by first | assumption | rfl | omega | simp))) ?_)))))))))
 rintro _ _ _ _ ⟨rfl, rfl, rfl⟩
 refine qg (ii (dec (dec (dec z ar.length) fs.length) (szG lenLn ls))) rfl (qb (qc (qc (qa (qd (ii (dec (dec (dec z ar.length) fs.length) (szG lenLn ls))) rfl (cX (qI rfl rfl (qb ?_))))))))
 refine qv (p := (dec (dec (dec z ar.length) fs.length) (szG lenLn ls) : Int) < 0) rfl (fun h3 => ?_) (fun h3 => ?_)
 ·refine qc (qa (qg (ii (-1)) rfl (qb (qq (qh (qn (L' := L) [ii (-1)] (ii (-1)) (.tmp rfl .nil) rfl rF rF (sD sR) ?_))))))
  exact ⟨(vI (by rw [← dec_dec (by rw [← dec_dec (by omega)]; omega), ← dec_dec (by omega)]; have := (dec_range (dec (dec z ar.length) fs.length) (szG lenLn ls)).1; omega)), rfl, rfl⟩
 refine qw (qc (qa (qd (ii (dec (dec (dec z ar.length) fs.length) (szG lenLn ls))) rfl (qg (ii (dec (dec (dec z ar.length) fs.length) (szG lenLn ls))) rfl (qb (qq (qn (L' := L) [ii (dec (dec (dec z ar.length) fs.length) (szG lenLn ls))] (ii (dec (dec (dec z ar.length) fs.length) (szG lenLn ls))) (.tmp rfl .nil) rfl rF rF (sD sR) ?_)))))))
 exact ⟨(vI (by rw [← dec_dec (by rw [← dec_dec (by omega)]; omega), ← dec_dec (by omega)])), rfl, rfl⟩

/- laws.eqLine -/
theorem eqLine_spec {F : FH} {L : List HP} {fn : Int} {psv : Value} {ps : List (List Int)} (hps : RowsF F psv ps) {bdv : Value} {bd : List Int} (hbd : IntsF F bdv bd) {gn : Int} {qsv : Value} {qs : List (List Int)} (hqs : RowsF F qsv qs) {cev : Value} {ce : List Int} (hce : IntsF F cev ce) (hla : ps.length ≤ 9223372036854775807) (hlb : ∀ q, q < ps.length → (ps.getD q []).length ≤ 9223372036854775807) (hlc : bd.length ≤ 9223372036854775807) :
    Does prog 121 [.agg #[ii (fn), psv, bdv], .agg #[ii (gn), qsv, cev]] F (L) (fun v F' L' => (.bool (decide ((fn, ps, bd) = (gn, qs, ce))) : Value) = v ∧ F = F' ∧ L = L') := by
 refine qB func121 rfl rfl rfl (qc (qa (cX (qP [ii (fn), psv, bdv] rfl rfl ?_))))
 intro b1
 refine cX (qP [ii (gn), qsv, cev] rfl rfl ?_)
 intro b2
 refine qg (.bool (false)) rfl (qb (qc (qc (qa (cX (qk (0) qO rfl qE (by decide) rfl rfl (cX (qi qS rfl (Rd.own [_] rfl rfl) (cX (qk (0) qO rfl qE (by decide) rfl rfl (cX (qi qS rfl (Rd.own [] rfl rfl) (cX (XOp.neq rfl rfl (qb ?_)))))))))))))))
 refine qv (p := (fn : Int) ≠ gn) rfl (fun h1 => ?_) (fun h1 => ?_)
 ·refine qc (qa (qg (.bool (false)) rfl (qb (qq (qh (qn (L' := L) [.bool (false)] (.bool (false)) (.tmp rfl .nil) rfl rF rF (sD (sD sR)) ?_))))))
  exact ⟨(vB (decide_eq_false (by intro e; simp_all))), rfl, rfl⟩
 refine qw (qc (qc (qa (cX (qk (1) qO rfl qQ (by decide) rfl rfl (cX (qi jh rfl (Rd.own [_] rfl rfl) (cX (qk (1) qO rfl qQ (by decide) rfl rfl (cX (qi jh rfl (Rd.own [] rfl rfl) (cX (ql (args := [psv, qsv]) call184 rfl (eqInt64SS_spec hps hqs (hal := (hla)) (hbd := (hlb))) ?_)))))))))))))
 rintro _ _ _ _ ⟨rfl, rfl, rfl⟩
 refine cX (jo rfl (qb ?_))
 refine qv (p := ¬(ps = qs)) rfl (fun h2 => ?_) (fun h2 => ?_)
 ·refine qc (qa (qg (.bool (false)) rfl (qb (qq (qh (qn (L' := L) [.bool (false)] (.bool (false)) (.tmp rfl .nil) rfl rF rF (sD (sD sR)) ?_))))))
  exact ⟨(vB (decide_eq_false (by intro e; simp_all))), rfl, rfl⟩
 refine qw (qc (qc (qa (cX (qk (2) qO rfl qA (by decide) rfl rfl (cX (qi qK rfl (Rd.own [_] rfl rfl) (cX (qk (2) qO rfl qA (by decide) rfl rfl (cX (qi qK rfl (Rd.own [] rfl rfl) (cX (ql (args := [bdv, cev]) call12 rfl (eqInt64S_spec hbd hce (hbd := (.inl hlc))) ?_)))))))))))))
 rintro _ _ _ _ ⟨rfl, rfl, rfl⟩
 refine cX (jo rfl (qb ?_))
 refine qv (p := ¬(bd = ce)) rfl (fun h3 => ?_) (fun h3 => ?_)
 ·refine qc (qa (qg (.bool (false)) rfl (qb (qq (qh (qn (L' := L) [.bool (false)] (.bool (false)) (.tmp rfl .nil) rfl rF rF (sD (sD sR)) ?_))))))
  exact ⟨(vB (decide_eq_false (by intro e; simp_all))), rfl, rfl⟩
 refine qw (qc (qa (qg (.bool (true)) rfl (qb (qq (qn (L' := L) [.bool (true)] (.bool (true)) (.tmp rfl .nil) rfl rF rF (sD (sD sR)) ?_))))))
 exact ⟨(vB (decide_eq_true (by simp_all))), rfl, rfl⟩

/- laws.eqLineS -/
theorem eqLineS_spec {F : FH} {L : List HP} {av : Value} {a : List LineT} (ha : LinesF F av a) {bv : Value} {b : List LineT} (hb : LinesF F bv b) (hal : a.length ≤ 9223372036854775807) (hbd : ∀ i, i < a.length → (a.getD i (0, [], [])).2.1.length ≤ 9223372036854775807 ∧ (∀ q, q < (a.getD i (0, [], [])).2.1.length → ((a.getD i (0, [], [])).2.1.getD q []).length ≤ 9223372036854775807) ∧ (a.getD i (0, [], [])).2.2.length ≤ 9223372036854775807) :
    Does prog 62 [av, bv] F (L) (fun v F' L' => (.bool (decide (a = b)) : Value) = v ∧ F = F' ∧ L = L') := by
 refine qB func62 rfl rfl rfl (qc (qa (qg (.bool (false)) rfl (qb (qc (qc (qa (qd (av) rfl (cX (qy qV rfl ha.slv (qd (bv) rfl (cX (qy qV rfl hb.slv (cX (XOp.neq rfl rfl (qb ?_))))))))))))))))
 refine qv (p := ((a.length : Int) : Int) ≠ (b.length : Int)) rfl (fun h1 => ?_) (fun h1 => ?_)
 ·refine qc (qa (qg (.bool (false)) rfl (qb (qq (qh (qn (L' := L) [.bool (false)] (.bool (false)) (.tmp rfl .nil) rfl rF rF sR ?_))))))
  exact ⟨(vB (decide_eq_false (fun e => by rw [e] at h1; omega))), rfl, rfl⟩
 refine qw (qc (qc (qa (qg (ii (0)) rfl (qb (qF (ja (α := Nat) (fun k => [(0, av), (1, bv), (5, ii ((k : Int)))]) (fun k => L) (fun k F' => F = F' ∧ (k ≤ a.length) ∧ (∀ i, i < k → a.getD i (0, [], []) = b.getD i (0, [], []))) (fun k => a.length - k) 0 ⟨rfl, rfl, rfl, ⟨⟩⟩ sR ⟨rfl, (by (try dsimp only) <;> omega), (fun i hi => absurd hi (by omega))⟩ ?_)))))))
 rintro k rE _ _ ⟨rfl, hk, hall⟩
 show X _ _ _ _ (envs [(0, av), (1, bv), (5, ii ((k : Int)))] rE) _ (L)
 have hbk := hbd k
 refine qc (qc (qa (qd (ii ((k : Int))) rfl (qd (av) rfl (cX (qy qV rfl ha.slv (cX (qI rfl rfl (qb ?_)))))))))
 refine qv (p := (k : Int) < (a.length : Int)) rfl (fun h2 => ?_) (fun h2 => ?_)
 ·refine qw (qc (qF (qc ?_)))
  obtain ⟨a1, a2, ha1, ha2, hrg1, hq1⟩ := ha.rd (i := k) (by omega)
  obtain ⟨a3, a4, ha3, ha4, hrg2, hq2⟩ := hb.rd (i := k) (by omega)
  refine ju [] L 8 [] [[], [], [0, 1], [2], [], [], [4, 5], [6]] (phiL [qe av, qe (ii ((k : Int)) : Value), qe (.pointer (some (elemA av (k * 3)))), qe (.agg #[ii ((a.getD k (0, [], [])).1), a1, a2]), qe bv, qe (ii ((k : Int)) : Value), qe (.pointer (some (elemA bv (k * 3)))), qe (.agg #[ii ((b.getD k (0, [], [])).1), a3, a4])]) (ownL []) mixed rfl rfl (by kernel_rfl) ?_ ?_
  ·refine pD (fun W R z9 => ?_) ?_
   ·refine qj (qm (av) rfl ?_)
    exact ⟨rfl, rfl, rfl⟩
   refine pD (fun W R z9 => ?_) ?_
   ·refine qj (qm (ii ((k : Int))) rfl ?_)
    exact ⟨rfl, rfl, rfl⟩
   refine pD (fun W R z9 => ?_) ?_
   ·rw [eS (l := [(0, _), (1, _)]) ⟨z9 0 rfl, z9 1 rfl, ⟨⟩⟩]
    refine qj (qx k qV ji rfl rfl rfl ha.slv (by omega) rfl ?_)
    exact ⟨rfl, rfl, rfl⟩
   refine pD (fun W R z9 => ?_) ?_
   ·rw [eS (l := [(2, _)]) ⟨z9 2 rfl, ⟨⟩⟩]
    refine qj (qC [ii ((a.getD k (0, [], [])).1), a1, a2] isAgg91 ji rfl rfl (Rd.all (hrg1 _)) ?_)
    exact ⟨rfl, rfl, rfl⟩
   refine pD (fun W R z9 => ?_) ?_
   ·refine qj (qm (bv) rfl ?_)
    exact ⟨rfl, rfl, rfl⟩
   refine pD (fun W R z9 => ?_) ?_
   ·refine qj (qm (ii ((k : Int))) rfl ?_)
    exact ⟨rfl, rfl, rfl⟩
   refine pD (fun W R z9 => ?_) ?_
   ·rw [eS (l := [(4, _), (5, _)]) ⟨z9 4 rfl, z9 5 rfl, ⟨⟩⟩]
    refine qj (qx k qV ji rfl rfl rfl hb.slv (by omega) rfl ?_)
    exact ⟨rfl, rfl, rfl⟩
   refine pD (fun W R z9 => ?_) ?_
   ·rw [eS (l := [(6, _)]) ⟨z9 6 rfl, ⟨⟩⟩]
    refine qj (qC [ii ((b.getD k (0, [], [])).1), a3, a4] isAgg91 ji rfl rfl (Rd.all (hrg2 _)) ?_)
    exact ⟨rfl, rfl, rfl⟩
   exact stepsP.nil
  intro W hphi
  rw [eS (l := [(3, _), (7, _)]) ⟨(hphi 3 (by decide)), (hphi 7 (by decide)), ⟨⟩⟩]
  show XL _ _ _ _ _ _ _ (L)
  refine cX (ql (args := [.agg #[ii ((a.getD k (0, [], [])).1), a1, a2], .agg #[ii ((b.getD k (0, [], [])).1), a3, a4]]) call121 rfl (eqLine_spec ha1 ha2 ha3 ha4 (hla := ((hbk (by omega)).1)) (hlb := ((hbk (by omega)).2.1)) (hlc := ((hbk (by omega)).2.2))) ?_)
  rintro _ _ _ _ ⟨rfl, rfl, rfl⟩
  refine cX (jo rfl (qb ?_))
  refine qv (p := ¬((((a.getD k (0, [], [])).1), ((a.getD k (0, [], [])).2.1), ((a.getD k (0, [], [])).2.2)) = (((b.getD k (0, [], [])).1), ((b.getD k (0, [], [])).2.1), ((b.getD k (0, [], [])).2.2)))) rfl (fun h3 => ?_) (fun h3 => ?_)
  ·refine qc (qa (qg (.bool (false)) rfl (qb (qq (qu (qh (qh (qu (qh (qn (L' := L) [.bool (false)] (.bool (false)) (.tmp rfl .nil) rfl rF rF sR ?_))))))))))
   exact ⟨(vB (decide_eq_false (fun e => by subst e; simp at *))), rfl, rfl⟩
  refine qw (qa (qd (ii ((k : Int))) rfl (cX (qG (((k + 1 : Nat) : Int)) rfl rfl (by omega) (by omega) (qg (ii (((k + 1 : Nat) : Int))) rfl (qb ?_))))))
  exact ⟨k + 1, _, FLe.refl _, rF, ⟨rfl, rfl, rfl, ⟨⟩⟩, sR, ⟨rfl, (by (try dsimp only) <;> omega), (fun i hi => (Nat.lt_or_ge i k).elim (fun h => hall i h) (fun h => by obtain rfl : i = k := (by omega); first | assumption | exact Classical.not_not.1 (by assumption)))⟩, (by omega)⟩
 refine qX (qr (qr (qJ (qc (qa (qg (.bool (true)) rfl (qb (qq (qn (L' := L) [.bool (true)] (.bool (true)) (.tmp rfl .nil) rfl rF rF sR ?_)))))))))
 exact ⟨(vB (decide_eq_true (ext_any ((0, [], []) : LineT) (by omega) (fun i hi => hall i (by omega))))), rfl, rfl⟩

/- laws.eqFront -/
theorem eqFront_spec {F : FH} {L : List HP} {arv : Value} {ar : List Int} (har : IntsF F arv ar) {fsv : Value} {fs : List Int} (hfs : IntsF F fsv fs) {lsv : Value} {ls : List LineT} (hls : LinesF F lsv ls) {brv : Value} {br : List Int} (hbr : IntsF F brv br) {gsv : Value} {gs : List Int} (hgs : IntsF F gsv gs) {msv : Value} {ms : List LineT} (hms : LinesF F msv ms) (hcl : ar.length ≤ 9223372036854775807) (hfl : fs.length ≤ 9223372036854775807) (hal : ls.length ≤ 9223372036854775807) (hbd : ∀ i, i < ls.length → (ls.getD i (0, [], [])).2.1.length ≤ 9223372036854775807 ∧ (∀ q, q < (ls.getD i (0, [], [])).2.1.length → ((ls.getD i (0, [], [])).2.1.getD q []).length ≤ 9223372036854775807) ∧ (ls.getD i (0, [], [])).2.2.length ≤ 9223372036854775807) :
    Does prog 13 [.agg #[arv, fsv, lsv], .agg #[brv, gsv, msv]] F (L) (fun v F' L' => (.bool (decide (ar = br ∧ fs = gs ∧ ls = ms)) : Value) = v ∧ F = F' ∧ L = L') := by
 refine qB func13 rfl rfl rfl (qc (qa (cX (qP [arv, fsv, lsv] rfl rfl ?_))))
 intro b1
 refine cX (qP [brv, gsv, msv] rfl rfl ?_)
 intro b2
 refine qg (.bool (false)) rfl (qb (qc (qc (qa (cX (qk (0) qD rfl qH (by decide) rfl rfl (cX (qC [arv] qW qH rfl rfl (Rd.ownN [_] rfl rfl) (cX (qk (0) qD rfl qH (by decide) rfl rfl (cX (qC [brv] qW qH rfl rfl (Rd.ownN [] rfl rfl) (cX (ql (args := [.agg #[arv], .agg #[brv]]) call61 rfl (eqSig_spec har hbr (hbd := (.inl hcl))) ?_))))))))))))))
 rintro _ _ _ _ ⟨rfl, rfl, rfl⟩
 refine cX (jo rfl (qb ?_))
 refine qv (p := ¬(ar = br)) rfl (fun h1 => ?_) (fun h1 => ?_)
 ·refine qc (qa (qg (.bool (false)) rfl (qb (qq (qh (qn (L' := L) [.bool (false)] (.bool (false)) (.tmp rfl .nil) rfl rF rF (sD (sD sR)) ?_))))))
  exact ⟨(vB (decide_eq_false (by intro e; simp_all))), rfl, rfl⟩
 refine qw (qc (qc (qa (cX (qk (1) qD rfl qA (by decide) rfl rfl (cX (qi qK rfl (Rd.own [_] rfl rfl) (cX (qk (1) qD rfl qA (by decide) rfl rfl (cX (qi qK rfl (Rd.own [] rfl rfl) (cX (ql (args := [fsv, gsv]) call12 rfl (eqInt64S_spec hfs hgs (hbd := (.inl hfl))) ?_)))))))))))))
 rintro _ _ _ _ ⟨rfl, rfl, rfl⟩
 refine cX (jo rfl (qb ?_))
 refine qv (p := ¬(fs = gs)) rfl (fun h2 => ?_) (fun h2 => ?_)
 ·refine qc (qa (qg (.bool (false)) rfl (qb (qq (qh (qn (L' := L) [.bool (false)] (.bool (false)) (.tmp rfl .nil) rfl rF rF (sD (sD sR)) ?_))))))
  exact ⟨(vB (decide_eq_false (by intro e; simp_all))), rfl, rfl⟩
 refine qw (qc (qc (qa (cX (qk (2) qD rfl sizeOf32 (by decide) rfl rfl (cX (qi isAgg32 rfl (Rd.own [_] rfl rfl) (cX (qk (2) qD rfl sizeOf32 (by decide) rfl rfl (cX (qi isAgg32 rfl (Rd.own [] rfl rfl) (cX (ql (args := [lsv, msv]) call62 rfl (eqLineS_spec hls hms (hal := (by first | assumption | rfl | omega | simp)) (hbd := (by first | assumption | rfl | omega | simp))) ?_)))))))))))))
 rintro _ _ _ _ ⟨rfl, rfl, rfl⟩
 refine cX (jo rfl (qb ?_))
 refine qv (p := ¬(ls = ms)) rfl (fun h3 => ?_) (fun h3 => ?_)
 ·refine qc (qa (qg (.bool (false)) rfl (qb (qq (qh (qn (L' := L) [.bool (false)] (.bool (false)) (.tmp rfl .nil) rfl rF rF (sD (sD sR)) ?_))))))
  exact ⟨(vB (decide_eq_false (by intro e; simp_all))), rfl, rfl⟩
 refine qw (qc (qa (qg (.bool (true)) rfl (qb (qq (qn (L' := L) [.bool (true)] (.bool (true)) (.tmp rfl .nil) rfl rF rF (sD (sD sR)) ?_))))))
 exact ⟨(vB (decide_eq_true (by simp_all))), rfl, rfl⟩

/- laws.toLine -/
theorem toLine_spec {F : FH} {L : List HP} {fn : Int} {psv : Value} {ps : List (List Int)} (hps : RowsF F psv ps) {bdv : Value} {bd : List Int} (hbd : IntsF F bdv bd) (hla : ps.length ≤ 4000000) (hlb : ∀ q, q < ps.length → (ps.getD q []).length ≤ 4000000) (hlc : bd.length ≤ 4000000) :
    Does prog 108 [.agg #[ii (fn), psv, bdv]] F (L) (fun v F' L' => ∃ (a : Value), ∃ (b : Value), (.agg #[ii (fn), a, b] : Value) = v ∧ (RowsF F' a ps) ∧ (IntsF F' b bd) ∧ (Fresh F F' (star [rowsD 2 22 a ps, intsH 2 b bd])) ∧ L = L') := by
 refine qB func108 rfl rfl rfl (qc (qa (cX (qP [ii (fn), psv, bdv] rfl rfl ?_))))
 intro b1
 refine cX (jq [ii (0), sN, sN] zeroValue91 rfl ?_)
 intro b2
 refine qb (qc (qa (cX (jq [ii (0), sN, sN] zeroValue91 rfl ?_))))
 intro b3
 refine qb (qc (qa (cX (qk (0) runUnderlying152 rfl qE (by decide) rfl rfl (cX (qi qS rfl (Rd.own [_, _] rfl rfl) (cX (qk (0) qO rfl qE (by decide) rfl rfl (cX (jy [] _ [ii (fn), sN, sN] qE rfl rfl rfl rfl rfl rfl (qb (qc (qa (cX (qk (1) runUnderlying152 rfl qQ (by decide) rfl rfl (cX (qi jh rfl (Rd.own [_, _] rfl rfl) (cX (ql (args := [psv]) call177 rfl (toInt64SS_spec hps (hlx := (hla)) (hrb := (hlb))) ?_)))))))))))))))))))
 rintro _ F1 _ le1 ⟨x1, rfl, hr1, hr2, rfl⟩
 replace hbd := hbd.mono le1
 refine cX (qk (1) qO rfl qQ (by decide) rfl rfl (cX (jy [] _ [ii (fn), x1, sN] qQ rfl rfl (jf (RowsF.isSl hr1)) rfl rfl rfl (qb (qc (qa (cX (qk (2) runUnderlying152 rfl qA (by decide) rfl rfl (cX (qi qK rfl (Rd.own [_, _] rfl rfl) (cX (jx <| ql (args := [bdv]) call10 rfl (toInt64S_spec hbd (hlx := (by first | assumption | rfl | omega | simp))) ?_))))))))))))
 rintro v1 _ _ _ ⟨rfl, hs1, rfl⟩
 refine ⟨_, _, rfl, fun F2 le2 hz1 => ?_⟩
 replace hr1 := hr1.mono le2
 have hf1 : IntsF F2 v1 ((bd)) := intsH.fz (xs := (bd)) hz1.fz
 refine cX (qk (2) qO rfl qA (by decide) rfl rfl (cX (jy [] _ [ii (fn), x1, v1] qA rfl rfl (jf (qT hf1)) rfl rfl rfl (qb (qc (qa (cX (qC [ii (fn), x1, v1] isAgg91 ji rfl rfl (Rd.ownN [] rfl rfl) (cX (jd [_] _ [ii (fn), x1, v1] ji rfl rfl rfl (qZ rfl (qZ (jf (RowsF.isSl hr1)) (qZ (jf (qT hf1)) jj))) rfl rfl rfl (qb (qq (qn (L' := L) [.agg #[ii (fn), x1, v1]] (.agg #[ii (fn), x1, v1]) (.cell rfl (loadNV [ii (fn), x1, v1] isAgg91 ji rfl (Rd.ownN [_] rfl rfl)) .nil) rfl (qt le1 le2) rF (sD (sD (sD sR))) ?_)))))))))))))
 exact ⟨_, _, rfl, hr1, hf1, (Fresh.app hr2 le1 (Fresh.one hz1) le2), rfl⟩

/- laws.toLineS -/
theorem toLineS_spec {F : FH} {L : List HP} {xv : Value} {x : List LineT} (hx : LinesF F xv x) (hlx : x.length ≤ 4000000) (hrb : ∀ i, i < x.length → (x.getD i (0, [], [])).2.1.length ≤ 4000000 ∧ (∀ q, q < (x.getD i (0, [], [])).2.1.length → ((x.getD i (0, [], [])).2.1.getD q []).length ≤ 4000000) ∧ (x.getD i (0, [], [])).2.2.length ≤ 4000000) :
    Does prog 51 [xv] F (L) (fun v F' L' => ∃ (a : Value), (a : Value) = v ∧ (LinesF F' a x) ∧ (Fresh F F' (star [linesD 2 22 91 a x])) ∧ L = L') := by
 refine qB func51 rfl rfl rfl (qc (qa (qg (sN) rfl (qb (qc (qa (qd (xv) rfl (cX (qy runUnderlying25 rfl hx.slv (cX (XOp.makeSlice (n := (x).length) (bytes := 56) [ii (0), sN, sN] qV ji typeInfo91 rfl zeroValue91 rfl rfl rfl rfl (by omega) (by omega) ?_)))))))))))
 intro v1 hv1
 obtain ⟨cs1, hq1, hc1⟩ : ∃ cs, ((List.range (((x).length) * 3)).map fun i => [Value.int .i64 0, sN, sN].toArray[i % [Value.int .i64 0, sN, sN].toArray.size]!) = cs ∧ LinesC F cs (List.replicate ((x).length) (0, [], []) : List LineT) := ⟨_, rfl, by obtain ⟨_, h1, h2⟩ := deepNilsL 22 2 ((x).length); exact DeepL.linesNil h1 h2⟩
 rw [hq1]
 refine qg (v1) rfl (qb (qc (qc (qa (qg (ii (0)) rfl (qb (qF ?_)))))))
 obtain ⟨L0, hD0, hS0⟩ := deepNilsL 22 2 x.length
 rw [hq1] at hD0
 refine ja (α := Nat × List LineT × List Value × List HP × FH) (fun xQ => [(0, xv), (3, v1), (4, ii (((xQ.1 : Nat) : Int)))]) (fun xQ => slH 91 3 v1 x.length xQ.2.2.1 :: L) (fun xQ F' => xQ.2.2.2.2 = F' ∧ F ≤ xQ.2.2.2.2 ∧ (LinesC xQ.2.2.2.2 xQ.2.2.1 xQ.2.1) ∧ (xQ.1 ≤ x.length) ∧ (xQ.2.1.length = x.length) ∧ (xQ.2.1.take xQ.1 = x.take xQ.1) ∧ (DeepL 3 (LineO 22 2) xQ.2.2.1 xQ.2.1 xQ.2.2.2.1) ∧ (Fresh F xQ.2.2.2.2 (star xQ.2.2.2.1))) (fun xQ => x.length - xQ.1) (0, (List.replicate ((x).length) (0, [], []) : List LineT), cs1, L0, F) ⟨rfl, rfl, rfl, ⟨⟩⟩ (sC sR) ⟨rfl, FLe.refl _, (hc1), (by (try dsimp only) <;> omega), (by simp), (rfl), (hD0), (Fresh.empty hS0)⟩ ?_
 rintro ⟨k, os, cs, Ls, G1⟩ rE _ _ ⟨rfl, leG, hC, hk, hol, hos, hD, hZ⟩
 show X _ _ _ _ (envs [(0, xv), (3, v1), (4, ii ((k : Int)))] rE) _ (slH 91 3 v1 x.length cs :: L)
 replace leG : F ≤ G1 := leG
 dsimp only at hC hk hol hos hD hZ
 have hrk := hrb k
 have leG1 := leG
 replace hx := hx.mono leG1
 refine qc (qc (qa (qd (ii ((k : Int))) rfl (qd (xv) rfl (cX (qy runUnderlying25 rfl hx.slv (cX (qI rfl rfl (qb ?_)))))))))
 refine qv (p := (k : Int) < (x.length : Int)) rfl (fun h1 => ?_) (fun h1 => ?_)
 ·refine qw (qc (qF (qa (qd (v1) rfl (qd (ii ((k : Int))) rfl (qd (xv) rfl (qd (ii ((k : Int))) rfl (cX (qx k runUnderlying25 sizeOf152 rfl rfl rfl hx.slv (by omega) rfl ?_)))))))))
  obtain ⟨a1, a2, ha1, ha2, hrg1, hq2⟩ := hx.rd (i := k) (by omega)
  refine cX (qC [ii ((x.getD k (0, [], [])).1), a1, a2] isAgg152 sizeOf152 rfl rfl (Rd.all (hrg1 _)) (cX (ql (args := [.agg #[ii ((x.getD k (0, [], [])).1), a1, a2]]) call108 rfl (toLine_spec ha1 ha2 (hla := ((hrk (by omega)).1)) (hlb := ((hrk (by omega)).2.1)) (hlc := ((hrk (by omega)).2.2))) ?_)))
  rintro _ F1 _ le1 ⟨x1, x2, rfl, hr1, hr2, hr3, rfl⟩
  replace hC := hC.mono le1
  refine cX (qx k qV ji rfl rfl rfl (SlV.own [] rfl) (by omega) rfl (cX (XOp.storeSN (i := k * 3) (m := 3) (vs := [ii (((x.getD k (0, [], [])).1)), x1, x2]) (cs := cs) [] _ ji rfl rfl rfl (qZ rfl (qZ (jf (RowsF.isSl hr1)) (qZ (jf (qT hr2)) jj))) rfl (show k * 3 + 3 ≤ _ from by have h9 := CO.len hC; (try simp only [List.length_set, List.length_replicate] at h9); omega) (Nat.succ_pos _) ?_)))
  have hc2 := hC.set (j := k) (n := ((x.getD k (0, [], [])).1)) (by (try simp only [List.length_set, List.length_replicate]); omega) hr1 hr2
  refine qb (qa (qd (ii ((k : Int))) rfl (cX (qG (((k + 1 : Nat) : Int)) rfl rfl (by omega) (by omega) (qg (ii (((k + 1 : Nat) : Int))) rfl (qb ?_))))))
  obtain ⟨A, K, B, es, hLs, hel, hR, hg, hput⟩ := hD.at (d := ((0, [], []) : LineT)) (k := k) (by omega)
  rw [hLs] at hZ
  have hDn := hput _ (((x.getD k (0, [], [])).1), ((x.getD k (0, [], [])).2.1), ((x.getD k (0, [], [])).2.2)) [rowsD 2 22 x1 (((x.getD k (0, [], [])).2.1)), intsH 2 x2 (((x.getD k (0, [], [])).2.2))] rfl ⟨_, _,  rfl, rfl⟩
  exact ⟨(k + 1, (os.set k (((x.getD k (0, [], [])).1), ((x.getD k (0, [], [])).2.1), ((x.getD k (0, [], [])).2.2))), (cs.take (k * 3) ++ [ii (((x.getD k (0, [], [])).1)), x1, x2] ++ cs.drop (k * 3 + 3)), A ++ ([rowsD 2 22 x1 (((x.getD k (0, [], [])).2.1)), intsH 2 x2 (((x.getD k (0, [], [])).2.2))] ++ B), F1), _, (qt leG1 le1), rF, ⟨rfl, rfl, rfl, ⟨⟩⟩, (sC sR), ⟨rfl, (qt leG1 le1), (hc2), (by (try dsimp only) <;> omega), (by dsimp only; rw [List.length_set]; exact hol), (by dsimp only; rw [take_set_any (by omega), hos, take_succ_getD ((0, [], []) : LineT) (by omega)]), (hDn), ((Fresh.swap hZ leG1 hr3 le1))⟩, (by omega)⟩
 refine qX (qr (qr (qJ (qc (qa (qd (v1) rfl (qg (v1) rfl (qb (jv [] _ _ rfl (fun F2 le2 hz1 => ?_))))))))))
 replace hC := hC.mono le2
 have hf1 : LinesF F2 v1 os := CO.fz hC (by first | rfl | omega | (rw [List.length_set]; omega) | (simp; done)) hz1.fz
 refine qq (qn (L' := L) [v1] (v1) (.tmp rfl .nil) rfl (qt leG1 le2) rF sR ?_)
 have e : os = x := by rw [← List.take_of_length_le (l := x) (i := k) (by omega), ← hos, List.take_of_length_le (by omega)]
 subst e
 exact ⟨_, rfl, hf1, Fresh.one (Fresh.deep hD hZ leG1 hz1 rfl le2), rfl⟩

/- laws.toFront -/
theorem toFront_spec {F : FH} {L : List HP} {arv : Value} {ar : List Int} (har : IntsF F arv ar) {fsv : Value} {fs : List Int} (hfs : IntsF F fsv fs) {lsv : Value} {ls : List LineT} (hls : LinesF F lsv ls) (hla : ar.length ≤ 4000000) (hfl : fs.length ≤ 4000000) (hrl : ls.length ≤ 4000000) (hrb : ∀ i, i < ls.length → (ls.getD i (0, [], [])).2.1.length ≤ 4000000 ∧ (∀ q, q < (ls.getD i (0, [], [])).2.1.length → ((ls.getD i (0, [], [])).2.1.getD q []).length ≤ 4000000) ∧ (ls.getD i (0, [], [])).2.2.length ≤ 4000000) :
    Does prog 9 [.agg #[arv, fsv, lsv]] F (L) (fun v F' L' => ∃ (a : Value), ∃ (b : Value), ∃ (c : Value), (.agg #[a, b, c] : Value) = v ∧ (IntsF F' a ar) ∧ (IntsF F' b fs) ∧ (LinesF F' c ls) ∧ (Fresh F F' (star [intsH 2 a ar, intsH 2 b fs, linesD 2 22 91 c ls])) ∧ L = L') := by
 refine qB func9 rfl rfl rfl (qc (qa (cX (qP [arv, fsv, lsv] rfl rfl ?_))))
 intro b1
 refine cX (jq [sN, sN, sN] zeroValue34 rfl ?_)
 intro b2
 refine qb (qc (qa (cX (jq [sN, sN, sN] zeroValue34 rfl ?_))))
 intro b3
 refine qb (qc (qa (cX (qk (0) runUnderlying27 rfl sizeOf24 (by decide) rfl rfl (cX (qC [arv] isAgg24 sizeOf24 rfl rfl (Rd.ownN [_, _] rfl rfl) (cX (ql (args := [.agg #[arv]]) call50 rfl (toSig_spec har (hlx := (by first | assumption | rfl | omega | simp))) ?_))))))))
 rintro _ F1 _ le1 ⟨x1, rfl, hr1, hr2, rfl⟩
 replace hfs := hfs.mono le1
 replace hls := hls.mono le1
 refine cX (qk (0) qD rfl qH (by decide) rfl rfl (cX (jd [] _ [x1, sN, sN] qH rfl rfl rfl (qZ (jf (qT hr1)) jj) rfl rfl rfl (qb (qc (qa (cX (qk (1) runUnderlying27 rfl qA (by decide) rfl rfl (cX (qi qK rfl (Rd.own [_, _] rfl rfl) (cX (jx <| ql (args := [fsv]) call10 rfl (toInt64S_spec hfs (hlx := (by first | assumption | rfl | omega | simp))) ?_))))))))))))
 rintro v1 _ _ _ ⟨rfl, hs1, rfl⟩
 refine ⟨_, _, rfl, fun F2 le2 hz1 => ?_⟩
 replace hls := hls.mono le2
 replace hr1 := hr1.mono le2
 have hf1 : IntsF F2 v1 ((fs)) := intsH.fz (xs := (fs)) hz1.fz
 refine cX (qk (1) qD rfl qA (by decide) rfl rfl (cX (jy [] _ [x1, v1, sN] qA rfl rfl (jf (qT hf1)) rfl rfl rfl (qb (qc (qa (cX (qk (2) runUnderlying27 rfl sizeOf25 (by decide) rfl rfl (cX (qi isAgg25 rfl (Rd.own [_, _] rfl rfl) (cX (ql (args := [lsv]) call51 rfl (toLineS_spec hls (hlx := (by first | assumption | rfl | omega | simp)) (hrb := (by first | assumption | rfl | omega | simp))) ?_))))))))))))
 rintro _ F3 _ le3 ⟨x2, rfl, hr3, hr4, rfl⟩
 replace hr1 := hr1.mono le3
 replace hf1 := hf1.mono le3
 refine cX (qk (2) qD rfl sizeOf32 (by decide) rfl rfl (cX (jy [] _ [x1, v1, x2] sizeOf32 rfl rfl (jf (LinesF.isSl hr3)) rfl rfl rfl (qb (qc (qa (cX (qC [x1, v1, x2] isAgg34 jB rfl rfl (Rd.ownN [] rfl rfl) (cX (jd [_] _ [x1, v1, x2] jB rfl rfl rfl (qZ (jf (qT hr1)) (qZ (jf (qT hf1)) (qZ (jf (LinesF.isSl hr3)) jj))) rfl rfl rfl (qb (qq (qn (L' := L) [.agg #[x1, v1, x2]] (.agg #[x1, v1, x2]) (.cell rfl (loadNV [x1, v1, x2] isAgg34 jB rfl (Rd.ownN [_] rfl rfl)) .nil) rfl (qt (qt le1 le2) le3) rF (sD (sD (sD sR))) ?_)))))))))))))
 exact ⟨_, _, _, rfl, hr1, hf1, hr3, (Fresh.app (Fresh.app hr2 le1 (Fresh.one hz1) le2) (qt le1 le2) hr4 le3), rfl⟩

/- laws.markLineS -/
theorem markLineS_spec {F : FH} {L : List HP} {xv : Value} {x : List LineT} {z : Int} (hz : 0 ≤ z ∧ z + (((x.flatMap flatLn)).length : Int) ≤ 9000000000) (hnx : x.length ≤ 4000000) (hcn : ∀ i, i < x.length → (x.getD i (0, [], [])).2.1.length ≤ 4000000) :
    Does prog 64 [xv, ii (z)] F (linesD 2 22 91 xv x :: L) (fun v F' L' => ∃ x' : List LineT, ((x'.flatMap flatLn)) = iota z ((x.flatMap flatLn)).length ∧ x'.length = x.length ∧ (ii (z + (((x.flatMap flatLn)).length : Int)) : Value) = v ∧ F = F' ∧ linesD 2 22 91 xv x' :: L = L') := by
 refine qB func64 rfl rfl rfl (X.openDeep (fun cs Ls hd => (X.weaken (js (A := [_])) ?_)))
 show X _ _ _ _ _ _ (star Ls :: slH 91 3 xv x.length cs :: L)
 refine qc (qa (qg (ii (0)) rfl (qb (qc (qc (qa (qg (ii (0)) rfl (qb (qF (ja (α := Nat × List LineT × List HP × List Value) (fun xQ => [(0, xv), (1, ii (z + ((((x.take xQ.1).flatMap flatLn).length : Nat) : Int))), (5, ii (((xQ.1 : Nat) : Int)))]) (fun xQ => star xQ.2.2.1 :: slH 91 3 xv x.length xQ.2.2.2 :: L) (fun xQ F' => F = F' ∧ (DeepL 3 (LineO 22 2) xQ.2.2.2 (xQ.2.1 ++ x.drop xQ.1) xQ.2.2.1) ∧ (xQ.1 ≤ x.length) ∧ (xQ.2.1.length = xQ.1) ∧ (xQ.2.1.flatMap flatLn = iota z ((x.take xQ.1).flatMap flatLn).length)) (fun xQ => x.length - xQ.1) (0, [], Ls, cs) ⟨rfl, (show Value.int .i64 z = ii (z + ((((x.take 0).flatMap flatLn).length : Nat) : Int)) from congrArg (Value.int .i64) (by simp)), rfl, ⟨⟩⟩ (sC (sC sR)) ⟨rfl, (hd), (by (try dsimp only) <;> omega), (rfl), (rfl)⟩ ?_))))))))))
 rintro ⟨k, os, Ls, cs⟩ rE _ _ ⟨rfl, hd, hk, hol, hfl⟩
 show X _ _ _ _ (envs [(0, xv), (1, ii (z + ((((x.take k).flatMap flatLn).length : Nat) : Int))), (5, ii ((k : Int)))] rE) _ (star Ls :: slH 91 3 xv x.length cs :: L)
 dsimp only at hd hk hol hfl
 have htl := fun (h : k < x.length) => flat_take_le (f := flatLn) (l := x) ((0, [], []) : LineT) h
 have hlen : (os ++ x.drop k).length = x.length := by rw [List.length_append, List.length_drop]; omega
 refine qc (qc (qa (qd (ii ((k : Int))) rfl (qd (xv) rfl (cX (qy qV rfl (SlV.own [_] rfl) (cX (qI rfl rfl (qb ?_)))))))))
 refine qv (p := (k : Int) < (x.length : Int)) rfl (fun h1 => ?_) (fun h1 => ?_)
 ·refine qw (qc (qF (qc (qa ?_))))
  have hkx : k < x.length := by omega
  have htl2 := htl hkx
  obtain ⟨A, K, B, es, hLs, hel, hR, hg, hput⟩ := hd.at (d := ((0, [], []) : LineT)) (k := k) (by omega)
  rw [app_getD hol] at hR
  have hself := splice_self hel hg (hd.bound (k := k) (by omega))
  obtain ⟨a, b, he, hK⟩ := hR
  subst he hK
  have hfp : (flatLn (x.getD k (0, [], []))).length = 1 + ((x.getD k (0, [], [])).2.1.flatMap flatRow).length + (x.getD k (0, [], [])).2.2.length := flatLn_eq _
  have hcnk := hcn k hkx
  have hbd := hd.bound (k := k) (by omega)
  subst hLs
  refine XL.weaken (Sub.pull (A := A)) ?_
  show XL _ _ _ _ _ _ _ (rowsD 2 22 a ((x.getD k (0, [], [])).2.1) :: intsH 2 b ((x.getD k (0, [], [])).2.2) :: star (A ++ B) :: slH 91 3 xv x.length cs :: L)
  skip
  refine qd (xv) rfl (qd (ii ((k : Int))) rfl (qd (ii (z + ((((x.take k).flatMap flatLn).length : Nat) : Int))) rfl (cX (qx k qV ji rfl rfl rfl (SlV.own [_, _, _] rfl) (by omega) rfl (cX (XOp.fieldE (k * 3) qO rfl qE (by decide) rfl rfl (cX (XOp.storeS (i := k * 3) (cs := cs) [_, _, _] _ qE rfl rfl rfl rfl (by (try simp only [List.length_set]); omega) (qb (qc (qa (qd (ii (z + ((((x.take k).flatMap flatLn).length : Nat) : Int))) rfl (cX (qG ((z + ((((x.take k).flatMap flatLn).length : Nat) : Int)) + 1) rfl rfl (by omega) (by omega) (qg (ii ((z + ((((x.take k).flatMap flatLn).length : Nat) : Int)) + 1)) rfl ?_)))))))))))))))
  refine qb (qc (qa (qd (xv) rfl (qd (ii ((k : Int))) rfl (cX (qx k qV ji rfl rfl rfl (SlV.own [_, _, _] rfl) (by omega) rfl (cX (XOp.fieldE (k * 3 + 1) qO rfl qQ (by decide) rfl rfl ?_))))))))
  refine cX (qi jh rfl (Rd.sl [_, _, _] rfl (by rw [List.getElem?_set_ne (by omega)]; exact hg 1 _ rfl)) ?_)
  refine qd (ii ((z + ((((x.take k).flatMap flatLn).length : Nat) : Int)) + 1)) rfl (cX (ql (args := [a, ii ((z + ((((x.take k).flatMap flatLn).length : Nat) : Int)) + 1)]) call122 rfl (markInt64SS_spec (by omega) (by omega)) ?_))
  rintro _ _ _ _ ⟨m1, hm1, hk1, rfl, rfl, rfl⟩
  have hml1 := congrArg List.length hm1
  rw [iota_len] at hml1
  try simp only [List.length_append] at hml1
  refine qg (ii (((z + ((((x.take k).flatMap flatLn).length : Nat) : Int)) + 1) + (((((x.getD k (0, [], [])).2.1).flatMap flatRow)).length : Int))) rfl (qb (qa (qd (xv) rfl (qd (ii ((k : Int))) rfl (cX (qx k qV ji rfl rfl rfl (SlV.own [_, _, _] rfl) (by omega) rfl (cX (XOp.fieldE (k * 3 + 2) qO rfl qA (by decide) rfl rfl ?_))))))))
  refine cX (qi qK rfl (Rd.sl [_, _, _] rfl (by rw [List.getElem?_set_ne (by omega)]; exact hg 2 _ rfl)) ?_)
  refine qd (ii (((z + ((((x.take k).flatMap flatLn).length : Nat) : Int)) + 1) + (((((x.getD k (0, [], [])).2.1).flatMap flatRow)).length : Int))) rfl (XL.weaken (js (A := [_])) ?_)
  show XL _ _ _ _ _ _ _ (intsH 2 b ((x.getD k (0, [], [])).2.2) :: rowsD 2 22 a m1 :: star (A ++ B) :: slH 91 3 xv x.length ((cs.set (k * 3) (ii (z + ((((x.take k).flatMap flatLn).length : Nat) : Int))))) :: L)
  refine cX (ql (args := [b, ii (((z + ((((x.take k).flatMap flatLn).length : Nat) : Int)) + 1) + (((((x.getD k (0, [], [])).2.1).flatMap flatRow)).length : Int))]) call15 rfl (markInt64S_spec (by omega)) ?_)
  rintro _ _ _ _ ⟨m2, hm2, rfl, rfl, rfl⟩
  have hml2 := congrArg List.length hm2
  rw [iota_len] at hml2
  try simp only [List.length_append] at hml2
  refine qg (ii ((((z + ((((x.take k).flatMap flatLn).length : Nat) : Int)) + 1) + (((((x.getD k (0, [], [])).2.1).flatMap flatRow)).length : Int)) + (((((x.getD k (0, [], [])).2.2))).length : Int))) rfl (qb (qa (XL.weaken (Sub.trans (js (A := [_, _, _])) (Sub.trans (js (A := [_, _, _])) (Sub.trans (js (A := [_, _])) (Sub.trans (js (A := [_, _, _])) (sC (sC (sC (sC sR)))))))) (XL.weaken (Sub.push (A := A) (K := [rowsD 2 22 a m1, intsH 2 b m2]) (B := B)) ?_))))
  show XL _ _ _ _ _ _ _ (star (A ++ ([rowsD 2 22 a m1, intsH 2 b m2] ++ B)) :: slH 91 3 xv x.length ((cs.set (k * 3) (ii (z + ((((x.take k).flatMap flatLn).length : Nat) : Int))))) :: L)
  have hdn := hput [ii (z + ((((x.take k).flatMap flatLn).length : Nat) : Int)), a, b] ((z + ((((x.take k).flatMap flatLn).length : Nat) : Int)), m1, m2) _ rfl ⟨a, b, rfl, rfl⟩
  rw [← set_first3 (hg 0 _ rfl) (hg 1 _ rfl) (hg 2 _ rfl), app_set hol hkx] at hdn
  have hfx : flatLn ((z + ((((x.take k).flatMap flatLn).length : Nat) : Int)), m1, m2) = iota (z + ((((x.take k).flatMap flatLn).length : Nat) : Int)) (flatLn (x.getD k (0, [], []))).length := flatLn_iota hm1 hm2 hfp
  have hnext : (z + ((((x.take k).flatMap flatLn).length : Nat) : Int)) + 1 + (((x.getD k (0, [], [])).2.1.flatMap flatRow).length : Int) + ((x.getD k (0, [], [])).2.2.length : Int) = z + ((((x.take (k + 1)).flatMap flatLn).length : Nat) : Int) := by rw [flatMap_take_succ flatLn ((0, [], []) : LineT) hkx, List.length_append, hfp]; omega
  skip
  refine qd (ii ((k : Int))) rfl (cX (qG (((k + 1 : Nat) : Int)) rfl rfl (by omega) (by omega) (qg (ii (((k + 1 : Nat) : Int))) rfl (qb ?_))))
  exact ⟨(k + 1, os ++ [((z + ((((x.take k).flatMap flatLn).length : Nat) : Int)), m1, m2)], A ++ ([rowsD 2 22 a m1, intsH 2 b m2] ++ B), (cs.set (k * 3) (ii (z + ((((x.take k).flatMap flatLn).length : Nat) : Int))))), _, FLe.refl _, rF, ⟨rfl, (vI hnext), rfl, ⟨⟩⟩, (sC (sC sR)), ⟨rfl, (hdn), (by (try dsimp only) <;> omega), (by simp [hol]), (marked (d := ((0, [], []) : LineT)) (by omega) hfl hfx)⟩, (by omega)⟩
 refine qX (qr (qr (qJ (qc (qa (qd (ii (z + ((((x.take k).flatMap flatLn).length : Nat) : Int))) rfl (qg (ii (z + ((((x.take k).flatMap flatLn).length : Nat) : Int))) rfl (qb (qq (qn (L' := linesD 2 22 91 xv os :: L) [ii (z + ((((x.take k).flatMap flatLn).length : Nat) : Int))] (ii (z + ((((x.take k).flatMap flatLn).length : Nat) : Int))) (.tmp rfl .nil) rfl rF rF (Sub.trans (js (A := [_])) (Sub.closeDeep (by rw [app_all (by omega)] at hd; exact hd) (by omega))) ?_))))))))))
 rw [app_all (by omega)] at hd
 have hkl : k = x.length := by omega
 exact ⟨os, by rw [hfl, hkl, List.take_length], by omega, by rw [hkl, List.take_length], rfl, rfl⟩

/- laws.markFront -/
theorem markFront_spec {F : FH} {L : List HP} {xv : Value} {x : List Int} {wv : Value} {w : List Int} {yv : Value} {y : List LineT} {z : Int} (hz : 0 ≤ z ∧ z + (((x) ++ (w) ++ (y.flatMap flatLn)).length : Int) ≤ 9000000000) (hny : y.length ≤ 4000000) (hcn : ∀ i, i < y.length → (y.getD i (0, [], [])).2.1.length ≤ 4000000) :
    Does prog 14 [.agg #[xv, wv, yv], ii (z)] F (intsH 2 xv x :: intsH 2 wv w :: linesD 2 22 91 yv y :: L) (fun v F' L' => ∃ x' : List Int, ∃ w' : List Int, ∃ y' : List LineT, ((x') ++ (w') ++ (y'.flatMap flatLn)) = iota z ((x) ++ (w) ++ (y.flatMap flatLn)).length ∧ y'.length = y.length ∧ (ii (z + (((x) ++ (w) ++ (y.flatMap flatLn)).length : Int)) : Value) = v ∧ F = F' ∧ intsH 2 xv x' :: intsH 2 wv w' :: linesD 2 22 91 yv y' :: L = L') := by
 refine qB func14 rfl rfl rfl ?_
 have hlx : (x ++ w ++ (y.flatMap flatLn)).length = x.length + w.length + (y.flatMap flatLn).length := by rw [List.length_append, List.length_append]
 refine qc (qa (cX (qP [xv, wv, yv] rfl rfl ?_)))
 intro b1
 refine qg (ii (0)) rfl (qb (qc (qa (cX (qk (0) qD rfl qH (by decide) rfl rfl (cX (qC [xv] qW qH rfl rfl (Rd.ownN [] rfl rfl) (qd (ii (z)) rfl (XL.weaken (js (A := [_])) ?_)))))))))
 show XL _ _ _ _ _ _ _ (intsH 2 xv x :: cellsH b1 [xv, wv, yv] 34 :: intsH 2 wv w :: linesD 2 22 91 yv y :: L)
 refine cX (ql (args := [.agg #[xv], ii (z)]) call63 rfl (markSig_spec (by omega)) ?_)
 rintro _ _ _ _ ⟨m1, hm1, rfl, rfl, rfl⟩
 have hml1 := congrArg List.length hm1
 rw [iota_len] at hml1
 try simp only [List.length_append] at hml1
 refine qg (ii (z + (((x)).length : Int))) rfl (qb (qc (qa (cX (qk (1) qD rfl qA (by decide) rfl rfl (cX (qi qK rfl (Rd.own [_] rfl rfl) (qd (ii (z + (((x)).length : Int))) rfl (XL.weaken (js (A := [_, _])) ?_)))))))))
 show XL _ _ _ _ _ _ _ (intsH 2 wv w :: intsH 2 xv m1 :: cellsH b1 [xv, wv, yv] 34 :: linesD 2 22 91 yv y :: L)
 refine cX (ql (args := [wv, ii (z + (((x)).length : Int))]) call15 rfl (markInt64S_spec (by omega)) ?_)
 rintro _ _ _ _ ⟨m2, hm2, rfl, rfl, rfl⟩
 have hml2 := congrArg List.length hm2
 rw [iota_len] at hml2
 try simp only [List.length_append] at hml2
 refine qg (ii ((z + (((x)).length : Int)) + (((w)).length : Int))) rfl (qb (qc (qa (cX (qk (2) qD rfl sizeOf32 (by decide) rfl rfl (cX (qi isAgg32 rfl (Rd.own [_, _] rfl rfl) (qd (ii ((z + (((x)).length : Int)) + (((w)).length : Int))) rfl (XL.weaken (js (A := [_, _, _])) ?_)))))))))
 show XL _ _ _ _ _ _ _ (linesD 2 22 91 yv y :: intsH 2 wv m2 :: intsH 2 xv m1 :: cellsH b1 [xv, wv, yv] 34 :: L)
 refine cX (ql (args := [yv, ii ((z + (((x)).length : Int)) + (((w)).length : Int))]) call64 rfl (markLineS_spec (by omega) (by omega) (by first | assumption | exact hcn | exact hcnls)) ?_)
 rintro _ _ _ _ ⟨m3, hm3, hk1, rfl, rfl, rfl⟩
 have hml3 := congrArg List.length hm3
 rw [iota_len] at hml3
 try simp only [List.length_append] at hml3
 refine qg (ii (((z + (((x)).length : Int)) + (((w)).length : Int)) + (((y.flatMap flatLn)).length : Int))) rfl (qb (qc (qa (qd (ii (((z + (((x)).length : Int)) + (((w)).length : Int)) + (((y.flatMap flatLn)).length : Int))) rfl (qg (ii (((z + (((x)).length : Int)) + (((w)).length : Int)) + (((y.flatMap flatLn)).length : Int))) rfl (qb (qq (qn (L' := intsH 2 xv m1 :: intsH 2 wv m2 :: linesD 2 22 91 yv m3 :: L) [ii (((z + (((x)).length : Int)) + (((w)).length : Int)) + (((y.flatMap flatLn)).length : Int))] (ii (((z + (((x)).length : Int)) + (((w)).length : Int)) + (((y.flatMap flatLn)).length : Int))) (.tmp rfl .nil) rfl rF rF (Sub.trans (js (A := [_])) (Sub.trans (js (A := [_, _])) (sC (sC (sC (sD sR)))))) ?_))))))))
 exact ⟨m1, m2, m3, by rw [List.length_append, iota_add, List.length_append, iota_add, hm1, hm2, hm3]; first | rfl | (congr 2; omega) | (rw [List.length_append]; congr 2; omega), (by assumption), congrArg (Value.int .i64) (by first | rfl | (simp only [List.length_append]; omega)), rfl, rfl⟩

/- laws.FnExactCallBy -/
set_option maxRecDepth 20000 in
theorem FnExactCallBy_does {F : FH} {L : List HP} {arv : Value} {ar : List Int} (har : IntsF F arv ar) {fsv : Value} {fs : List Int} (hfs : IntsF F fsv fs) {lsv : Value} {ls : List LineT} (hls : LinesF F lsv ls) {tv : Value} {t : List Int} (ht : IntsF F tv t) {n : Int} (hlar : ar.length ≤ 9223372036854775807) (hlfs : fs.length ≤ 9223372036854775807) (hlls : ls.length ≤ 9223372036854775807) (hbls : ∀ i, i < ls.length → (ls.getD i (0, [], [])).2.1.length ≤ 9223372036854775807 ∧ (∀ q, q < (ls.getD i (0, [], [])).2.1.length → ((ls.getD i (0, [], [])).2.1.getD q []).length ≤ 9223372036854775807) ∧ (ls.getD i (0, [], [])).2.2.length ≤ 9223372036854775807) (hlt : t.length ≤ 9223372036854775807) :
    Does prog 3 [.agg #[arv, fsv, lsv], tv, ii (n)] F (L) (fun v F' L' => (.bool (true) : Value) = v ∧ F = F' ∧ L = L') := by
 refine qB func3 rfl rfl rfl ?_
 have hnl := callL_len (ar := ar) (fs := fs) (ls := ls) (t := t) (n := n)
 refine qc (qa (cX (qP [arv, fsv, lsv] rfl rfl ?_)))
 intro b1
 refine qg (.bool (false)) rfl (qb (qc (qc (qa (qd (tv) rfl (cX (qy qf rfl ht.slv (cX (jt rfl rfl (qb ?_))))))))))
 refine qv (p := ((t.length : Int) : Int) > 1048576) rfl (fun h1 => ?_) (fun h1 => ?_)
 ·refine qc (qa (qg (.bool (true)) rfl (qb (qq (qh (qn (L' := L) [.bool (true)] (.bool (true)) (.tmp rfl .nil) rfl rF rF (sD sR) ?_))))))
  exact ⟨rfl, rfl, rfl⟩
 refine qw (qc (qa (qg (ii (1048576)) rfl (qb (qc (qa (cX (qC [arv, fsv, lsv] isAgg27 sizeOf27 rfl rfl (Rd.ownN [] rfl rfl) (qd (ii (1048576)) rfl (cX (ql (args := [.agg #[arv, fsv, lsv], ii (1048576)]) call7 rfl (szFront_spec (z := 1048576) har hfs hls (hz := (by first | assumption | rfl | omega | simp)) (hal := (by first | assumption | rfl | omega | simp)) (hfl := (by first | assumption | rfl | omega | simp)) (hrl := (by first | assumption | rfl | omega | simp)) (hrb := (by first | assumption | rfl | omega | simp))) ?_)))))))))))
 rintro _ _ _ _ ⟨rfl, rfl, rfl⟩
 refine qg (ii (dec 1048576 ((ar.length + fs.length) + szG lenLn ls))) rfl (qb (qc (qc (qa (qd (ii (dec 1048576 ((ar.length + fs.length) + szG lenLn ls))) rfl (cX (qI rfl rfl (qb ?_))))))))
 refine qv (p := (dec 1048576 ((ar.length + fs.length) + szG lenLn ls) : Int) < 0) rfl (fun h2 => ?_) (fun h2 => ?_)
 ·refine qc (qa (qg (.bool (true)) rfl (qb (qq (qh (qn (L' := L) [.bool (true)] (.bool (true)) (.tmp rfl .nil) rfl rF rF (sD sR) ?_))))))
  exact ⟨rfl, rfl, rfl⟩
 have hd1 := dec_le2 h2 (by omega)
 have hzls := szL_le (l := ls)
 have hils := hzls.2
 have hcls : ∀ i, i < ls.length → (ls.getD i (0, [], [])).2.1.length ≤ 4000000 ∧ (∀ q, q < (ls.getD i (0, [], [])).2.1.length → ((ls.getD i (0, [], [])).2.1.getD q []).length ≤ 4000000) ∧ (ls.getD i (0, [], [])).2.2.length ≤ 4000000 := fun i hi => by have h9 := hils i hi; exact ⟨by omega, fun q hq => by have h8 := h9.2.1 q hq; omega, by omega⟩
 have hcnls : ∀ i, i < ls.length → (ls.getD i (0, [], [])).2.1.length ≤ 4000000 := fun i hi => (hcls i hi).1
 have hfls := flatLn_len ls
 refine qw (qc (qa (cX (qC [arv, fsv, lsv] isAgg27 sizeOf27 rfl rfl (Rd.ownN [] rfl rfl) (cX (XOp.thawL (id (ql (args := [.agg #[arv, fsv, lsv]]) call9 rfl (toFront_spec har hfs hls (hla := (by first | assumption | rfl | omega | simp)) (hfl := (by first | assumption | rfl | omega | simp)) (hrl := (by first | assumption | rfl | omega | simp)) (hrb := (by first | assumption | rfl | omega | simp))) ?_))))))))
 rintro _ F1 _ le1 ⟨x1, x2, x3, rfl, hr1, hr2, hr3, hr4, rfl⟩
 refine ⟨[intsH 2 x1 ar, intsH 2 x2 fs, linesD 2 22 91 x3 ls], hr4, ?_⟩
 show XL _ _ _ _ _ _ _ (intsH 2 x1 ar :: intsH 2 x2 fs :: linesD 2 22 91 x3 ls :: cellsH b1 [arv, fsv, lsv] 27 :: L)
 refine qd (tv) rfl (cX (ql (args := [tv]) call10 rfl (toInt64S_spec ht (hlx := (by first | assumption | rfl | omega | simp))) ?_))
 rintro v1 _ _ _ ⟨rfl, hs1, rfl⟩
 refine qd (ii (n)) rfl (XL.freezeF [_] _ _ rfl (fun F2 le2 hz1 => ?_))
 replace har := har.mono le2
 replace hfs := hfs.mono le2
 replace hls := hls.mono le2
 replace ht := ht.mono le2
 have hf1 : IntsF F2 x1 ar := intsH.fz (xs := ar) hz1.fz
 refine XL.freezeF [_] _ _ rfl (fun F3 le3 hz2 => ?_)
 replace har := har.mono le3
 replace hfs := hfs.mono le3
 replace hls := hls.mono le3
 replace ht := ht.mono le3
 replace hf1 := hf1.mono le3
 have hf2 : IntsF F3 x2 fs := intsH.fz (xs := fs) hz2.fz
 refine XL.freezeF [_] _ _ rfl (fun F4 le4 hz3 => ?_)
 replace har := har.mono le4
 replace hfs := hfs.mono le4
 replace hls := hls.mono le4
 replace ht := ht.mono le4
 replace hf1 := hf1.mono le4
 replace hf2 := hf2.mono le4
 have hf3 : LinesF F4 x3 ls := linesD.fz hz3.fz
 refine XL.freezeF [] _ _ rfl (fun F5 le5 hz4 => ?_)
 replace har := har.mono le5
 replace hfs := hfs.mono le5
 replace hls := hls.mono le5
 replace ht := ht.mono le5
 replace hf1 := hf1.mono le5
 replace hf2 := hf2.mono le5
 replace hf3 := hf3.mono le5
 have hf4 : IntsF F5 v1 ((t)) := intsH.fz (xs := (t)) hz4.fz
 refine cX (ql (args := [.agg #[x1, x2, x3], v1, ii (n)]) call8 rfl (sCallBy_spec (n := n) hf1 hf2 hf3 hf4 (hla := (by first | assumption | rfl | omega | simp)) (hlf := (by first | assumption | rfl | omega | simp)) (hll := (by first | assumption | rfl | omega | simp)) (hlb := (by first | assumption | rfl | omega | simp)) (hlt := (by first | assumption | rfl | omega | simp))) ?_)
 rintro _ F6 _ le6 ⟨x4, rfl, hr5, rfl⟩
 replace har := har.mono le6
 replace hfs := hfs.mono le6
 replace hls := hls.mono le6
 replace ht := ht.mono le6
 refine qd (.tuple #[x4, ii ((callL ar fs ls ((t)) n).2)]) rfl (cX (jb (x4) rfl rfl (cX (jb (ii ((callL ar fs ls ((t)) n).2)) rfl rfl (qg (x4) rfl (qg (ii ((callL ar fs ls ((t)) n).2)) rfl (qb (qc (qa (cX (qC [arv, fsv, lsv] isAgg27 sizeOf27 rfl rfl (Rd.ownN [] rfl rfl) (cX (XOp.thawL (id (ql (args := [.agg #[arv, fsv, lsv]]) call9 rfl (toFront_spec har hfs hls (hla := (by first | assumption | rfl | omega | simp)) (hfl := (by first | assumption | rfl | omega | simp)) (hrl := (by first | assumption | rfl | omega | simp)) (hrb := (by first | assumption | rfl | omega | simp))) ?_)))))))))))))))
 rintro _ F7 _ le7 ⟨x5, x6, x7, rfl, hr6, hr7, hr8, hr9, rfl⟩
 refine ⟨[intsH 2 x5 ar, intsH 2 x6 fs, linesD 2 22 91 x7 ls], hr9, ?_⟩
 show XL _ _ _ _ _ _ _ (intsH 2 x5 ar :: intsH 2 x6 fs :: linesD 2 22 91 x7 ls :: cellsH b1 [arv, fsv, lsv] 27 :: L)
 refine cX (jq [sN, sN, sN] zeroValue34 rfl ?_)
 intro b2
 refine cX (jd [] _ [x5, x6, x7] jB rfl rfl rfl (qZ (jf (qT hr6)) (qZ (jf (qT hr7)) (qZ (jf (LinesF.isSl hr8)) jj))) rfl rfl rfl (qb (qc (qa (qd (tv) rfl (cX (ql (args := [tv]) call10 rfl (toInt64S_spec ht (hlx := (by first | assumption | rfl | omega | simp))) ?_)))))))
 rintro v2 _ _ _ ⟨rfl, hs2, rfl⟩
 refine qg (v2) rfl (qb (qc (qa (cX (qC [x5, x6, x7] isAgg34 jB rfl rfl (Rd.ownN [_] rfl rfl) (qd (v2) rfl (qd (ii (n)) rfl (cX (jC [_, _] _ _ rfl (fun F8 le8 hz5 => (id (jC [_, _] _ _ rfl (fun F9 le9 hz6 => (id (jC [_, _] _ _ rfl (fun F10 le10 hz7 => (id (jC [] _ _ rfl (fun F11 le11 hz8 => ?_)))))))))))))))))))
 have hf5 : IntsF _ x5 ar := (intsH.fz (xs := ar) hz5).mono (qt (qt le9 le10) le11)
 have hf6 : IntsF _ x6 fs := (intsH.fz (xs := fs) hz6).mono (qt le10 le11)
 have hf7 : LinesF _ x7 ls := (linesD.fz hz7).mono le11
 have hf8 : IntsF _ v2 ((t)) := intsH.fz (xs := (t)) hz8
 refine id (XOp.thawL (id (ql (args := [.agg #[x5, x6, x7], v2, ii (n)]) call11 rfl (CallBy_spec (n := n) hf5 hf6 hf7 hf8 (hsa := (by first | assumption | rfl | omega | simp)) (hlf := (by first | assumption | rfl | omega | simp)) (hll := (by first | assumption | rfl | omega | simp)) (hlb := (by first | assumption | rfl | omega | simp)) (hlt := (by first | assumption | rfl | omega | simp))) ?_)))
 rintro _ F12 _ le12 ⟨x8, rfl, hr10, hr11, rfl⟩
 refine ⟨[intsH 2 x8 ((callL ar fs ls ((t)) n).1)], hr11, ?_⟩
 show XL _ _ _ _ _ _ _ (intsH 2 x5 ar :: intsH 2 x6 fs :: linesD 2 22 91 x7 ls :: intsH 2 v2 ((t)) :: intsH 2 x8 ((callL ar fs ls ((t)) n).1) :: cellsH b2 [x5, x6, x7] 34 :: cellsH b1 [arv, fsv, lsv] 27 :: L)
 refine qd (.tuple #[x8, ii ((callL ar fs ls ((t)) n).2)]) rfl (cX (jb (x8) rfl rfl (cX (jb (ii ((callL ar fs ls ((t)) n).2)) rfl rfl (qg (x8) rfl (qg (ii ((callL ar fs ls ((t)) n).2)) rfl (qb (qc (qc (qa (qd (x8) rfl (qd (x4) rfl (cX (jC [_, _, _, _] _ _ rfl (fun F13 le13 hz9 => ?_)))))))))))))))
 have hf9 : IntsF _ x8 ((callL ar fs ls ((t)) n).1) := intsH.fz (xs := (callL ar fs ls ((t)) n).1) hz9
 refine id (ql (args := [x8, x4]) call12 rfl (eqInt64S_spec hf9 ((hr5.mono le13)) (hbd := (by first | assumption | rfl | omega | (left; simp; done) | (right; simp; done)))) ?_)
 rintro _ _ _ _ ⟨rfl, rfl, rfl⟩
 show XL _ _ _ _ _ _ _ (intsH 2 x8 ((callL ar fs ls ((t)) n).1) :: intsH 2 x5 ar :: intsH 2 x6 fs :: linesD 2 22 91 x7 ls :: intsH 2 v2 ((t)) :: cellsH b2 [x5, x6, x7] 34 :: cellsH b1 [arv, fsv, lsv] 27 :: L)
 refine cX (jo rfl (qd (.bool (decide (¬(((callL ar fs ls ((t)) n).1) = ((callL ar fs ls ((t)) n).1))))) rfl ?_))
 by_cases h3 : ¬(((callL ar fs ls ((t)) n).1) = ((callL ar fs ls ((t)) n).1))
 ·exact absurd (by first | rfl | exact ⟨rfl, rfl⟩ | exact ⟨⟨rfl, rfl⟩, rfl, rfl⟩ | simp) h3
 refine qo (t := 51) rfl (vF h3) (qm (ii ((callL ar fs ls ((t)) n).2)) rfl (qo (t := 51) rfl (vF h3) (qm (ii ((callL ar fs ls ((t)) n).2)) rfl (qo (t := 51) rfl (vF h3) (XOp.neq rfl rfl (cX (qL (.bool (decide (((callL ar fs ls ((t)) n).2 : Int) ≠ (callL ar fs ls ((t)) n).2))) (vF h3) rfl (qb ?_))))))))
 refine qv (p := ((callL ar fs ls ((t)) n).2 : Int) ≠ (callL ar fs ls ((t)) n).2) rfl (fun h4 => ?_) (fun h4 => ?_)
 ·exact absurd rfl h4
 refine qw (qc (qc ?_))
 refine X.drawG [intsH 2 x8 ((callL ar fs ls ((t)) n).1), intsH 2 x5 ar, intsH 2 x6 fs, linesD 2 22 91 x7 ls, intsH 2 v2 ((t)), cellsH b2 [x5, x6, x7] 34, cellsH b1 [arv, fsv, lsv] 27] L 3 [] [[], [], [1]] [] (phiG [pe (.agg #[x5, x6, x7]), pe (.agg #[arv, fsv, lsv]), fun FF us v => (.agg #[((aggAt v 0)), ((aggAt v 1)), ((aggAt v 2))] : Value) = v ∧ (IntsF FF ((aggAt v 0)) ar) ∧ (IntsF FF ((aggAt v 1)) fs) ∧ (LinesF FF ((aggAt v 2)) ls)]) (ownL []) mixed rfl rfl (by kernel_rfl) (by kernel_rfl) (MonoG.get (m1 (m1 (mC (fun le h => ⟨h.1, h.2.1.mono le, h.2.2.1.mono le, h.2.2.2.mono le⟩) MonoG.nil)))) ?_ ?_
 ·refine gD (fun W Fs R lF z9 => ?_) ?_
  ·replace har := har.mono lF
   replace hfs := hfs.mono lF
   replace hls := hls.mono lF
   replace ht := ht.mono lF
   replace hr5 := hr5.mono lF
   refine qj (qC [x5, x6, x7] isAgg34 jB rfl rfl (Rd.ownN [_, _, _, _, _] rfl rfl) ?_)
   exact ⟨rfl, rfl⟩
  refine gD (fun W Fs R lF z9 => ?_) ?_
  ·replace har := har.mono lF
   replace hfs := hfs.mono lF
   replace hls := hls.mono lF
   replace ht := ht.mono lF
   replace hr5 := hr5.mono lF
   refine qj (qC [arv, fsv, lsv] isAgg27 sizeOf27 rfl rfl (Rd.ownN [_, _, _, _, _, _] rfl rfl) ?_)
   exact ⟨rfl, rfl⟩
  refine gD (fun W Fs R lF z9 => ?_) ?_
  ·replace har := har.mono lF
   replace hfs := hfs.mono lF
   replace hls := hls.mono lF
   replace ht := ht.mono lF
   replace hr5 := hr5.mono lF
   rw [eS (l := [(1, _)]) ⟨z9 1 rfl, ⟨⟩⟩]
   refine qj (ql (args := [.agg #[arv, fsv, lsv]]) call9 rfl (toFront_spec har hfs hls (hla := (by first | assumption | rfl | omega | simp)) (hfl := (by first | assumption | rfl | omega | simp)) (hrl := (by first | assumption | rfl | omega | simp)) (hrb := (by first | assumption | rfl | omega | simp))) ?_)
   rintro _ F15 _ le15 ⟨x12, x13, x14, rfl, hr16, hr17, hr18, hr19, rfl⟩
   replace har := har.mono le15
   replace hfs := hfs.mono le15
   replace hls := hls.mono le15
   replace ht := ht.mono le15
   replace hr5 := hr5.mono le15
   exact ⟨⟨rfl, hr16, hr17, hr18⟩, rfl⟩
  exact stepsG.nil
 intro W F16 le16 hphi
 obtain ⟨e2, f2_1hr1, f2_1hr2, f2_1hr3⟩ := hphi 2 (by decide)
 generalize hu1 : ((aggAt (W 2) 0)) = u1 at e2 f2_1hr1 f2_1hr2 f2_1hr3
 generalize hu2 : ((aggAt (W 2) 1)) = u2 at e2 f2_1hr1 f2_1hr2 f2_1hr3
 generalize hu3 : ((aggAt (W 2) 2)) = u3 at e2 f2_1hr1 f2_1hr2 f2_1hr3
 rw [eS (l := [(0, _), (2, (.agg #[u1, u2, u3]))]) ⟨(hphi 0 (by decide)), (e2).symm, ⟨⟩⟩]
 replace har := har.mono le16
 replace hfs := hfs.mono le16
 replace hls := hls.mono le16
 replace ht := ht.mono le16
 replace hr5 := hr5.mono le16
 show XL _ _ _ _ _ _ _ (intsH 2 x8 ((callL ar fs ls ((t)) n).1) :: intsH 2 x5 ar :: intsH 2 x6 fs :: linesD 2 22 91 x7 ls :: intsH 2 v2 ((t)) :: cellsH b2 [x5, x6, x7] 34 :: cellsH b1 [arv, fsv, lsv] 27 :: L)
 refine cX (jC [_] _ _ rfl (fun F17 le17 hz10 => (id (jC [_] _ _ rfl (fun F18 le18 hz11 => (id (jC [_] _ _ rfl (fun F19 le19 hz12 => ?_))))))))
 have hf10 : IntsF _ x5 ar := (intsH.fz (xs := ar) hz10).mono (qt le18 le19)
 have hf11 : IntsF _ x6 fs := (intsH.fz (xs := fs) hz11).mono le19
 have hf12 : LinesF _ x7 ls := linesD.fz hz12
 refine id (ql (args := [.agg #[x5, x6, x7], .agg #[u1, u2, u3]]) call13 rfl (eqFront_spec hf10 hf11 hf12 ((f2_1hr1.mono (qt (qt le17 le18) le19))) ((f2_1hr2.mono (qt (qt le17 le18) le19))) ((f2_1hr3.mono (qt (qt le17 le18) le19))) (hcl := (by first | assumption | rfl | omega | simp)) (hfl := (by first | assumption | rfl | omega | simp)) (hal := (by first | assumption | rfl | omega | simp)) (hbd := (by first | assumption | rfl | omega | simp))) ?_)
 rintro _ _ _ _ ⟨rfl, rfl, rfl⟩
 show XL _ _ _ _ _ _ _ (intsH 2 x5 ar :: intsH 2 x6 fs :: linesD 2 22 91 x7 ls :: intsH 2 x8 ((callL ar fs ls ((t)) n).1) :: intsH 2 v2 ((t)) :: cellsH b2 [x5, x6, x7] 34 :: cellsH b1 [arv, fsv, lsv] 27 :: L)
 refine cX (jo rfl (qb ?_))
 refine qv (p := ¬(ar = ar ∧ fs = fs ∧ ls = ls)) rfl (fun h5 => ?_) (fun h5 => ?_)
 ·exact absurd (by first | rfl | exact ⟨rfl, rfl⟩ | exact ⟨⟨rfl, rfl⟩, rfl, rfl⟩ | simp) h5
 refine qw (qc (qc (qa (qd (v2) rfl (qd (tv) rfl (cX (ql (args := [tv]) call10 rfl (toInt64S_spec ht (hlx := (by first | assumption | rfl | omega | simp))) ?_)))))))
 rintro v3 _ _ _ ⟨rfl, hs3, rfl⟩
 refine cX (jC [_, _, _, _, _] _ _ rfl (fun F20 le20 hz13 => (id (jC [] _ _ rfl (fun F21 le21 hz14 => ?_)))))
 have hf13 : IntsF _ v2 ((t)) := (intsH.fz (xs := (t)) hz13).mono le21
 have hf14 : IntsF _ v3 ((t)) := intsH.fz (xs := (t)) hz14
 refine id (ql (args := [v2, v3]) call12 rfl (eqInt64S_spec hf13 hf14 (hbd := (by first | assumption | rfl | omega | (left; simp; done) | (right; simp; done)))) ?_)
 rintro _ _ _ _ ⟨rfl, rfl, rfl⟩
 show XL _ _ _ _ _ _ _ (intsH 2 v2 ((t)) :: intsH 2 v3 ((t)) :: intsH 2 x5 ar :: intsH 2 x6 fs :: linesD 2 22 91 x7 ls :: intsH 2 x8 ((callL ar fs ls ((t)) n).1) :: cellsH b2 [x5, x6, x7] 34 :: cellsH b1 [arv, fsv, lsv] 27 :: L)
 refine cX (jo rfl (qb ?_))
 refine qv (p := ¬(((t)) = ((t)))) rfl (fun h6 => ?_) (fun h6 => ?_)
 ·exact absurd (by first | rfl | exact ⟨rfl, rfl⟩ | exact ⟨⟨rfl, rfl⟩, rfl, rfl⟩ | simp) h6
 refine qw (qc (qa (qg (ii (1)) rfl (qb (qc (qa (cX (qC [x5, x6, x7] isAgg34 jB rfl rfl (Rd.ownN [_, _, _, _, _, _] rfl rfl) (qd (ii (1)) rfl (XL.weaken (js (A := [_, _, _, _])) ?_))))))))))
 show XL _ _ _ _ _ _ _ (linesD 2 22 91 x7 ls :: intsH 2 v2 ((t)) :: intsH 2 v3 ((t)) :: intsH 2 x5 ar :: intsH 2 x6 fs :: intsH 2 x8 ((callL ar fs ls ((t)) n).1) :: cellsH b2 [x5, x6, x7] 34 :: cellsH b1 [arv, fsv, lsv] 27 :: L)
 refine XL.weaken (js (A := [_, _, _, _])) ?_
 show XL _ _ _ _ _ _ _ (intsH 2 x6 fs :: linesD 2 22 91 x7 ls :: intsH 2 v2 ((t)) :: intsH 2 v3 ((t)) :: intsH 2 x5 ar :: intsH 2 x8 ((callL ar fs ls ((t)) n).1) :: cellsH b2 [x5, x6, x7] 34 :: cellsH b1 [arv, fsv, lsv] 27 :: L)
 refine XL.weaken (js (A := [_, _, _, _])) ?_
 show XL _ _ _ _ _ _ _ (intsH 2 x5 ar :: intsH 2 x6 fs :: linesD 2 22 91 x7 ls :: intsH 2 v2 ((t)) :: intsH 2 v3 ((t)) :: intsH 2 x8 ((callL ar fs ls ((t)) n).1) :: cellsH b2 [x5, x6, x7] 34 :: cellsH b1 [arv, fsv, lsv] 27 :: L)
 refine cX (ql (args := [.agg #[x5, x6, x7], ii (1)]) call14 rfl (markFront_spec (by (try simp only [List.length_append]); omega) (by omega) (by first | assumption | exact hcn | exact hcnls)) ?_)
 rintro _ _ _ _ ⟨m1, m2, m3, hm1, hk1, rfl, rfl, rfl⟩
 have hml1 := congrArg List.length hm1
 rw [iota_len] at hml1
 try simp only [List.length_append] at hml1
 refine qg (ii (1 + (((ar) ++ (fs) ++ (ls.flatMap flatLn)).length : Int))) rfl (qb (qc (qa (qd (v2) rfl (qd (ii (1 + (((ar) ++ (fs) ++ (ls.flatMap flatLn)).length : Int))) rfl (XL.weaken (js (A := [_, _, _])) ?_))))))
 show XL _ _ _ _ _ _ _ (intsH 2 v2 ((t)) :: intsH 2 x5 m1 :: intsH 2 x6 m2 :: linesD 2 22 91 x7 m3 :: intsH 2 v3 ((t)) :: intsH 2 x8 ((callL ar fs ls ((t)) n).1) :: cellsH b2 [x5, x6, x7] 34 :: cellsH b1 [arv, fsv, lsv] 27 :: L)
 refine cX (ql (args := [v2, ii (1 + (((ar) ++ (fs) ++ (ls.flatMap flatLn)).length : Int))]) call15 rfl (markInt64S_spec (by (try simp only [List.length_append]); omega)) ?_)
 rintro _ _ _ _ ⟨m4, hm2, rfl, rfl, rfl⟩
 have hml2 := congrArg List.length hm2
 rw [iota_len] at hml2
 try simp only [List.length_append] at hml2
 refine qg (ii ((1 + (((ar) ++ (fs) ++ (ls.flatMap flatLn)).length : Int)) + (((((t)))).length : Int))) rfl (qb (qc (qc (qa (qd (ii ((1 + (((ar) ++ (fs) ++ (ls.flatMap flatLn)).length : Int)) + (((((t)))).length : Int))) rfl (cX (qI rfl rfl (qd (.bool (decide (((1 + (((ar) ++ (fs) ++ (ls.flatMap flatLn)).length : Int)) + (((((t)))).length : Int) : Int) < 0))) rfl ?_))))))))
 by_cases h7 : ((1 + (((ar) ++ (fs) ++ (ls.flatMap flatLn)).length : Int)) + (((((t)))).length : Int) : Int) < 0
 ·exact absurd h7 (by omega)
 refine qo (t := 74) rfl (vF h7) (qm (x8) rfl (qo (t := 74) rfl (vF h7) (qm (x4) rfl (qo (t := 74) rfl (vF h7) (jC [_, _, _, _, _] _ _ rfl (fun F22 le22 hz15 => ?_))))))
 have hf15 : IntsF _ x8 ((callL ar fs ls ((t)) n).1) := intsH.fz (xs := (callL ar fs ls ((t)) n).1) hz15
 refine id (ql (args := [x8, x4]) call12 rfl (eqInt64S_spec hf15 ((hr5.mono le22)) (hbd := (by first | assumption | rfl | omega | (left; simp; done) | (right; simp; done)))) ?_)
 rintro _ _ _ _ ⟨rfl, rfl, rfl⟩
 show XL _ _ _ _ _ _ _ (intsH 2 x8 ((callL ar fs ls ((t)) n).1) :: intsH 2 v2 m4 :: intsH 2 x5 m1 :: intsH 2 x6 m2 :: linesD 2 22 91 x7 m3 :: intsH 2 v3 ((t)) :: cellsH b2 [x5, x6, x7] 34 :: cellsH b1 [arv, fsv, lsv] 27 :: L)
 refine qo (t := 74) rfl (vF h7) (jo rfl (cX (qL (.bool (decide (¬(((callL ar fs ls ((t)) n).1) = ((callL ar fs ls ((t)) n).1))))) (vF h7) rfl (qd (.bool (decide (¬(((callL ar fs ls ((t)) n).1) = ((callL ar fs ls ((t)) n).1))))) rfl (qo (t := 80) rfl (vF h3) (qm (ii ((callL ar fs ls ((t)) n).2)) rfl (qo (t := 80) rfl (vF h3) (qm (ii ((callL ar fs ls ((t)) n).2)) rfl (qo (t := 80) rfl (vF h3) (XOp.neq rfl rfl (cX (qL (.bool (decide (((callL ar fs ls ((t)) n).2 : Int) ≠ (callL ar fs ls ((t)) n).2))) (vF h3) rfl (qb (X.condF (vF h4) (qw (qc (qa ?_)))))))))))))))))
 refine qg (ii (1)) rfl (qb (qc (qa (qd (x8) rfl (qd (ii (1)) rfl (cX (ql (args := [x8, ii (1)]) call15 rfl (markInt64S_spec (by (try simp only [List.length_append]); omega)) ?_)))))))
 rintro _ _ _ _ ⟨m5, hm3, rfl, rfl, rfl⟩
 have hml3 := congrArg List.length hm3
 rw [iota_len] at hml3
 try simp only [List.length_append] at hml3
 refine qg (ii (1 + (((((callL ar fs ls ((t)) n).1))).length : Int))) rfl (qb (qc (qa (qg (ii (1)) rfl (qb (qc (qa (qd (x8) rfl (qd (ii (1)) rfl (cX (jC [] _ _ rfl (fun F23 le23 hz16 => ?_))))))))))))
 have hf16 : IntsF _ x8 m5 := intsH.fz (xs := m5) hz16
 refine id (ql (args := [x8, ii (1)]) call16 rfl (heldInt64S_spec (z := 1) hf16 (hzb := (by first | assumption | rfl | omega | simp))) ?_)
 rintro _ _ _ _ ⟨rfl, rfl, rfl⟩
 show XL _ _ _ _ _ _ _ (intsH 2 x8 m5 :: intsH 2 v2 m4 :: intsH 2 x5 m1 :: intsH 2 x6 m2 :: linesD 2 22 91 x7 m3 :: intsH 2 v3 ((t)) :: cellsH b2 [x5, x6, x7] 34 :: cellsH b1 [arv, fsv, lsv] 27 :: L)
 refine qg (ii (heldF m5 1)) rfl (qb (qc (qc (qa (qd (ii (heldF m5 1)) rfl (cX (qI rfl rfl (qb ?_))))))))
 refine qv (p := (heldF m5 1 : Int) < 0) rfl (fun h8 => ?_) (fun h8 => ?_)
 ·rw [hm3, heldF_iota] at h8
  exact absurd h8 (by omega)
 have hh2 := (fun (l : List Int) (k k2 : Int) (n : Nat) (h : l = iota k n) (hk : k2 = k) => show heldF l k2 = k + n from (by subst hk; rw [h, heldF_iota])) _ _ (1) _ hm3 (by first | rfl | omega)
 have hh2l := hh2
 try simp only [List.length_append] at hh2l
 refine qw (qc (qc (qa (qd (ii (heldF m5 1)) rfl (qd (ii (1 + (((((callL ar fs ls ((t)) n).1))).length : Int))) rfl (cX (XOp.neq rfl rfl (qb ?_))))))))
 refine qv (p := (heldF m5 1 : Int) ≠ 1 + (((((callL ar fs ls ((t)) n).1))).length : Int)) rfl (fun h9 => ?_) (fun h9 => ?_)
 ·exact absurd (by rw [hm3, heldF_iota]) h9
 refine qw (qc (qa (cX (qC [arv, fsv, lsv] isAgg27 sizeOf27 rfl rfl (Rd.ownN [_, _, _, _, _, _, _] rfl rfl) (cX (XOp.thawL (id (ql (args := [.agg #[arv, fsv, lsv]]) call9 rfl (toFront_spec har hfs hls (hla := (by first | assumption | rfl | omega | simp)) (hfl := (by first | assumption | rfl | omega | simp)) (hrl := (by first | assumption | rfl | omega | simp)) (hrb := (by first | assumption | rfl | omega | simp))) ?_))))))))
 rintro _ F24 _ le24 ⟨x15, x16, x17, rfl, hr20, hr21, hr22, hr23, rfl⟩
 refine ⟨[intsH 2 x15 ar, intsH 2 x16 fs, linesD 2 22 91 x17 ls], hr23, ?_⟩
 show XL _ _ _ _ _ _ _ (intsH 2 x15 ar :: intsH 2 x16 fs :: linesD 2 22 91 x17 ls :: intsH 2 x8 m5 :: intsH 2 v2 m4 :: intsH 2 x5 m1 :: intsH 2 x6 m2 :: linesD 2 22 91 x7 m3 :: intsH 2 v3 ((t)) :: cellsH b2 [x5, x6, x7] 34 :: cellsH b1 [arv, fsv, lsv] 27 :: L)
 refine qd (tv) rfl (cX (ql (args := [tv]) call10 rfl (toInt64S_spec ht (hlx := (by first | assumption | rfl | omega | simp))) ?_))
 rintro v4 _ _ _ ⟨rfl, hs4, rfl⟩
 refine qd (ii (n)) rfl (cX (jC [_] _ _ rfl (fun F25 le25 hz17 => (id (jC [_] _ _ rfl (fun F26 le26 hz18 => (id (jC [_] _ _ rfl (fun F27 le27 hz19 => (id (jC [] _ _ rfl (fun F28 le28 hz20 => ?_))))))))))))
 have hf17 : IntsF _ x15 ar := (intsH.fz (xs := ar) hz17).mono (qt (qt le26 le27) le28)
 have hf18 : IntsF _ x16 fs := (intsH.fz (xs := fs) hz18).mono (qt le27 le28)
 have hf19 : LinesF _ x17 ls := (linesD.fz hz19).mono le28
 have hf20 : IntsF _ v4 ((t)) := intsH.fz (xs := (t)) hz20
 refine id (XOp.thawL (id (ql (args := [.agg #[x15, x16, x17], v4, ii (n)]) call11 rfl (CallBy_spec (n := n) hf17 hf18 hf19 hf20 (hsa := (by first | assumption | rfl | omega | simp)) (hlf := (by first | assumption | rfl | omega | simp)) (hll := (by first | assumption | rfl | omega | simp)) (hlb := (by first | assumption | rfl | omega | simp)) (hlt := (by first | assumption | rfl | omega | simp))) ?_)))
 rintro _ F29 _ le29 ⟨x18, rfl, hr24, hr25, rfl⟩
 refine ⟨[intsH 2 x18 ((callL ar fs ls ((t)) n).1)], hr25, ?_⟩
 show XL _ _ _ _ _ _ _ (intsH 2 x15 ar :: intsH 2 x16 fs :: linesD 2 22 91 x17 ls :: intsH 2 v4 ((t)) :: intsH 2 x18 ((callL ar fs ls ((t)) n).1) :: intsH 2 x8 m5 :: intsH 2 v2 m4 :: intsH 2 x5 m1 :: intsH 2 x6 m2 :: linesD 2 22 91 x7 m3 :: intsH 2 v3 ((t)) :: cellsH b2 [x5, x6, x7] 34 :: cellsH b1 [arv, fsv, lsv] 27 :: L)
 refine qd (.tuple #[x18, ii ((callL ar fs ls ((t)) n).2)]) rfl (cX (jb (x18) rfl rfl (cX (jb (ii ((callL ar fs ls ((t)) n).2)) rfl rfl (qg (x18) rfl (qg (ii ((callL ar fs ls ((t)) n).2)) rfl (qb (qc (qc (qa (qd (x18) rfl (qd (x4) rfl (cX (jC [_, _, _, _] _ _ rfl (fun F30 le30 hz21 => ?_)))))))))))))))
 have hf21 : IntsF _ x18 ((callL ar fs ls ((t)) n).1) := intsH.fz (xs := (callL ar fs ls ((t)) n).1) hz21
 refine id (ql (args := [x18, x4]) call12 rfl (eqInt64S_spec hf21 ((hr5.mono le30)) (hbd := (by first | assumption | rfl | omega | (left; simp; done) | (right; simp; done)))) ?_)
 rintro _ _ _ _ ⟨rfl, rfl, rfl⟩
 show XL _ _ _ _ _ _ _ (intsH 2 x18 ((callL ar fs ls ((t)) n).1) :: intsH 2 x15 ar :: intsH 2 x16 fs :: linesD 2 22 91 x17 ls :: intsH 2 v4 ((t)) :: intsH 2 x8 m5 :: intsH 2 v2 m4 :: intsH 2 x5 m1 :: intsH 2 x6 m2 :: linesD 2 22 91 x7 m3 :: intsH 2 v3 ((t)) :: cellsH b2 [x5, x6, x7] 34 :: cellsH b1 [arv, fsv, lsv] 27 :: L)
 refine cX (jo rfl (qd (.bool (decide (¬(((callL ar fs ls ((t)) n).1) = ((callL ar fs ls ((t)) n).1))))) rfl (qo (t := 109) rfl (vF h3) (qm (ii ((callL ar fs ls ((t)) n).2)) rfl (qo (t := 109) rfl (vF h3) (qm (ii ((callL ar fs ls ((t)) n).2)) rfl (qo (t := 109) rfl (vF h3) (XOp.neq rfl rfl (cX (qL (.bool (decide (((callL ar fs ls ((t)) n).2 : Int) ≠ (callL ar fs ls ((t)) n).2))) (vF h3) rfl (qb (X.condF (vF h4) (qw (qc (qa (qg (ii (1)) rfl ?_))))))))))))))))
 refine qb (qc (qa (qd (x8) rfl (qd (ii (1)) rfl (cX (jC [_, _, _, _, _] _ _ rfl (fun F31 le31 hz22 => ?_)))))))
 have hf22 : IntsF _ x8 m5 := intsH.fz (xs := m5) hz22
 refine id (ql (args := [x8, ii (1)]) call16 rfl (heldInt64S_spec (z := 1) hf22 (hzb := (by first | assumption | rfl | omega | simp))) ?_)
 rintro _ _ _ _ ⟨rfl, rfl, rfl⟩
 show XL _ _ _ _ _ _ _ (intsH 2 x8 m5 :: intsH 2 x18 ((callL ar fs ls ((t)) n).1) :: intsH 2 x15 ar :: intsH 2 x16 fs :: linesD 2 22 91 x17 ls :: intsH 2 v4 ((t)) :: intsH 2 v2 m4 :: intsH 2 x5 m1 :: intsH 2 x6 m2 :: linesD 2 22 91 x7 m3 :: intsH 2 v3 ((t)) :: cellsH b2 [x5, x6, x7] 34 :: cellsH b1 [arv, fsv, lsv] 27 :: L)
 refine qg (ii (heldF m5 1)) rfl (qb (qc (qc (qa (qd (ii (heldF m5 1)) rfl (cX (qI rfl rfl (qb (X.condF (vF h8) (qw (qc (qc (qa (qd (ii (heldF m5 1)) rfl (qd (ii (1 + (((((callL ar fs ls ((t)) n).1))).length : Int))) rfl (cX (XOp.neq rfl rfl ?_)))))))))))))))))
 refine qb (X.condF (vF h9) (qw (qc (qa (qg (.bool (true)) rfl (qb (qq (qn (L' := L) [.bool (true)] (.bool (true)) (.tmp rfl .nil) rfl rF (qt (qt (qt (qt (qt le2 le3) le4) le5) le6) le16) (sD (sD (sD (sD (sD (sD (sD (sD (sD (sD (sD (sD (sD sR))))))))))))) ?_))))))))
 exact ⟨rfl, rfl, rfl⟩
end Go.Proofs.YtcdjpapjjoldeaaGreat
